/- A stream gives bytes, the document's way: walked. No condition. -/
import Derived.Test.YtmocccmffmacdaaKecR
import Derived.Test.YtmocccmffmacdaaPl01Inx1
namespace Go.Proofs.Ytmocccmffmacdaa.Kec
open Go.RowKit Go.Proofs.YtmocccmffmacdaaW.PrintWords Go.Proofs.YtmocccmffmacdaaW.PrintLast Go.Proofs.YtmocccmffmacdaaW.PrintMore Go.Proofs.Ytmocccmffmacdaa.Sha Go.Proofs.Ytmocccmffmacdaa.Pl01In
set_option linter.unusedVariables false
set_option linter.unusedSimpArgs false
/-- a stream's state, place and what it has given -/
structure SK where
  st : ByteArray
  at_ : Nat
  out : ByteArray
/-- one step: as many bytes as the state still has, and as are asked for -/
def skStep (n : Nat) (x : SK) : SK :=
  let y : SK := if x.at_ = 168 then ⟨perm x.st, 0, x.out⟩ else x
  let k := if 168 - y.at_ > n - x.out.size then n - x.out.size else 168 - y.at_
  ⟨y.st, y.at_ + k, x.out ++ y.st.extract y.at_ (y.at_ + k)⟩
def skTo (n : Nat) (x : SK) : Nat → SK
  | 0 => x
  | i + 1 => if (skTo n x i).out.size < n then skStep n (skTo n x i) else skTo n x i
def SkOk (x : SK) : Prop := x.st.size = 200 ∧ x.at_ ≤ 168
def sOk (st : ByteArray) (a n : Int) : Bool := decide (0 ≤ n ∧ n ≤ 4000 ∧ st.size = 200 ∧ 0 ≤ a ∧ a ≤ 168)
/-- What taking n bytes of a stream gives. -/
def sTake (st : ByteArray) (a n : Int) : ByteArray × Int × ByteArray :=
  if sOk st a n = true then
    let y := skTo n.toNat ⟨st, a.toNat, ⟨#[]⟩⟩ (n.toNat + 1)
    (y.st, (y.at_ : Int), y.out)
  else (st, a, ⟨#[]⟩)
theorem step_ok (n : Nat) (x : SK) (h : SkOk x) (hn : x.out.size < n) : SkOk (skStep n x) ∧ x.out.size < (skStep n x).out.size ∧ (skStep n x).out.size ≤ n := by
  obtain ⟨h1, h2⟩ := h
  unfold skStep
  by_cases h168 : x.at_ = 168
  · rw [if_pos h168]
    simp only
    refine ⟨⟨by show (perm x.st).size = 200; rw [perm_size, h1], ?_⟩, ?_, ?_⟩
    · show 0 + _ ≤ 168
      split <;> omega
    · rw [ByteArray.size_append, ByteArray.size_extract, perm_size, h1]
      split <;> omega
    · rw [ByteArray.size_append, ByteArray.size_extract, perm_size, h1]
      split <;> omega
  · rw [if_neg h168]
    simp only
    refine ⟨⟨h1, ?_⟩, ?_, ?_⟩
    · show x.at_ + _ ≤ 168
      split <;> omega
    · rw [ByteArray.size_append, ByteArray.size_extract, h1]
      split <;> omega
    · rw [ByteArray.size_append, ByteArray.size_extract, h1]
      split <;> omega
theorem skTo_ok (n : Nat) (x : SK) (h : SkOk x) (hx : x.out.size ≤ n) : ∀ i, SkOk (skTo n x i) ∧ (skTo n x i).out.size ≤ n ∧ min n (x.out.size + i) ≤ (skTo n x i).out.size
  | 0 => ⟨h, hx, by show _ ≤ x.out.size; omega⟩
  | i + 1 => by
    obtain ⟨a1, a2, a3⟩ := skTo_ok n x h hx i
    show SkOk (if _ then _ else _) ∧ (if _ then _ else _ : SK).out.size ≤ n ∧ _ ≤ (if _ then _ else _ : SK).out.size
    by_cases hl : (skTo n x i).out.size < n
    · rw [if_pos hl]
      obtain ⟨b1, b2, b3⟩ := step_ok n _ a1 hl
      exact ⟨b1, b3, by omega⟩
    · rw [if_neg hl]
      exact ⟨a1, a2, by omega⟩
theorem skTo_end (n : Nat) (x : SK) (i : Nat) (h : ¬ (skTo n x i).out.size < n) : ∀ j, skTo n x (i + j) = skTo n x i
  | 0 => rfl
  | j + 1 => by
    show (if (skTo n x (i + j)).out.size < n then skStep n (skTo n x (i + j)) else skTo n x (i + j)) = _
    rw [skTo_end n x i h j, if_neg h]
theorem size28 : (Try.prog.info? 28).map (·.size) = some 2 := by kernel_rfl
section
variable {ops : Array Oper} {rest : List Oper} {o : Oper} {a : Act} {w : World} {Q : Exit → Act → World → Prop} {x y x' y' : Value} {b : Nat} {t : TypeId}
theorem ld28 (hb : w.heap[b]? = some (.cells #[x, y] t (0, 0))) (u : Operand) (hgd : o.guard = none) (ho : o.op = .load 28 u) (hx : a.eval u = .pointer (some ⟨b, 0, none⟩)) (h : wpList Try.prog ops Q rest (a.put o.dst (.agg #[x, y])) w) : wpList Try.prog ops Q (o :: rest) a w :=
  wpList_load_row hgd 28 u ho b hx t _ _ _ hb Try.underlying28 rfl (by rw [size28]; rfl) h
theorem st28 (hb : w.heap[b]? = some (.cells #[x, y] t (0, 0))) (u v : Operand) (hgd : o.guard = none) (ho : o.op = .store 28 u v) (hx : a.eval u = .pointer (some ⟨b, 0, none⟩)) (hy : a.eval v = .agg #[x', y']) (h1 : (#[x', y'] : Array Value).all (·.oneCell') = true) (h : wpList Try.prog ops Q rest (a.put o.dst undef) (w.setRow b #[x', y'])) : wpList Try.prog ops Q (o :: rest) a w :=
  wpList_store_row hgd 28 u v ho b _ hx hy t _ hb (by rw [size28]; rfl) rfl h1 h
end
theorem ret28 {fn : Func} {p u : Tmp} (h : fn.results = #[.cell p 28, .tmp u]) (tmps : Array Value) (w : World) {b : Nat} {t : TypeId} {x y : Value} {s : ByteArray} (hb : w.heap[b]? = some (.cells #[x, y] t (0, 0))) (hp : tmps.getD p undef = .pointer (some ⟨b, 0, none⟩)) (hu : tmps.getD u undef = .string s) : (results fn tmps).run Try.prog w = .ok (.tuple #[.agg #[x, y], .string s]) w := by
  rw [results_cell_tmp h, hp, hu]
  simp [asAddr, Result.andThen, run_loadVar_row w b t 28 #[x, y] (0, 0) _ hb Try.underlying28 rfl (by rw [size28]; rfl)]
abbrev StAt (W : World) (b : Nat) (st : ByteArray) (a : Int) : Prop := W.heap[b]? = some (.cells #[.string st, .int .i64 a] 28 (0, 0))
theorem st_cells {W : World} {b : Nat} {st : ByteArray} {a : Int} (h : StAt W b st a) : W.cell? ⟨b, 0, none⟩ = some (.string st) ∧ W.cell? ⟨b, 1, none⟩ = some (.int .i64 a) ∧ W.frozen? ⟨b, 0, none⟩ = false ∧ W.frozen? ⟨b, 1, none⟩ = false :=
  ⟨blk_cell h 0, blk_cell h 1, blk_frozen h 0, blk_frozen h 1⟩
theorem in_yes (x lo hi : Int) (h1 : lo ≤ x) (h2 : x ≤ hi) : spec_l01In.f x lo hi = some true := by
  unfold spec_l01In.f
  simp [h1, h2]
theorem in_no (x lo hi : Int) (h : ¬ (lo ≤ x ∧ x ≤ hi)) : spec_l01In.f x lo hi = some false := by
  unfold spec_l01In.f
  by_cases h1 : lo ≤ x
  · simp [h1]; omega
  · simp [h1]
set_option maxHeartbeats 8000000 in
set_option maxRecDepth 100000 in
theorem specTake_no (st : ByteArray) (a n : Int) (hsz : st.size ≤ 1000000000) (h : sOk st a n = false) (w : World) : Calls Try.prog 21 #[.agg #[.string st, .int .i64 a], .int .i64 n] w fun e_ w' => e_ = .returned (.tuple #[.agg #[.string st, .int .i64 a], .string ⟨#[]⟩]) ∧ Below w.heap.size w w' := by
  have HB := Aside0.mk (Below.refl w.heap.size w)
  unfold sOk at h
  rw [decide_eq_false_iff_not] at h
  have HW : Aside0 (∀ V, Below (w.heap.size + 2) ((w.alloc (.cells #[.string st, .int .i64 a] 28)).alloc (.cells #[.string ⟨#[]⟩, .int .i64 0] 28)) V → Below w.heap.size w V ∧ StAt V w.heap.size st a ∧ StAt V (w.heap.size + 1) ⟨#[]⟩ 0) := ⟨fun W h =>
    ⟨((HB.out.alloc (Nat.le_refl _) _).alloc (by rw [sz_alloc]; omega) _).trans (h.mono (by omega)), (h.block _ (by omega)).trans (blk_alloc (blk_new _ _) _), (h.block _ (by omega)).trans (heap_alloc2_new w _ _)⟩⟩
  have h0 : Below (w.heap.size + 2) ((w.alloc (.cells #[.string st, .int .i64 a] 28)).alloc (.cells #[.string ⟨#[]⟩, .int .i64 0] 28)) ((w.alloc (.cells #[.string st, .int .i64 a] 28)).alloc (.cells #[.string ⟨#[]⟩, .int .i64 0] 28)) := Below.refl _ _
  have HX := Aside0.mk (HW.out _ h0)
  clear h0
  by_cases h1 : 0 ≤ n ∧ n ≤ 4000
  · have HI := Aside0.mk (in_yes n 0 4000 h1.1 h1.2)
    by_cases h2 : st.size = 200
    · have HI2 := Aside0.mk (in_no a 0 168 (fun q => h ⟨h1.1, h1.2, h2, q.1, q.2⟩))
      have h3 : ((st.size : Int) != 200) = false := by rw [h2]; rfl
      clear h h1 h2
      go_enter Try.func21, Try.ntmps21
      go_wp2_with (first
        | (go_at_call 36; (with_reducible refine (spec_l01In.calls n 0 4000 _ _ HI.out).mono ?_); rintro e_ w1 ⟨rfl, ⟨n1, rfl⟩⟩; obtain ⟨c0, c1, _, _⟩ := st_cells (HW.out _ (pw_below_drewN (Below.refl _ _) n1)).2.1)
        | (go_at_call 36; (with_reducible refine (spec_l01In.calls a 0 168 _ _ HI2.out).mono ?_); rintro e_ w1 ⟨rfl, ⟨n2, rfl⟩⟩)
        | ((with_reducible refine gate_dst (N := 23) rfl ?_); refine ld28 HX.out.2.1 (.tmp 2) rfl rfl rfl ?_)
        | ((with_reducible refine gate_store (t := 28) (p := 4) rfl ?_); refine st28 HX.out.2.2 (.tmp 4) (.tmp 23) rfl rfl rfl rfl (by simp [Value.oneCell']) ?_))
      (try simp only [Exit.inBlock, Exit.then])
      exact bodyPost_ret (ret28 (x := .string st) (y := .int .i64 a) (s := ⟨#[]⟩) rfl _ _ (setRow_heap _ _ _ _ _ _ (HW.out _ (pw_below_drewN (Below.refl _ _) _)).2.2) rfl rfl) rfl ⟨rfl, setRow_below (HW.out _ (pw_below_drewN (Below.refl _ _) _)).1 (by omega) _⟩
    · have h3 : ((st.size : Int) != 200) = true := by rw [bne_iff_ne]; omega
      clear h h1 h2
      go_enter Try.func21, Try.ntmps21
      go_wp2_with (first
        | (go_at_call 36; (with_reducible refine (spec_l01In.calls n 0 4000 _ _ HI.out).mono ?_); rintro e_ w1 ⟨rfl, ⟨n1, rfl⟩⟩; obtain ⟨c0, c1, _, _⟩ := st_cells (HW.out _ (pw_below_drewN (Below.refl _ _) n1)).2.1)
        | ((with_reducible refine gate_dst (N := 23) rfl ?_); refine ld28 HX.out.2.1 (.tmp 2) rfl rfl rfl ?_)
        | ((with_reducible refine gate_store (t := 28) (p := 4) rfl ?_); refine st28 HX.out.2.2 (.tmp 4) (.tmp 23) rfl rfl rfl rfl (by simp [Value.oneCell']) ?_))
      (try simp only [Exit.inBlock, Exit.then])
      exact bodyPost_ret (ret28 (x := .string st) (y := .int .i64 a) (s := ⟨#[]⟩) rfl _ _ (setRow_heap _ _ _ _ _ _ (HW.out _ (pw_below_drewN (Below.refl _ _) _)).2.2) rfl rfl) rfl ⟨rfl, setRow_below (HW.out _ (pw_below_drewN (Below.refl _ _) _)).1 (by omega) _⟩
  · have HI := Aside0.mk (in_no n 0 4000 h1)
    clear h h1
    go_enter Try.func21, Try.ntmps21
    go_wp2_with (first
        | (go_at_call 36; (with_reducible refine (spec_l01In.calls n 0 4000 _ _ HI.out).mono ?_); rintro e_ w1 ⟨rfl, ⟨n1, rfl⟩⟩; obtain ⟨c0, c1, _, _⟩ := st_cells (HW.out _ (pw_below_drewN (Below.refl _ _) n1)).2.1)
        | ((with_reducible refine gate_dst (N := 23) rfl ?_); refine ld28 HX.out.2.1 (.tmp 2) rfl rfl rfl ?_)
        | ((with_reducible refine gate_store (t := 28) (p := 4) rfl ?_); refine st28 HX.out.2.2 (.tmp 4) (.tmp 23) rfl rfl rfl rfl (by simp [Value.oneCell']) ?_))
    (try simp only [Exit.inBlock, Exit.then])
    exact bodyPost_ret (ret28 (x := .string st) (y := .int .i64 a) (s := ⟨#[]⟩) rfl _ _ (setRow_heap _ _ _ _ _ _ (HW.out _ (pw_below_drewN (Below.refl _ _) _)).2.2) rfl rfl) rfl ⟨rfl, setRow_below (HW.out _ (pw_below_drewN (Below.refl _ _) _)).1 (by omega) _⟩
theorem bys_app2 (a b : ByteArray) : Sha.bys a ++ Sha.bys b = Sha.bys (a ++ b) := by unfold Sha.bys; simp
theorem sk_eta (x : SK) : x = ⟨x.st, x.at_, x.out⟩ := rfl
set_option maxHeartbeats 16000000 in
set_option maxRecDepth 100000 in
theorem specTake_yes (st : ByteArray) (a n : Nat) (hst : st.size = 200) (ha : a ≤ 168) (hn : n ≤ 4000) (w : World) : Calls Try.prog 21 #[.agg #[.string st, .int .i64 (a : Int)], .int .i64 (n : Int)] w fun e_ w' => e_ = .returned (.tuple #[.agg #[.string (skTo n ⟨st, a, ⟨#[]⟩⟩ (n + 1)).st, .int .i64 ((skTo n ⟨st, a, ⟨#[]⟩⟩ (n + 1)).at_ : Int)], .string (skTo n ⟨st, a, ⟨#[]⟩⟩ (n + 1)).out]) ∧ Below w.heap.size w w' := by
  have HB := Aside0.mk (Below.refl w.heap.size w)
  have HW : Aside0 (∀ V, Below (w.heap.size + 2) ((w.alloc (.cells #[.string st, .int .i64 (a : Int)] 28)).alloc (.cells #[.string ⟨#[]⟩, .int .i64 0] 28)) V → Below w.heap.size w V ∧ StAt V w.heap.size st a ∧ StAt V (w.heap.size + 1) ⟨#[]⟩ 0 ∧ w.heap.size + 2 ≤ V.heap.size) := ⟨fun W h =>
    ⟨((HB.out.alloc (Nat.le_refl _) _).alloc (by rw [sz_alloc]; omega) _).trans (h.mono (by omega)), (h.block _ (by omega)).trans (blk_alloc (blk_new _ _) _), (h.block _ (by omega)).trans (heap_alloc2_new w _ _), by have := h.size; rw [sz_alloc, sz_alloc] at this; exact this⟩⟩
  have HI := Aside0.mk (in_yes (n : Int) 0 4000 (by omega) (by omega))
  have HI2 := Aside0.mk (in_yes (a : Int) 0 168 (by omega) (by omega))
  have h3 : ((st.size : Int) != 200) = false := by rw [hst]; rfl
  have HN := Aside0.mk (And.intro hst (And.intro ha hn))
  have hnil : ∀ w : World, (Instr.buildSlice 37 0 #[]).run Try.prog w = .ok (.slice (some ⟨w.heap.size, 0, none⟩) 0 0) (w.alloc (.cells #[] 5)) := fun w => run_bytes_nil w
  clear hst ha hn
  go_enter Try.func21, Try.ntmps21
  go_wp2_with (first
    | (go_at_call 36; (with_reducible refine (spec_l01In.calls (n : Int) 0 4000 _ _ HI.out).mono ?_); rintro e_ w1 ⟨rfl, ⟨n1, rfl⟩⟩; obtain ⟨c0, c1, _, _⟩ := st_cells (HW.out _ (pw_below_drewN (Below.refl _ _) n1)).2.1)
    | (go_at_call 36; (with_reducible refine (spec_l01In.calls (a : Int) 0 168 _ _ HI2.out).mono ?_); rintro e_ w1 ⟨rfl, ⟨n2, rfl⟩⟩))
  clear hnil c0 c1 h3
  refine wp_world (fun V hV => ?_)
  have HV : Aside0 (StAt V w.heap.size st a ∧ StAt V (w.heap.size + 1) ⟨#[]⟩ 0 ∧ Below w.heap.size w V ∧ BRow (w.heap.size + 2) V (.slice (some ⟨w.heap.size + 1 + 1, 0, none⟩) 0 0) (Sha.bys ⟨#[]⟩)) := ⟨by
    have q := HW.out _ (pw_below_drewN (Below.refl _ _) (n1 + n2))
    have hz : ((((w.alloc (.cells #[.string st, .int .i64 (a : Int)] 28)).alloc (.cells #[.string ⟨#[]⟩, .int .i64 0] 28)).drewN (n1 + n2))).heap.size = w.heap.size + 1 + 1 := by
      rw [World.heap_drewN, sz_alloc, sz_alloc]
    have hb := brow_nil (base := w.heap.size + 2) ((((w.alloc (.cells #[.string st, .int .i64 (a : Int)] 28)).alloc (.cells #[.string ⟨#[]⟩, .int .i64 0] 28)).drewN (n1 + n2))) (by rw [hz]; exact Nat.le_refl _)
    rw [hz] at hb
    rw [hV]
    exact ⟨blk_alloc q.2.1 _, blk_alloc q.2.2.1 _, q.1.alloc q.1.size _, hb⟩⟩
  clear hV HW
  have HOK : Aside0 (∀ i, SkOk (skTo n ⟨st, a, ⟨#[]⟩⟩ i) ∧ (skTo n ⟨st, a, ⟨#[]⟩⟩ i).out.size ≤ n ∧ min n (0 + i) ≤ (skTo n ⟨st, a, ⟨#[]⟩⟩ i).out.size) := ⟨fun i => skTo_ok n ⟨st, a, ⟨#[]⟩⟩ ⟨HN.out.1, HN.out.2.1⟩ (Nat.zero_le _) i⟩
  obtain ⟨x0, hx0⟩ : ∃ x : SK, (⟨st, a, ⟨#[]⟩⟩ : SK) = x := ⟨_, rfl⟩
  have HX0 := Aside0.mk hx0
  rw [hx0] at HOK
  clear hx0
  go_loopg [6] n (fun k s6 wx => ∃ i g cap, ∃ X : SK, X.out.size + k = n ∧ s6 = .slice (some ⟨g, 0, none⟩) X.out.size cap ∧ X.st.size = 200 ∧ X.at_ ≤ 168 ∧ Aside0 (skTo n x0 i = X ∧ i ≤ X.out.size) ∧ Aside0 (StAt wx w.heap.size X.st X.at_ ∧ StAt wx (w.heap.size + 1) ⟨#[]⟩ 0 ∧ Below w.heap.size w wx ∧ BRow (w.heap.size + 2) wx (.slice (some ⟨g, 0, none⟩) X.out.size cap) (Sha.bys X.out)))
  case atStart => exact ⟨0, w.heap.size + 1 + 1, 0, x0, by rw [← HX0.out]; show 0 + n = n; omega, by rw [← HX0.out]; rfl, by rw [← HX0.out]; exact HN.out.1, by rw [← HX0.out]; exact HN.out.2.1, ⟨rfl, Nat.zero_le _⟩, by rw [← HX0.out]; exact HV⟩
  case round =>
    obtain ⟨i, g, cap, X, hXk, rfl, hXs, hXa, HXi, HY⟩ := hrel
    clear HV
    have hn4 := HN.out.2.2
    cases gk with
    | zero =>
      have hlt : ¬ ((X.out.size : Int) < (n : Int)) := by omega
      have HE : Aside0 (skTo n x0 (n + 1) = X) := ⟨by
        obtain ⟨h1, h2⟩ := HXi.out
        have := skTo_end n x0 i (by rw [h1]; omega) (n + 1 - i)
        rw [show i + (n + 1 - i) = n + 1 by omega, h1] at this
        exact this⟩
      obtain ⟨c0, c1, f0, f1⟩ := st_cells HY.out.1
      obtain ⟨z0, z1, y0, y1⟩ := st_cells HY.out.2.1
      have HSz := Aside0.mk (And.intro hXk (And.intro hXs hXa))
      have hsl : (X.out.size : Int) = (n : Int) := by omega
      have hcap := brow_cap HY.out.2.2.2
      obtain ⟨a', ha'⟩ : ∃ z : Int, (X.at_ : Int) = z := ⟨_, rfl⟩
      obtain ⟨s', hs'⟩ : ∃ z, X.st = z := ⟨_, rfl⟩
      rw [ha'] at c1
      rw [hs'] at c0
      have hgne : g ≠ w.heap.size + 1 := by have := (brow_lt HY.out.2.2.2).1; omega
      have hcv1 := brow_string (w := wr.drew) (brow_below HY.out.2.2.2 (Below.drew (Below.refl _ _)))
      have hcv2 := brow_string (w := ((wr.setCell ⟨w.heap.size + 1, 0, none⟩ (.string s')).setCell ⟨w.heap.size + 1, 1, none⟩ (.int .i64 a')).drew) (brow_below (brow_far (brow_far HY.out.2.2.2 hgne (.string s')) hgne (.int .i64 a')) (Below.drew (Below.refl _ _)))
      rw [str_bys] at hcv1 hcv2
      have HO := Aside0.mk (And.intro ha' hs')
      clear hXk hXs hXa hn4 ha' hs' hgne
      go_wp2
      go_region
      go_wp2
      (try simp only [Exit.inBlock, Exit.then])
      refine bodyPost_ret (ret28 (x := .string s') (y := .int .i64 a') (s := X.out) rfl _ _ (blk_put (blk_put HY.out.2.1 0 _ rfl) 1 _ rfl) rfl rfl) rfl ⟨?_, ((HY.out.2.2.1.setCell (show w.heap.size ≤ w.heap.size + 1 by omega) _).setCell (show w.heap.size ≤ w.heap.size + 1 by omega) _).drew⟩
      rw [HX0.out, HE.out, HO.out.1, HO.out.2]
    | succ kk =>
      have hlt : (X.out.size : Int) < (n : Int) := by omega
      have hon : X.out.size ≤ 4000 := by omega
      by_cases h168 : X.at_ = 168
      · obtain ⟨K, hK⟩ : ∃ K, K = (if 168 - 0 > n - X.out.size then n - X.out.size else 168 - 0) := ⟨_, rfl⟩
        have hKb : 0 < K ∧ K ≤ 168 ∧ X.out.size + K ≤ n := by
          rw [hK]
          split <;> omega
        by_cases hkc : 168 - 0 > n - X.out.size
        · rw [if_pos hkc] at hK
          have hSt : skStep n X = ⟨(perm X.st), 0 + K, X.out ++ (perm X.st).extract 0 (0 + K)⟩ := by
            unfold skStep
            rw [if_pos h168]
            simp only
            rw [if_pos hkc, ← hK]
          have hez : ((perm X.st).extract 0 (0 + K)).size = K := by rw [ByteArray.size_extract, perm_size, hXs]; omega
          obtain ⟨E, hE⟩ : ∃ E, (perm X.st).extract 0 (0 + K) = E := ⟨_, rfl⟩
          rw [hE] at hSt hez
          have HT := Aside0.mk (And.intro hSt (And.intro hez (And.intro hXk (And.intro hKb (And.intro hXa hXs)))))
          have HEZ := Aside0.mk hez
          have HEX : Aside0 (Value.string ((perm X.st).extract 0 K) = Value.string E) := ⟨by rw [← hE, Nat.zero_add]⟩
          have HVc : Aside0 (∀ V, StAt V w.heap.size (perm X.st) (0 : Int) → V.cell? ⟨w.heap.size, 0, none⟩ = some (.string (perm X.st)) ∧ V.cell? ⟨w.heap.size, 1, none⟩ = some (.int .i64 (0 : Int)) ∧ V.frozen? ⟨w.heap.size, 0, none⟩ = false ∧ V.frozen? ⟨w.heap.size, 1, none⟩ = false) := ⟨fun V h => st_cells h⟩
          have hSz : (K : Int) ≤ ((perm X.st).size : Int) := by rw [perm_size]; omega
          have hp0 : (0 : Int) ≤ (X.at_ : Int) := by omega
          have hp1 : (X.at_ : Int) ≤ (X.at_ : Int) + (K : Int) := by omega
          have hp2 : (0 : Int) ≤ (K : Int) := by omega
          have ht : ((X.at_ : Int) == 168) = true := by rw [h168]; rfl
          have hsub : (n : Int) - (X.out.size : Int) = (K : Int) := by omega
          have hkk : (K : Int) < 168 := by omega
          have hkd : decide ((K : Int) < 168) = true := decide_eq_true hkk
          have hX4 : (X.out.size : Int) ≤ 4000 := by omega
          have hN4 : (n : Int) ≤ 4000 := by omega
          have hA4 : (X.at_ : Int) ≤ 168 := by omega
          have hsh : X.out.size + K ≤ 4000 := by omega
          have HSH := Aside0.mk (And.intro hsh (show 0 < K by omega))
          clear hSt hez hE h168 hkc hXs hXa hXk hKb hK hn4 hon hsh
          obtain ⟨c0, c1, f0, f1⟩ := st_cells HY.out.1
          go_wp2_with (first
            | (go_at_call 11; refine (specPermute_calls X.st (by rw [HT.out.2.2.2.2.2]; decide) _).mono ?_; rintro e_ w5 ⟨rfl, hb5⟩; have H5 : Aside0 (StAt w5 w.heap.size X.st X.at_ ∧ StAt w5 (w.heap.size + 1) ⟨#[]⟩ 0 ∧ Below w.heap.size w w5 ∧ BRow (w.heap.size + 2) w5 (.slice (some ⟨g, 0, none⟩) X.out.size cap) (Sha.bys X.out)) := ⟨blk_below HY.out.1 hb5, blk_below HY.out.2.1 hb5, HY.out.2.2.1.trans (hb5.mono HY.out.2.2.1.size), brow_below HY.out.2.2.2 hb5⟩; clear hb5; obtain ⟨d0, d1, g0, g1⟩ := st_cells H5.out.1)
            | ((with_reducible refine gate_dst (N := 60) rfl ?_); refine wpl_world (fun V hV => ?_); have HV : Aside0 (StAt V w.heap.size (perm X.st) (0 : Int) ∧ StAt V (w.heap.size + 1) ⟨#[]⟩ 0 ∧ Below w.heap.size w V ∧ BRow (w.heap.size + 2) V (.slice (some ⟨g, 0, none⟩) X.out.size cap) (Sha.bys X.out)) := ⟨by rw [hV]; exact blk_put (blk_put H5.out.1 0 _ rfl) 1 _ rfl, by rw [hV]; exact blk_far (blk_far H5.out.2.1 (by show _ ≠ w.heap.size; omega) _) (by show _ ≠ w.heap.size; omega) _, by rw [hV]; exact (H5.out.2.2.1.setCell (Nat.le_refl _) _).setCell (Nat.le_refl _) _, by rw [hV]; exact brow_far (brow_far H5.out.2.2.2 (by have := (brow_lt H5.out.2.2.2).1; omega) _) (by have := (brow_lt H5.out.2.2.2).1; omega) _⟩; clear hV; refine wpList_bytes rfl (.tmp 59) rfl (base := V.heap.size) (s := E) (Nat.le_refl _) HEX.out ?_; intro v6 w6 hv6 hb6; have H6 := Aside0.mk hv6; have HV6 : Aside0 (StAt w6 w.heap.size (perm X.st) (0 : Int) ∧ StAt w6 (w.heap.size + 1) ⟨#[]⟩ 0 ∧ Below w.heap.size w w6 ∧ BRow (w.heap.size + 2) w6 (.slice (some ⟨g, 0, none⟩) X.out.size cap) (Sha.bys X.out) ∧ w.heap.size + 2 ≤ w6.heap.size) := ⟨blk_below HV.out.1 hb6, blk_below HV.out.2.1 hb6, HV.out.2.2.1.trans (hb6.mono HV.out.2.2.1.size), brow_below HV.out.2.2.2 hb6, by have := (brow_lt HV.out.2.2.2); have := hb6.size; omega⟩; clear hv6 hb6; obtain ⟨g6, c6, hg6⟩ : ∃ g cap, v6 = .slice (some ⟨g, 0, none⟩) K cap := (by obtain ⟨g, cap, _, _, h, _⟩ := H6.out; rw [Sha.bys_len, HEZ.out] at h; exact ⟨g, cap, h⟩); subst hg6)
            | ((with_reducible refine gate_dst (N := 61) rfl ?_); refine wpList_append_bytes rfl (.tmp 50) (.tmp 60) rfl (base := w.heap.size + 2) HV6.out.2.2.2.1 HV6.out.2.2.2.2 rfl rfl (by rw [Sha.bys_len, HEZ.out]) (brow_src H6.out) (by rw [Sha.bys_len, Sha.bys_len, HEZ.out]; have := HSH.out.1; omega) (by rw [Sha.bys_len, HEZ.out]; have := HSH.out.2; omega) ?_; intro v7 w7 hv7 hb7; have H7 := Aside0.mk hv7; have HV7 : Aside0 (StAt w7 w.heap.size (perm X.st) (0 : Int) ∧ StAt w7 (w.heap.size + 1) ⟨#[]⟩ 0 ∧ Below w.heap.size w w7) := ⟨(hb7.block _ (by omega)).trans HV6.out.1, (hb7.block _ (by omega)).trans HV6.out.2.1, HV6.out.2.2.1.trans (hb7.mono (by omega))⟩; clear hv7 hb7; obtain ⟨g7, c7, hg7⟩ := brow_form H7.out; subst hg7; obtain ⟨k0, k1, j0, j1⟩ := HVc.out w7 HV7.out.1))
          go_roundg (n - (X.out.size + K))
          case measure => have := HT.out.2.2.1; have := HSH.out; omega
          case rel =>
            obtain ⟨hSt, hez, hXk, hKb, hXa, hXs⟩ := HT.out
            have hnx : skTo n x0 (i + 1) = ⟨(perm X.st), 0 + K, X.out ++ E⟩ := by
              show (if (skTo n x0 i).out.size < n then skStep n (skTo n x0 i) else skTo n x0 i) = _
              rw [HXi.out.1, if_pos (by omega), hSt]
            have hsz : (X.out ++ E).size = X.out.size + K := by rw [ByteArray.size_append, HEZ.out]
            refine ⟨i + 1, g7, c7, ⟨(perm X.st), 0 + K, X.out ++ E⟩, by show (X.out ++ E).size + _ = n; omega, ?_, by show ((perm X.st)).size = 200; rw [perm_size]; exact hXs, by show 0 + K ≤ 168; omega, ⟨hnx, by show i + 1 ≤ (X.out ++ E).size; have := HXi.out.2; have := HSH.out.2; omega⟩, ⟨?_, ?_, ?_, ?_⟩⟩
            · show Value.slice _ _ _ = Value.slice _ (X.out ++ E).size _
              first | rw [hsz, Sha.bys_len, Sha.bys_len, HEZ.out] | rw [hsz, List.length_append, Sha.bys_len, Sha.bys_len, HEZ.out]
            · exact blk_put HV7.out.1 1 _ (by first | rfl | simp)
            · exact blk_far HV7.out.2.1 (by show _ ≠ w.heap.size; omega) _
            · exact HV7.out.2.2.setCell (Nat.le_refl _) _
            · have hb := H7.out
              have hl : (Sha.bys X.out ++ Sha.bys E).length = (X.out ++ E).size := by rw [List.length_append, Sha.bys_len, Sha.bys_len, ByteArray.size_append]
              rw [hl, bys_app2] at hb
              exact brow_far hb (by have := (brow_lt hb).1; omega) _
        · rw [if_neg hkc] at hK
          have hSt : skStep n X = ⟨(perm X.st), 0 + K, X.out ++ (perm X.st).extract 0 (0 + K)⟩ := by
            unfold skStep
            rw [if_pos h168]
            simp only
            rw [if_neg hkc, ← hK]
          have hez : ((perm X.st).extract 0 (0 + K)).size = K := by rw [ByteArray.size_extract, perm_size, hXs]; omega
          obtain ⟨E, hE⟩ : ∃ E, (perm X.st).extract 0 (0 + K) = E := ⟨_, rfl⟩
          rw [hE] at hSt hez
          have HT := Aside0.mk (And.intro hSt (And.intro hez (And.intro hXk (And.intro hKb (And.intro hXa hXs)))))
          have HEZ := Aside0.mk hez
          have HEX : Aside0 (Value.string ((perm X.st).extract 0 K) = Value.string E) := ⟨by rw [← hE, Nat.zero_add]⟩
          have HVc : Aside0 (∀ V, StAt V w.heap.size (perm X.st) (0 : Int) → V.cell? ⟨w.heap.size, 0, none⟩ = some (.string (perm X.st)) ∧ V.cell? ⟨w.heap.size, 1, none⟩ = some (.int .i64 (0 : Int)) ∧ V.frozen? ⟨w.heap.size, 0, none⟩ = false ∧ V.frozen? ⟨w.heap.size, 1, none⟩ = false) := ⟨fun V h => st_cells h⟩
          have hSz : (K : Int) ≤ ((perm X.st).size : Int) := by rw [perm_size]; omega
          have hp0 : (0 : Int) ≤ (X.at_ : Int) := by omega
          have hp1 : (X.at_ : Int) ≤ (X.at_ : Int) + (K : Int) := by omega
          have hp2 : (0 : Int) ≤ (K : Int) := by omega
          have ht : ((X.at_ : Int) == 168) = true := by rw [h168]; rfl
          obtain rfl : K = 168 := by omega
          have hSz2 : (168 : Int) ≤ ((perm X.st).size : Int) := hSz
          have hkk : ¬ ((n : Int) - (X.out.size : Int) < 168) := by omega
          have hX4 : (X.out.size : Int) ≤ 4000 := by omega
          have hN4 : (n : Int) ≤ 4000 := by omega
          have hA4 : (X.at_ : Int) ≤ 168 := by omega
          have hsh : X.out.size + 168 ≤ 4000 := by omega
          have HSH := Aside0.mk (And.intro hsh (show 0 < 168 by omega))
          clear hSt hez hE h168 hkc hXs hXa hXk hKb hK hn4 hon hsh
          obtain ⟨c0, c1, f0, f1⟩ := st_cells HY.out.1
          go_wp2_with (first
            | (go_at_call 11; refine (specPermute_calls X.st (by rw [HT.out.2.2.2.2.2]; decide) _).mono ?_; rintro e_ w5 ⟨rfl, hb5⟩; have H5 : Aside0 (StAt w5 w.heap.size X.st X.at_ ∧ StAt w5 (w.heap.size + 1) ⟨#[]⟩ 0 ∧ Below w.heap.size w w5 ∧ BRow (w.heap.size + 2) w5 (.slice (some ⟨g, 0, none⟩) X.out.size cap) (Sha.bys X.out)) := ⟨blk_below HY.out.1 hb5, blk_below HY.out.2.1 hb5, HY.out.2.2.1.trans (hb5.mono HY.out.2.2.1.size), brow_below HY.out.2.2.2 hb5⟩; clear hb5; obtain ⟨d0, d1, g0, g1⟩ := st_cells H5.out.1)
            | ((with_reducible refine gate_dst (N := 60) rfl ?_); refine wpl_world (fun V hV => ?_); have HV : Aside0 (StAt V w.heap.size (perm X.st) (0 : Int) ∧ StAt V (w.heap.size + 1) ⟨#[]⟩ 0 ∧ Below w.heap.size w V ∧ BRow (w.heap.size + 2) V (.slice (some ⟨g, 0, none⟩) X.out.size cap) (Sha.bys X.out)) := ⟨by rw [hV]; exact blk_put (blk_put H5.out.1 0 _ rfl) 1 _ rfl, by rw [hV]; exact blk_far (blk_far H5.out.2.1 (by show _ ≠ w.heap.size; omega) _) (by show _ ≠ w.heap.size; omega) _, by rw [hV]; exact (H5.out.2.2.1.setCell (Nat.le_refl _) _).setCell (Nat.le_refl _) _, by rw [hV]; exact brow_far (brow_far H5.out.2.2.2 (by have := (brow_lt H5.out.2.2.2).1; omega) _) (by have := (brow_lt H5.out.2.2.2).1; omega) _⟩; clear hV; refine wpList_bytes rfl (.tmp 59) rfl (base := V.heap.size) (s := E) (Nat.le_refl _) HEX.out ?_; intro v6 w6 hv6 hb6; have H6 := Aside0.mk hv6; have HV6 : Aside0 (StAt w6 w.heap.size (perm X.st) (0 : Int) ∧ StAt w6 (w.heap.size + 1) ⟨#[]⟩ 0 ∧ Below w.heap.size w w6 ∧ BRow (w.heap.size + 2) w6 (.slice (some ⟨g, 0, none⟩) X.out.size cap) (Sha.bys X.out) ∧ w.heap.size + 2 ≤ w6.heap.size) := ⟨blk_below HV.out.1 hb6, blk_below HV.out.2.1 hb6, HV.out.2.2.1.trans (hb6.mono HV.out.2.2.1.size), brow_below HV.out.2.2.2 hb6, by have := (brow_lt HV.out.2.2.2); have := hb6.size; omega⟩; clear hv6 hb6; obtain ⟨g6, c6, hg6⟩ : ∃ g cap, v6 = .slice (some ⟨g, 0, none⟩) 168 cap := (by obtain ⟨g, cap, _, _, h, _⟩ := H6.out; rw [Sha.bys_len, HEZ.out] at h; exact ⟨g, cap, h⟩); subst hg6)
            | ((with_reducible refine gate_dst (N := 61) rfl ?_); refine wpList_append_bytes rfl (.tmp 50) (.tmp 60) rfl (base := w.heap.size + 2) HV6.out.2.2.2.1 HV6.out.2.2.2.2 rfl rfl (by rw [Sha.bys_len, HEZ.out]) (brow_src H6.out) (by rw [Sha.bys_len, Sha.bys_len, HEZ.out]; have := HSH.out.1; omega) (by rw [Sha.bys_len, HEZ.out]; have := HSH.out.2; omega) ?_; intro v7 w7 hv7 hb7; have H7 := Aside0.mk hv7; have HV7 : Aside0 (StAt w7 w.heap.size (perm X.st) (0 : Int) ∧ StAt w7 (w.heap.size + 1) ⟨#[]⟩ 0 ∧ Below w.heap.size w w7) := ⟨(hb7.block _ (by omega)).trans HV6.out.1, (hb7.block _ (by omega)).trans HV6.out.2.1, HV6.out.2.2.1.trans (hb7.mono (by omega))⟩; clear hv7 hb7; obtain ⟨g7, c7, hg7⟩ := brow_form H7.out; subst hg7; obtain ⟨k0, k1, j0, j1⟩ := HVc.out w7 HV7.out.1))
          go_roundg (n - (X.out.size + 168))
          case measure => have := HT.out.2.2.1; have := HSH.out; omega
          case rel =>
            obtain ⟨hSt, hez, hXk, hKb, hXa, hXs⟩ := HT.out
            have hnx : skTo n x0 (i + 1) = ⟨(perm X.st), 0 + 168, X.out ++ E⟩ := by
              show (if (skTo n x0 i).out.size < n then skStep n (skTo n x0 i) else skTo n x0 i) = _
              rw [HXi.out.1, if_pos (by omega), hSt]
            have hsz : (X.out ++ E).size = X.out.size + 168 := by rw [ByteArray.size_append, HEZ.out]
            refine ⟨i + 1, g7, c7, ⟨(perm X.st), 0 + 168, X.out ++ E⟩, by show (X.out ++ E).size + _ = n; omega, ?_, by show ((perm X.st)).size = 200; rw [perm_size]; exact hXs, by show 0 + 168 ≤ 168; omega, ⟨hnx, by show i + 1 ≤ (X.out ++ E).size; have := HXi.out.2; have := HSH.out.2; omega⟩, ⟨?_, ?_, ?_, ?_⟩⟩
            · show Value.slice _ _ _ = Value.slice _ (X.out ++ E).size _
              first | rw [hsz, Sha.bys_len, Sha.bys_len, HEZ.out] | rw [hsz, List.length_append, Sha.bys_len, Sha.bys_len, HEZ.out]
            · exact blk_put HV7.out.1 1 _ (by first | rfl | simp)
            · exact blk_far HV7.out.2.1 (by show _ ≠ w.heap.size; omega) _
            · exact HV7.out.2.2.setCell (Nat.le_refl _) _
            · have hb := H7.out
              have hl : (Sha.bys X.out ++ Sha.bys E).length = (X.out ++ E).size := by rw [List.length_append, Sha.bys_len, Sha.bys_len, ByteArray.size_append]
              rw [hl, bys_app2] at hb
              exact brow_far hb (by have := (brow_lt hb).1; omega) _
      · obtain ⟨K, hK⟩ : ∃ K, K = (if 168 - X.at_ > n - X.out.size then n - X.out.size else 168 - X.at_) := ⟨_, rfl⟩
        have hKb : 0 < K ∧ X.at_ + K ≤ 168 ∧ X.out.size + K ≤ n := by
          rw [hK]
          split <;> omega
        by_cases hkc : 168 - X.at_ > n - X.out.size
        · rw [if_pos hkc] at hK
          have hSt : skStep n X = ⟨X.st, X.at_ + K, X.out ++ X.st.extract X.at_ (X.at_ + K)⟩ := by
            unfold skStep
            rw [if_neg h168]
            simp only
            rw [if_pos hkc, ← hK]
          have hez : (X.st.extract X.at_ (X.at_ + K)).size = K := by rw [ByteArray.size_extract, hXs]; omega
          obtain ⟨E, hE⟩ : ∃ E, X.st.extract X.at_ (X.at_ + K) = E := ⟨_, rfl⟩
          rw [hE] at hSt hez
          have HT := Aside0.mk (And.intro hSt (And.intro hez (And.intro hXk (And.intro hKb (And.intro hXa hXs)))))
          have HEZ := Aside0.mk hez
          have HEX : Aside0 (Value.string (X.st.extract X.at_ (X.at_ + K)) = Value.string E) := ⟨by rw [← hE]⟩
          have HVc : Aside0 (∀ V, StAt V w.heap.size X.st (X.at_ : Int) → V.cell? ⟨w.heap.size, 0, none⟩ = some (.string X.st) ∧ V.cell? ⟨w.heap.size, 1, none⟩ = some (.int .i64 (X.at_ : Int)) ∧ V.frozen? ⟨w.heap.size, 0, none⟩ = false ∧ V.frozen? ⟨w.heap.size, 1, none⟩ = false) := ⟨fun V h => st_cells h⟩
          have hSz : (X.at_ : Int) + (K : Int) ≤ (X.st.size : Int) := by omega
          have hp0 : (0 : Int) ≤ (X.at_ : Int) := by omega
          have hp1 : (X.at_ : Int) ≤ (X.at_ : Int) + (K : Int) := by omega
          have hp2 : (0 : Int) ≤ (K : Int) := by omega
          have ht : ((X.at_ : Int) == 168) = false := by rw [beq_eq_false_iff_ne]; omega
          have hsub : (n : Int) - (X.out.size : Int) = (K : Int) := by omega
          have hkk : (K : Int) < 168 - (X.at_ : Int) := by omega
          have hkd : decide ((K : Int) < 168 - (X.at_ : Int)) = true := decide_eq_true hkk
          have hX4 : (X.out.size : Int) ≤ 4000 := by omega
          have hN4 : (n : Int) ≤ 4000 := by omega
          have hA4 : (X.at_ : Int) ≤ 168 := by omega
          have hsh : X.out.size + K ≤ 4000 := by omega
          have HSH := Aside0.mk (And.intro hsh (show 0 < K by omega))
          clear hSt hez hE h168 hkc hXs hXa hXk hKb hK hn4 hon hsh
          obtain ⟨c0, c1, f0, f1⟩ := st_cells HY.out.1
          go_wp2_with (first
            | ((with_reducible refine gate_dst (N := 60) rfl ?_); refine wpl_world (fun V hV => ?_); have HV : Aside0 (StAt V w.heap.size X.st (X.at_ : Int) ∧ StAt V (w.heap.size + 1) ⟨#[]⟩ 0 ∧ Below w.heap.size w V ∧ BRow (w.heap.size + 2) V (.slice (some ⟨g, 0, none⟩) X.out.size cap) (Sha.bys X.out)) := ⟨by rw [hV]; exact HY.out.1, by rw [hV]; exact HY.out.2.1, by rw [hV]; exact HY.out.2.2.1, by rw [hV]; exact HY.out.2.2.2⟩; clear hV; refine wpList_bytes rfl (.tmp 59) rfl (base := V.heap.size) (s := E) (Nat.le_refl _) HEX.out ?_; intro v6 w6 hv6 hb6; have H6 := Aside0.mk hv6; have HV6 : Aside0 (StAt w6 w.heap.size X.st (X.at_ : Int) ∧ StAt w6 (w.heap.size + 1) ⟨#[]⟩ 0 ∧ Below w.heap.size w w6 ∧ BRow (w.heap.size + 2) w6 (.slice (some ⟨g, 0, none⟩) X.out.size cap) (Sha.bys X.out) ∧ w.heap.size + 2 ≤ w6.heap.size) := ⟨blk_below HV.out.1 hb6, blk_below HV.out.2.1 hb6, HV.out.2.2.1.trans (hb6.mono HV.out.2.2.1.size), brow_below HV.out.2.2.2 hb6, by have := (brow_lt HV.out.2.2.2); have := hb6.size; omega⟩; clear hv6 hb6; obtain ⟨g6, c6, hg6⟩ : ∃ g cap, v6 = .slice (some ⟨g, 0, none⟩) K cap := (by obtain ⟨g, cap, _, _, h, _⟩ := H6.out; rw [Sha.bys_len, HEZ.out] at h; exact ⟨g, cap, h⟩); subst hg6)
            | ((with_reducible refine gate_dst (N := 61) rfl ?_); refine wpList_append_bytes rfl (.tmp 50) (.tmp 60) rfl (base := w.heap.size + 2) HV6.out.2.2.2.1 HV6.out.2.2.2.2 rfl rfl (by rw [Sha.bys_len, HEZ.out]) (brow_src H6.out) (by rw [Sha.bys_len, Sha.bys_len, HEZ.out]; have := HSH.out.1; omega) (by rw [Sha.bys_len, HEZ.out]; have := HSH.out.2; omega) ?_; intro v7 w7 hv7 hb7; have H7 := Aside0.mk hv7; have HV7 : Aside0 (StAt w7 w.heap.size X.st (X.at_ : Int) ∧ StAt w7 (w.heap.size + 1) ⟨#[]⟩ 0 ∧ Below w.heap.size w w7) := ⟨(hb7.block _ (by omega)).trans HV6.out.1, (hb7.block _ (by omega)).trans HV6.out.2.1, HV6.out.2.2.1.trans (hb7.mono (by omega))⟩; clear hv7 hb7; obtain ⟨g7, c7, hg7⟩ := brow_form H7.out; subst hg7; obtain ⟨k0, k1, j0, j1⟩ := HVc.out w7 HV7.out.1))
          go_roundg (n - (X.out.size + K))
          case measure => have := HT.out.2.2.1; have := HSH.out; omega
          case rel =>
            obtain ⟨hSt, hez, hXk, hKb, hXa, hXs⟩ := HT.out
            have hnx : skTo n x0 (i + 1) = ⟨X.st, X.at_ + K, X.out ++ E⟩ := by
              show (if (skTo n x0 i).out.size < n then skStep n (skTo n x0 i) else skTo n x0 i) = _
              rw [HXi.out.1, if_pos (by omega), hSt]
            have hsz : (X.out ++ E).size = X.out.size + K := by rw [ByteArray.size_append, HEZ.out]
            refine ⟨i + 1, g7, c7, ⟨X.st, X.at_ + K, X.out ++ E⟩, by show (X.out ++ E).size + _ = n; omega, ?_, by show (X.st).size = 200; exact hXs, by show X.at_ + K ≤ 168; omega, ⟨hnx, by show i + 1 ≤ (X.out ++ E).size; have := HXi.out.2; have := HSH.out.2; omega⟩, ⟨?_, ?_, ?_, ?_⟩⟩
            · show Value.slice _ _ _ = Value.slice _ (X.out ++ E).size _
              first | rw [hsz, Sha.bys_len, Sha.bys_len, HEZ.out] | rw [hsz, List.length_append, Sha.bys_len, Sha.bys_len, HEZ.out]
            · exact blk_put HV7.out.1 1 _ (by first | rfl | simp)
            · exact blk_far HV7.out.2.1 (by show _ ≠ w.heap.size; omega) _
            · exact HV7.out.2.2.setCell (Nat.le_refl _) _
            · have hb := H7.out
              have hl : (Sha.bys X.out ++ Sha.bys E).length = (X.out ++ E).size := by rw [List.length_append, Sha.bys_len, Sha.bys_len, ByteArray.size_append]
              rw [hl, bys_app2] at hb
              exact brow_far hb (by have := (brow_lt hb).1; omega) _
        · rw [if_neg hkc] at hK
          have hSt : skStep n X = ⟨X.st, X.at_ + K, X.out ++ X.st.extract X.at_ (X.at_ + K)⟩ := by
            unfold skStep
            rw [if_neg h168]
            simp only
            rw [if_neg hkc, ← hK]
          have hez : (X.st.extract X.at_ (X.at_ + K)).size = K := by rw [ByteArray.size_extract, hXs]; omega
          obtain ⟨E, hE⟩ : ∃ E, X.st.extract X.at_ (X.at_ + K) = E := ⟨_, rfl⟩
          rw [hE] at hSt hez
          have HT := Aside0.mk (And.intro hSt (And.intro hez (And.intro hXk (And.intro hKb (And.intro hXa hXs)))))
          have HEZ := Aside0.mk hez
          have HEX : Aside0 (Value.string (X.st.extract X.at_ (X.at_ + K)) = Value.string E) := ⟨by rw [← hE]⟩
          have HVc : Aside0 (∀ V, StAt V w.heap.size X.st (X.at_ : Int) → V.cell? ⟨w.heap.size, 0, none⟩ = some (.string X.st) ∧ V.cell? ⟨w.heap.size, 1, none⟩ = some (.int .i64 (X.at_ : Int)) ∧ V.frozen? ⟨w.heap.size, 0, none⟩ = false ∧ V.frozen? ⟨w.heap.size, 1, none⟩ = false) := ⟨fun V h => st_cells h⟩
          have hSz : (X.at_ : Int) + (K : Int) ≤ (X.st.size : Int) := by omega
          have hp0 : (0 : Int) ≤ (X.at_ : Int) := by omega
          have hp1 : (X.at_ : Int) ≤ (X.at_ : Int) + (K : Int) := by omega
          have hp2 : (0 : Int) ≤ (K : Int) := by omega
          have ht : ((X.at_ : Int) == 168) = false := by rw [beq_eq_false_iff_ne]; omega
          have hsub : 168 - (X.at_ : Int) = (K : Int) := by omega
          have hkk : ¬ ((n : Int) - (X.out.size : Int) < (K : Int)) := by omega
          have hX4 : (X.out.size : Int) ≤ 4000 := by omega
          have hN4 : (n : Int) ≤ 4000 := by omega
          have hA4 : (X.at_ : Int) ≤ 168 := by omega
          have hsh : X.out.size + K ≤ 4000 := by omega
          have HSH := Aside0.mk (And.intro hsh (show 0 < K by omega))
          clear hSt hez hE h168 hkc hXs hXa hXk hKb hK hn4 hon hsh
          obtain ⟨c0, c1, f0, f1⟩ := st_cells HY.out.1
          go_wp2_with (first
            | ((with_reducible refine gate_dst (N := 60) rfl ?_); refine wpl_world (fun V hV => ?_); have HV : Aside0 (StAt V w.heap.size X.st (X.at_ : Int) ∧ StAt V (w.heap.size + 1) ⟨#[]⟩ 0 ∧ Below w.heap.size w V ∧ BRow (w.heap.size + 2) V (.slice (some ⟨g, 0, none⟩) X.out.size cap) (Sha.bys X.out)) := ⟨by rw [hV]; exact HY.out.1, by rw [hV]; exact HY.out.2.1, by rw [hV]; exact HY.out.2.2.1, by rw [hV]; exact HY.out.2.2.2⟩; clear hV; refine wpList_bytes rfl (.tmp 59) rfl (base := V.heap.size) (s := E) (Nat.le_refl _) HEX.out ?_; intro v6 w6 hv6 hb6; have H6 := Aside0.mk hv6; have HV6 : Aside0 (StAt w6 w.heap.size X.st (X.at_ : Int) ∧ StAt w6 (w.heap.size + 1) ⟨#[]⟩ 0 ∧ Below w.heap.size w w6 ∧ BRow (w.heap.size + 2) w6 (.slice (some ⟨g, 0, none⟩) X.out.size cap) (Sha.bys X.out) ∧ w.heap.size + 2 ≤ w6.heap.size) := ⟨blk_below HV.out.1 hb6, blk_below HV.out.2.1 hb6, HV.out.2.2.1.trans (hb6.mono HV.out.2.2.1.size), brow_below HV.out.2.2.2 hb6, by have := (brow_lt HV.out.2.2.2); have := hb6.size; omega⟩; clear hv6 hb6; obtain ⟨g6, c6, hg6⟩ : ∃ g cap, v6 = .slice (some ⟨g, 0, none⟩) K cap := (by obtain ⟨g, cap, _, _, h, _⟩ := H6.out; rw [Sha.bys_len, HEZ.out] at h; exact ⟨g, cap, h⟩); subst hg6)
            | ((with_reducible refine gate_dst (N := 61) rfl ?_); refine wpList_append_bytes rfl (.tmp 50) (.tmp 60) rfl (base := w.heap.size + 2) HV6.out.2.2.2.1 HV6.out.2.2.2.2 rfl rfl (by rw [Sha.bys_len, HEZ.out]) (brow_src H6.out) (by rw [Sha.bys_len, Sha.bys_len, HEZ.out]; have := HSH.out.1; omega) (by rw [Sha.bys_len, HEZ.out]; have := HSH.out.2; omega) ?_; intro v7 w7 hv7 hb7; have H7 := Aside0.mk hv7; have HV7 : Aside0 (StAt w7 w.heap.size X.st (X.at_ : Int) ∧ StAt w7 (w.heap.size + 1) ⟨#[]⟩ 0 ∧ Below w.heap.size w w7) := ⟨(hb7.block _ (by omega)).trans HV6.out.1, (hb7.block _ (by omega)).trans HV6.out.2.1, HV6.out.2.2.1.trans (hb7.mono (by omega))⟩; clear hv7 hb7; obtain ⟨g7, c7, hg7⟩ := brow_form H7.out; subst hg7; obtain ⟨k0, k1, j0, j1⟩ := HVc.out w7 HV7.out.1))
          go_roundg (n - (X.out.size + K))
          case measure => have := HT.out.2.2.1; have := HSH.out; omega
          case rel =>
            obtain ⟨hSt, hez, hXk, hKb, hXa, hXs⟩ := HT.out
            have hnx : skTo n x0 (i + 1) = ⟨X.st, X.at_ + K, X.out ++ E⟩ := by
              show (if (skTo n x0 i).out.size < n then skStep n (skTo n x0 i) else skTo n x0 i) = _
              rw [HXi.out.1, if_pos (by omega), hSt]
            have hsz : (X.out ++ E).size = X.out.size + K := by rw [ByteArray.size_append, HEZ.out]
            refine ⟨i + 1, g7, c7, ⟨X.st, X.at_ + K, X.out ++ E⟩, by show (X.out ++ E).size + _ = n; omega, ?_, by show (X.st).size = 200; exact hXs, by show X.at_ + K ≤ 168; omega, ⟨hnx, by show i + 1 ≤ (X.out ++ E).size; have := HXi.out.2; have := HSH.out.2; omega⟩, ⟨?_, ?_, ?_, ?_⟩⟩
            · show Value.slice _ _ _ = Value.slice _ (X.out ++ E).size _
              first | rw [hsz, Sha.bys_len, Sha.bys_len, HEZ.out] | rw [hsz, List.length_append, Sha.bys_len, Sha.bys_len, HEZ.out]
            · exact blk_put HV7.out.1 1 _ (by first | rfl | simp)
            · exact blk_far HV7.out.2.1 (by show _ ≠ w.heap.size; omega) _
            · exact HV7.out.2.2.setCell (Nat.le_refl _) _
            · have hb := H7.out
              have hl : (Sha.bys X.out ++ Sha.bys E).length = (X.out ++ E).size := by rw [List.length_append, Sha.bys_len, Sha.bys_len, ByteArray.size_append]
              rw [hl, bys_app2] at hb
              exact brow_far hb (by have := (brow_lt hb).1; omega) _
theorem specTake_calls (st : ByteArray) (a n : Int) (hsz : st.size ≤ 1000000000) (w : World) : Calls Try.prog 21 #[.agg #[.string st, .int .i64 a], .int .i64 n] w fun e_ w' => e_ = .returned (.tuple #[.agg #[.string (sTake st a n).1, .int .i64 (sTake st a n).2.1], .string (sTake st a n).2.2]) ∧ Below w.heap.size w w' := by
  by_cases h : sOk st a n = true
  · have h2 := h
    unfold sOk at h2
    simp only [decide_eq_true_eq] at h2
    obtain ⟨h3, h4, h5, h6, h7⟩ := h2
    obtain ⟨m, rfl⟩ := Int.eq_ofNat_of_zero_le h3
    obtain ⟨b, rfl⟩ := Int.eq_ofNat_of_zero_le h6
    have e : sTake st (b : Int) (m : Int) = ((skTo m ⟨st, b, ⟨#[]⟩⟩ (m + 1)).st, ((skTo m ⟨st, b, ⟨#[]⟩⟩ (m + 1)).at_ : Int), (skTo m ⟨st, b, ⟨#[]⟩⟩ (m + 1)).out) := by
      unfold sTake
      simp only [h, if_true, Int.toNat_natCast]
    rw [e]
    exact specTake_yes st b m h5 (by omega) (by omega) w
  · have e : sTake st a n = (st, a, ⟨#[]⟩) := by unfold sTake; rw [if_neg h]
    rw [e]
    exact specTake_no st a n hsz (by simpa using h) w
end Go.Proofs.Ytmocccmffmacdaa.Kec
