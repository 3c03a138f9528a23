/- The digest of a text, a new hasher, more text for it, its end: walked. Condition: the table of the rounds' numbers. -/
import Derived.Test.YtlddohppkcndjaaDoorShaI
import Derived.Laws.ResultCell
import Derived.Test.YtlddohppkcndjaaDoorPHasherOkx1
namespace Go.Proofs.YtlddohppkcndjaaDoor.Sha
open Go.RowKit Go.Proofs.YtlddohppkcndjaaDoorW.PrintWords Go.Proofs.YtlddohppkcndjaaDoorW.PrintLast Go.Proofs.YtlddohppkcndjaaDoorW.PrintMore Go.Proofs.YtlddohppkcndjaaDoor.Pending Go.Proofs.YtlddohppkcndjaaDoor.Pright
set_option linter.unusedVariables false
set_option linter.unusedSimpArgs false

def bStep (p : List Int × ByteArray) : List Int × ByteArray := (one p.1 (p.2.extract 0 64), p.2.extract 64 p.2.size)
def bTo (st : List Int) (s : ByteArray) : Nat → List Int × ByteArray
  | 0 => (st, s)
  | k + 1 => bStep (bTo st s k)
def blks (st : List Int) (s : ByteArray) : List Int × ByteArray := bTo st s (s.size / 64)
theorem bTo_len (st : List Int) (s : ByteArray) (h : st.length = 8) : ∀ k, (bTo st s k).1.length = 8
  | 0 => h
  | k + 1 => one_len _ _ (bTo_len st s h k)
theorem bTo_size (st : List Int) (s : ByteArray) : ∀ k, 64 * k ≤ s.size → (bTo st s k).2.size = s.size - 64 * k
  | 0, _ => rfl
  | k + 1, h => by
    show ((bTo st s k).2.extract 64 (bTo st s k).2.size).size = _
    rw [ByteArray.size_extract, bTo_size st s k (by omega)]
    omega
theorem results_cell67 {fn : Func} {p u : Tmp} (h : fn.results = #[.cell p 67, .tmp u]) (tmps : Array Value) (w : World) {b : Nat} {t : TypeId} {l : List Int} {s : ByteArray} (hb : Blk w b t l) (hl : l.length = 8) (hp : tmps.getD p undef = .pointer (some ⟨b, 0, none⟩)) (hu : tmps.getD u undef = .string s) : (results fn tmps).run Tryd.prog w = .ok (.tuple #[arr l, .string s]) w := by
  rw [results_cell_tmp h, hp, hu]
  simp [asAddr, Result.andThen, load67 w b l t (0, 0) hl hb]
set_option maxHeartbeats 4000000 in
set_option maxRecDepth 100000 in
theorem blocks_calls (st : List Int) (hst : st.length = 8) (s : ByteArray) (hs : s.size ≤ 9223372036854775807) (w : World) (htab : Tab w) : Calls Tryd.prog 52 #[arr st, .string s] w fun e_ w' => e_ = .returned (.tuple #[arr (blks st s).1, .string (blks st s).2]) ∧ Below w.heap.size w w' := by
  have HB := Aside0.mk (Below.refl w.heap.size w)
  have HT := Aside0.mk htab
  have hs2 := Aside0.mk hst
  clear htab
  obtain ⟨a, b, c, d, e, f, g, h, hl8⟩ := arr8 st hst
  have HL := Aside0.mk hl8
  subst hl8
  clear hst
  go_enter Tryd.func52, Tryd.ntmps52
  go_wp2
  go_loopg [1] (s.size / 64) (fun k s1 wx => ∃ i : Nat, i + k = s.size / 64 ∧ s1 = .string (bTo [a, b, c, d, e, f, g, h] s i).2 ∧ Aside0 (Below w.heap.size w wx ∧ Blk wx w.heap.size 67 (bTo [a, b, c, d, e, f, g, h] s i).1 ∧ Blk wx (w.heap.size + 1) 67 [0, 0, 0, 0, 0, 0, 0, 0]))
  case atStart =>
    refine ⟨0, by omega, rfl, ⟨(HB.out.alloc (Nat.le_refl _) _).alloc (by rw [sz_alloc]; omega) _, blk_alloc (blk_new _ _) _, ?_⟩⟩
    unfold Blk
    rw [← sz_alloc w (.cells _ 67)]
    exact heap_alloc_last _ _
  case round =>
    obtain ⟨i, hik, rfl, HQ⟩ := hrel
    have hsz := bTo_size [a, b, c, d, e, f, g, h] s i (by omega)
    have hln := bTo_len [a, b, c, d, e, f, g, h] s rfl i
    obtain ⟨st', hst'⟩ : ∃ q, (bTo [a, b, c, d, e, f, g, h] s i).1 = q := ⟨_, rfl⟩
    obtain ⟨s', hs'⟩ : ∃ q, (bTo [a, b, c, d, e, f, g, h] s i).2 = q := ⟨_, rfl⟩
    rw [hst'] at HQ hln
    rw [hs'] at hsz ⊢
    cases gk with
    | zero =>
      obtain rfl : i = s.size / 64 := by omega
      have hi : ¬ ((64 : Int) ≤ (s'.size : Int)) := by omega
      have HI := Aside0.mk (And.intro hst' (And.intro hs' hln))
      clear hik hsz hs' hst' hln
      have A1 := Aside0.mk HQ.out.2.1
      have A0 := Aside0.mk HQ.out.2.2
      go_wp2_with (first | ((with_reducible refine gate_dst (N := 15) rfl ?_); refine ld67 A1.out HI.out.2.2 (.tmp 2) rfl rfl rfl ?_) | ((with_reducible refine gate_store (t := 67) (p := 4) rfl ?_); refine st67 A0.out rfl HI.out.2.2 (.tmp 4) (.tmp 15) rfl rfl rfl rfl ?_))
      (try simp only [Exit.inBlock, Exit.then])
      refine bodyPost_ret (results_cell67 rfl _ _ (blk_row A0.out) HI.out.2.2 rfl rfl) rfl ⟨?_, setRow_below HQ.out.1 (by omega) _⟩
      show _ = Ending.returned (.tuple #[arr (bTo [a, b, c, d, e, f, g, h] s (s.size / 64)).1, .string (bTo [a, b, c, d, e, f, g, h] s (s.size / 64)).2])
      rw [HI.out.1, HI.out.2.1]
    | succ kk =>
      have hi : (64 : Int) ≤ (s'.size : Int) := by omega
      have hi2 : (64 : Int) ≤ ((s'.size : Nat) : Int) ∧ 64 ≤ s'.size := by omega
      have HI := Aside0.mk (And.intro hik (And.intro hst' (And.intro hs' hln)))
      obtain ⟨a', b', c', d', e', f', g', h', hl9⟩ := arr8 st' hln
      subst hl9
      clear hik hsz hs' hst' hln
      have B0 := HQ.out.2.1
      have c0 := blk_cell_ B0 0 (by simp)
      have c1 := blk_cell_ B0 1 (by simp)
      have c2 := blk_cell_ B0 2 (by simp)
      have c3 := blk_cell_ B0 3 (by simp)
      have c4 := blk_cell_ B0 4 (by simp)
      have c5 := blk_cell_ B0 5 (by simp)
      have c6 := blk_cell_ B0 6 (by simp)
      have c7 := blk_cell_ B0 7 (by simp)
      simp only [List.getD_cons_zero, List.getD_cons_succ] at c0 c1 c2 c3 c4 c5 c6 c7
      have A0 := Aside0.mk B0
      clear B0
      go_wp2
      go_still_tail 3, (by kernel_rfl)
      change wpList _ _ _ _ _ wr.drew
      have hT2 : Tab wr.drew := tab_below HT.out (below_drew HQ.out.1)
      have HQ2 : Aside0 (Below w.heap.size w wr.drew ∧ Blk wr.drew w.heap.size 67 [a', b', c', d', e', f', g', h'] ∧ Blk wr.drew (w.heap.size + 1) 67 [0, 0, 0, 0, 0, 0, 0, 0] ∧ Tab wr.drew) := ⟨below_drew HQ.out.1, HQ.out.2.1, HQ.out.2.2, hT2⟩
      clear hT2 A0 HQ c0 c1 c2 c3 c4 c5 c6 c7
      generalize wr.drew = w2 at HQ2 ⊢
      have hx : 64 ≤ (s'.extract 0 64).size := by rw [ByteArray.size_extract]; omega
      have HX := Aside0.mk hx
      clear hx
      go_wp2_with (first | (go_at_call 81; refine (one_calls [a', b', c', d', e', f', g', h'] rfl (s'.extract 0 64) HX.out _ HQ2.out.2.2.2).mono ?_; rintro e_ w1 ⟨rfl, hb1⟩; have HB1 := Aside0.mk hb1; clear hb1) | ((with_reducible refine gate_store (t := 67) (p := 2) rfl ?_); refine st67 (l' := one [a', b', c', d', e', f', g', h'] (s'.extract 0 64)) (blk_below HQ2.out.2.1 HB1.out) rfl (one_len _ _ rfl) (.tmp 2) (.tmp 12) rfl rfl rfl rfl ?_))
      go_roundg kk
      case measure => omega
      case rel =>
        obtain ⟨hik, hst', hs', hln⟩ := HI.out
        refine ⟨i + 1, by omega, ?_, ⟨setRow_below (below_step HQ2.out.1 HB1.out) (Nat.le_refl _) _, ?_, blk_row_far (blk_below HQ2.out.2.2.1 HB1.out) (by omega) _⟩⟩
        · show _ = Value.string ((bTo [a, b, c, d, e, f, g, h] s i).2.extract 64 (bTo [a, b, c, d, e, f, g, h] s i).2.size)
          rw [hs']
        · show Blk _ _ _ (one (bTo [a, b, c, d, e, f, g, h] s i).1 ((bTo [a, b, c, d, e, f, g, h] s i).2.extract 0 64))
          rw [hs', hst']
          exact blk_row (blk_below HQ2.out.2.1 HB1.out)
end Go.Proofs.YtlddohppkcndjaaDoor.Sha
namespace Go.Proofs.YtlddohppkcndjaaDoor.Sha
open Go.RowKit Go.Proofs.YtlddohppkcndjaaDoorW.PrintWords Go.Proofs.YtlddohppkcndjaaDoorW.PrintLast Go.Proofs.YtlddohppkcndjaaDoorW.PrintMore Go.Proofs.YtlddohppkcndjaaDoor.Pending Go.Proofs.YtlddohppkcndjaaDoor.Pright
set_option linter.unusedVariables false
set_option linter.unusedSimpArgs false

/-- What fills the last block. -/
def en (c : Nat) : ByteArray := ((⟨#[128]⟩ : ByteArray) ++ strOfNums (List.replicate ((119 - c % 64) % 64) 0)) ++ (four ((8 * c / 4294967296 : Nat) : Int) ++ four ((8 * c % 4294967296 : Nat) : Int))
theorem en_size (c : Nat) : (en c).size = 9 + (119 - c % 64) % 64 := by
  unfold en
  simp only [ByteArray.size_append, four_size, strOfNums_size, List.length_replicate]
  rw [show (⟨#[128]⟩ : ByteArray).size = 1 from rfl]
  omega
theorem en_f (c : Nat) (hc : c ≤ 1152921504606846975) : impl_ending.f (c : Int) = some (en c) := by
  have e1 : Int.tmod (c : Int) 64 = ((c % 64 : Nat) : Int) := by rw [Int.tmod_eq_emod_of_nonneg (by omega)]; omega
  have e2 : wrap64 (119 - ((c % 64 : Nat) : Int)) = ((119 - c % 64 : Nat) : Int) := by unfold wrap64; omega
  have e3 : Int.tmod ((119 - c % 64 : Nat) : Int) 64 = (((119 - c % 64) % 64 : Nat) : Int) := by rw [Int.tmod_eq_emod_of_nonneg (by omega)]; omega
  have e4 : wrap64 (8 * (c : Int)) = ((8 * c : Nat) : Int) := by unfold wrap64; omega
  have e5 : (((8 * c : Nat) : Int) / 4294967296) % 4294967296 = ((8 * c / 4294967296 : Nat) : Int) := by omega
  have e6 : ((8 * c : Nat) : Int) % 4294967296 = ((8 * c % 4294967296 : Nat) : Int) := by omega
  have hz : impl_zeros.f (((119 - c % 64) % 64 : Nat) : Int) = some (strOfNums (List.replicate ((119 - c % 64) % 64) 0)) := by
    unfold impl_zeros.f
    rw [if_pos (by omega), Int.toNat_natCast, if_pos (by omega)]
  have h8 : impl_eightBytes.f ((8 * c : Nat) : Int) = some (four ((8 * c / 4294967296 : Nat) : Int) ++ four ((8 * c % 4294967296 : Nat) : Int)) := by
    unfold impl_eightBytes.f
    rw [e5, e6]
    show ((some (four _)).bind fun t107 => (some (four _)).bind fun t108 => if t107.size + t108.size ≤ 9223372036854775807 then some (t107 ++ t108) else none) = _
    simp only [Option.bind_some]
    rw [four_size, four_size, if_pos (by decide)]
  unfold impl_ending.f
  rw [e1, e2, e3, e4, hz, h8]
  simp only [Option.bind_some]
  rw [if_pos (by rw [strOfNums_size, List.length_replicate]; omega)]
  rw [if_pos (by simp only [ByteArray.size_append, four_size, strOfNums_size, List.length_replicate]; rw [show (⟨#[128]⟩ : ByteArray).size = 1 from rfl]; omega)]
  rfl
/-- The digest. -/
def digest (s : ByteArray) : ByteArray := stText (blks first8 (s ++ en s.size)).1
theorem stateText_calls' (l : List Int) (hl : l.length = 8) (w : World) : Calls Tryd.prog 55 #[arr l] w fun e_ w' => e_ = .returned (.string (stText l)) ∧ Below w.heap.size w w' := by
  obtain ⟨a, b, c, d, e, f, g, h, rfl⟩ := arr8 l hl
  exact stateText_calls a b c d e f g h w
theorem blks_len (st : List Int) (s : ByteArray) (h : st.length = 8) : (blks st s).1.length = 8 := bTo_len st s h _
set_option maxHeartbeats 4000000 in
set_option maxRecDepth 100000 in
theorem digest_calls (s : ByteArray) (hs : s.size ≤ 1152921504606846975) (w : World) (htab : Tab w) : Calls Tryd.prog 16 #[.string s] w fun e_ w' => e_ = .returned (.string (digest s)) ∧ Below w.heap.size w w' := by
  have HB := Aside0.mk (Below.refl w.heap.size w)
  have HT := Aside0.mk htab
  have hes := en_size s.size
  have hroom : (9223372036854775807 < s.size + (en s.size).size) = False := eq_false (by omega)
  have hr2 : (s ++ en s.size).size ≤ 9223372036854775807 := by rw [ByteArray.size_append]; omega
  obtain ⟨en_, hen⟩ : ∃ e, en s.size = e := ⟨_, rfl⟩
  have hef := en_f s.size hs
  rw [hen] at hroom hr2 hef
  have HE := Aside0.mk (And.intro hen (And.intro hr2 hef))
  clear htab hes hr2 hef hen
  go_enter Tryd.func16, Tryd.ntmps16
  go_wp2_with (first | (go_at_call 53; refine (first_calls _).mono ?_; rintro e_ w1 ⟨rfl, hb1⟩; have HB1 := Aside0.mk hb1; clear hb1) | (go_at_call 54; refine (impl_ending.calls _ _ _ HE.out.2.2).mono ?_; rintro e_ w2 ⟨rfl, hb2⟩; have HB2 := Aside0.mk (below_step HB1.out hb2); clear hb2) | (go_at_call 52; refine (blocks_calls first8 rfl (s ++ en_) HE.out.2.1 _ (tab_below HT.out HB2.out)).mono ?_; rintro e_ w3 ⟨rfl, hb3⟩; have HB3 := Aside0.mk (below_step HB2.out hb3); clear hb3; (generalize hbl : blks first8 (s ++ en_) = bl); have hbll := blks_len first8 (s ++ en_) rfl; (rw [hbl] at hbll); have HBL := Aside0.mk (And.intro hbl hbll); clear hbl hbll) | ((with_reducible refine gate_store (t := 67) (p := 3) rfl ?_); refine st67 (l := [0, 0, 0, 0, 0, 0, 0, 0]) (l' := bl.1) (heap_alloc_last _ _) rfl HBL.out.2 (.tmp 3) (.tmp 13) rfl rfl rfl rfl ?_) | ((with_reducible refine gate_dst (N := 15) rfl ?_); refine ld67 (l := bl.1) (blk_row (l := [0, 0, 0, 0, 0, 0, 0, 0]) (heap_alloc_last _ _)) HBL.out.2 (.tmp 3) rfl rfl rfl ?_) | (go_at_call 55; refine (stateText_calls' bl.1 HBL.out.2 _).mono ?_; rintro e_ w4 ⟨rfl, hb4⟩; have HB4 := Aside0.mk hb4; clear hb4))
  go_ret
  refine ⟨?_, ?_⟩
  · unfold digest
    rw [HE.out.1, HBL.out.1]
    rfl
  · exact below_step (setRow_below (below_alloc HB3.out _) HB3.out.size _) HB4.out
theorem size27 : (Tryd.prog.info? 27).map (·.size) = some 3 := by kernel_rfl
section
variable {ops : Array Oper} {rest : List Oper} {o : Oper} {a : Act} {w : World} {Q : Exit → Act → World → Prop} {x y z x' y' z' : Value} {b : Nat} {t : TypeId}
theorem ld27 (hb : w.heap[b]? = some (.cells #[x, y, z] t (0, 0))) (u : Operand) (hgd : o.guard = none) (ho : o.op = .load 27 u) (hx : a.eval u = .pointer (some ⟨b, 0, none⟩)) (h : wpList Tryd.prog ops Q rest (a.put o.dst (.agg #[x, y, z])) w) : wpList Tryd.prog ops Q (o :: rest) a w :=
  wpList_load_row hgd 27 u ho b hx t _ _ _ hb Tryd.underlying27 rfl (by rw [size27]; rfl) h
theorem st27 (hb : w.heap[b]? = some (.cells #[x, y, z] t (0, 0))) (u v : Operand) (hgd : o.guard = none) (ho : o.op = .store 27 u v) (hx : a.eval u = .pointer (some ⟨b, 0, none⟩)) (hy : a.eval v = .agg #[x', y', z']) (h1 : (#[x', y', z'] : Array Value).all (·.oneCell') = true) (h : wpList Tryd.prog ops Q rest (a.put o.dst undef) (w.setRow b #[x', y', z'])) : wpList Tryd.prog ops Q (o :: rest) a w :=
  wpList_store_row hgd 27 u v ho b _ hx hy t _ hb (by rw [size27]; rfl) rfl h1 h
end
theorem ret27 {fn : Func} {p : Tmp} {x y z : Value} (h : fn.results = #[.cell p 27]) (tmps : Array Value) (w : World) {b : Nat} {t : TypeId} (hb : w.heap[b]? = some (.cells #[x, y, z] t (0, 0))) (hp : tmps.getD p undef = .pointer (some ⟨b, 0, none⟩)) : (results fn tmps).run Tryd.prog w = .ok (.agg #[x, y, z]) w :=
  results_cell_row h tmps w b t _ _ _ hp hb Tryd.underlying27 rfl (by rw [size27]; rfl)
set_option maxHeartbeats 4000000 in
set_option maxRecDepth 100000 in
theorem hasherNew_calls (w : World) : Calls Tryd.prog 40 #[] w fun e_ w' => e_ = .returned (.agg #[.string (stText first8), .string ⟨#[]⟩, .int .i64 0]) ∧ Below w.heap.size w w' := by
  have HB := Aside0.mk (Below.refl w.heap.size w)
  go_enter Tryd.func40, Tryd.ntmps40
  go_wp2_with (first | (go_at_call 53; refine (first_calls _).mono ?_; rintro e_ w1 ⟨rfl, hb1⟩; have HB1 := Aside0.mk hb1; clear hb1) | (go_at_call 55; refine (stateText_calls' first8 rfl _).mono ?_; rintro e_ w2 ⟨rfl, hb2⟩; have HB2 := Aside0.mk (below_step HB1.out hb2); clear hb2) | ((with_reducible refine gate_store (t := 27) (p := 0) rfl ?_); refine st27 (blk_below (heap_alloc_last _ _) HB2.out) (.tmp 0) (.tmp 3) rfl rfl rfl rfl (by simp [Value.oneCell']) ?_))
  (try simp only [Exit.inBlock, Exit.then])
  refine bodyPost_ret (ret27 (x := .string (stText first8)) (y := .string ⟨#[]⟩) (z := .int .i64 0) rfl _ _ (setRow_heap _ _ _ _ _ _ (blk_below (heap_alloc_last _ _) HB2.out)) rfl) rfl ⟨rfl, setRow_below ((HB.out.alloc (Nat.le_refl _) _).trans (HB2.out.mono (by rw [sz_alloc]; omega))) (Nat.le_refl _) _⟩
end Go.Proofs.YtlddohppkcndjaaDoor.Sha
namespace Go.Proofs.YtlddohppkcndjaaDoor.Sha
open Go.RowKit Go.Proofs.YtlddohppkcndjaaDoorW.PrintWords Go.Proofs.YtlddohppkcndjaaDoorW.PrintLast Go.Proofs.YtlddohppkcndjaaDoorW.PrintMore Go.Proofs.YtlddohppkcndjaaDoor.Pending Go.Proofs.YtlddohppkcndjaaDoor.Pright Go.Proofs.YtlddohppkcndjaaDoor.PHasherOk
set_option linter.unusedVariables false
set_option linter.unusedSimpArgs false

/-- Is a hasher right? -/
def hOk (st r : ByteArray) (c : Int) : Bool := decide (st.size = 32 ∧ 0 ≤ c ∧ c ≤ 1000000000 ∧ (r.size : Int) = c % 64)
theorem ok_f (st r : ByteArray) (c : Int) : impl_HasherOk.f st r c = some (hOk st r c) := by
  unfold impl_HasherOk.f impl_in.f hOk
  by_cases h1 : st.size = 32
  · rw [if_pos (by omega)]
    by_cases h2 : 0 ≤ c
    · have e := Int.tmod_eq_emod_of_nonneg (b := 64) h2
      rw [e]
      by_cases h3 : c ≤ 1000000000
      · by_cases h4 : (r.size : Int) = c % 64 <;> simp [h1, h2, h3, h4]
      · simp [h1, h2, h3]
    · simp [h1, h2]
  · rw [if_neg (by omega)]
    simp [h1]
def hashMore (st r : ByteArray) (c : Int) (s : ByteArray) : ByteArray × ByteArray × Int :=
  if hOk st r c = true ∧ (s.size : Int) ≤ 1000000000 - c then (stText (blks (txState st) (r ++ s)).1, (blks (txState st) (r ++ s)).2, c + s.size) else (st, r, c)
def hashEnd (st r : ByteArray) (c : Int) : ByteArray :=
  if hOk st r c = true then stText (blks (txState st) (r ++ en c.toNat)).1 else ⟨#[]⟩
theorem txState_len (s : ByteArray) : (txState s).length = 8 := tsTo_len s 32
theorem blocks_calls' (st : List Int) (hst : st.length = 8) (s : ByteArray) (hs : s.size ≤ 9223372036854775807) (w : World) (htab : Tab w) (a b c d e f g h : Int) (r : ByteArray) (he : blks st s = ([a, b, c, d, e, f, g, h], r)) : Calls Tryd.prog 52 #[arr st, .string s] w fun e_ w' => e_ = .returned (.tuple #[.agg #[.int .u32 a, .int .u32 b, .int .u32 c, .int .u32 d, .int .u32 e, .int .u32 f, .int .u32 g, .int .u32 h], .string r]) ∧ Below w.heap.size w w' := by
  have := blocks_calls st hst s hs w htab
  rw [he] at this
  exact this
/-- What is held while other calls make memory. -/
abbrev Held (w W : World) (st r : ByteArray) (c : Int) : Prop := Below w.heap.size w W ∧ W.heap[w.heap.size]? = some (.cells #[.string st, .string r, .int .i64 c] 27) ∧ W.heap[w.heap.size + 1]? = some (.cells #[.string ⟨#[]⟩, .string ⟨#[]⟩, .int .i64 0] 27) ∧ Tab W
theorem held_below {w W W2 : World} {st r : ByteArray} {c : Int} (h : Held w W st r c) (hb : Below W.heap.size W W2) : Held w W2 st r c :=
  ⟨below_step h.1 hb, blk_below h.2.1 hb, blk_below h.2.2.1 hb, tab_below h.2.2.2 hb⟩
theorem held_alloc {w W : World} {st r : ByteArray} {c : Int} (h : Held w W st r c) (o : Obj) : Held w (W.alloc o) st r c := held_below h ((Below.refl _ _).alloc (Nat.le_refl _) o)
theorem held_size {w W : World} {st r : ByteArray} {c : Int} (h : Held w W st r c) : w.heap.size + 2 ≤ W.heap.size := blk_lt h.2.2.1
theorem held_set {w W : World} {st r : ByteArray} {c : Int} (h : Held w W st r c) {b : Nat} (hb : w.heap.size + 2 ≤ b) (i : Nat) (v : Value) : Held w (W.setCell ⟨b, i, none⟩ v) st r c :=
  ⟨h.1.setCell (show w.heap.size ≤ b by omega) _, blk_far h.2.1 (show w.heap.size ≠ b by omega) _, blk_far h.2.2.1 (show w.heap.size + 1 ≠ b by omega) _, by
    have := tab_lt h.2.2.2
    have h0 : (W.setCell ⟨b, i, none⟩ v).heap[0]? = W.heap[0]? := by
      by_cases hz : b = 0
      · omega
      · exact heap_setCell_other W ⟨b, i, none⟩ 0 v (fun e => hz e.symm)
    have ht := h.2.2.2
    unfold Tab Lib.TabIs World.var? at *
    rw [gTab] at ht ⊢
    simp only [Option.bind_some] at ht ⊢
    rw [h0]
    exact ht⟩
theorem held8 {w W : World} {st r : ByteArray} {c : Int} (h : Held w W st r c) {b : Nat} (hb : w.heap.size + 2 ≤ b) (v0 v1 v2 v3 v4 v5 v6 v7 : Value) : Held w ((((((((W.setCell ⟨b, 0, none⟩ v0).setCell ⟨b, 1, none⟩ v1).setCell ⟨b, 2, none⟩ v2).setCell ⟨b, 3, none⟩ v3).setCell ⟨b, 4, none⟩ v4).setCell ⟨b, 5, none⟩ v5).setCell ⟨b, 6, none⟩ v6).setCell ⟨b, 7, none⟩ v7) st r c :=
  held_set (held_set (held_set (held_set (held_set (held_set (held_set (held_set h hb 0 v0) hb 1 v1) hb 2 v2) hb 3 v3) hb 4 v4) hb 5 v5) hb 6 v6) hb 7 v7
theorem blk8 {W : World} {b : Nat} (h : Blk W b 67 [0, 0, 0, 0, 0, 0, 0, 0]) (v0 v1 v2 v3 v4 v5 v6 v7 : Int) : Blk ((((((((W.setCell ⟨b, 0, none⟩ (.int .u32 v0)).setCell ⟨b, 1, none⟩ (.int .u32 v1)).setCell ⟨b, 2, none⟩ (.int .u32 v2)).setCell ⟨b, 3, none⟩ (.int .u32 v3)).setCell ⟨b, 4, none⟩ (.int .u32 v4)).setCell ⟨b, 5, none⟩ (.int .u32 v5)).setCell ⟨b, 6, none⟩ (.int .u32 v6)).setCell ⟨b, 7, none⟩ (.int .u32 v7)) b 67 [v0, v1, v2, v3, v4, v5, v6, v7] :=
  blk_put_ (blk_put_ (blk_put_ (blk_put_ (blk_put_ (blk_put_ (blk_put_ (blk_put_ h 0 v0) 1 v1) 2 v2) 3 v3) 4 v4) 5 v5) 6 v6) 7 v7
theorem blk_zero {W : World} {b : Nat} (h : Blk W b 67 [0, 0, 0, 0, 0, 0, 0, 0]) : (∀ i, i < 8 → W.cell? ⟨b, i, none⟩ = some (.int .u32 0)) ∧ ∀ i, W.frozen? ⟨b, i, none⟩ = false := by
  refine ⟨fun i hi => ?_, fun i => blk_froz h i⟩
  rw [blk_cell_ h i (by simpa using hi)]
  have : i = 0 ∨ i = 1 ∨ i = 2 ∨ i = 3 ∨ i = 4 ∨ i = 5 ∨ i = 6 ∨ i = 7 := by omega
  rcases this with rfl | rfl | rfl | rfl | rfl | rfl | rfl | rfl <;> rfl
theorem held_cell {w W : World} {st r : ByteArray} {c : Int} (h : Held w W st r c) : W.cell? ⟨w.heap.size, 0, none⟩ = some (.string st) ∧ W.cell? ⟨w.heap.size, 1, none⟩ = some (.string r) ∧ W.cell? ⟨w.heap.size, 2, none⟩ = some (.int .i64 c) :=
  ⟨blk_cell h.2.1 0, blk_cell h.2.1 1, blk_cell h.2.1 2⟩
theorem wp_world {P : Program} {c : Code} {Q : Exit → Act → World → Prop} {a : Act} {W : World} (h : ∀ V, V = W → c.wp P Q a V) : c.wp P Q a W := h W rfl
theorem s9 {W : World} {b0 b : Nat} {x y : Value} {c b1 b2 b3 b4 b5 b6 b7 b8 : Int} (h : W.heap[b0]? = some (.cells #[x, y, .int .i64 c] 27)) (hb : Blk W b 67 [b1, b2, b3, b4, b5, b6, b7, b8]) :
    W.cell? ⟨b0, 2, none⟩ = some (.int .i64 c) ∧ W.cell? ⟨b, 0, none⟩ = some (.int .u32 b1) ∧ W.cell? ⟨b, 1, none⟩ = some (.int .u32 b2) ∧ W.cell? ⟨b, 2, none⟩ = some (.int .u32 b3) ∧ W.cell? ⟨b, 3, none⟩ = some (.int .u32 b4) ∧ W.cell? ⟨b, 4, none⟩ = some (.int .u32 b5) ∧ W.cell? ⟨b, 5, none⟩ = some (.int .u32 b6) ∧ W.cell? ⟨b, 6, none⟩ = some (.int .u32 b7) ∧ W.cell? ⟨b, 7, none⟩ = some (.int .u32 b8) :=
  ⟨blk_cell h 2, blk_cell_ hb 0 (by simp), blk_cell_ hb 1 (by simp), blk_cell_ hb 2 (by simp), blk_cell_ hb 3 (by simp), blk_cell_ hb 4 (by simp), blk_cell_ hb 5 (by simp), blk_cell_ hb 6 (by simp), blk_cell_ hb 7 (by simp)⟩
theorem far3 {W : World} {b0 b : Nat} {t : TypeId} {cs : Array Value} (h : W.heap[b0]? = some (.cells cs t)) (hne : b0 ≠ b) (x y z : Value) : (((W.setCell ⟨b, 0, none⟩ x).setCell ⟨b, 1, none⟩ y).setCell ⟨b, 2, none⟩ z).heap[b0]? = some (.cells cs t) :=
  blk_far (blk_far (blk_far h (show b0 ≠ b from hne) x) (show b0 ≠ b from hne) y) (show b0 ≠ b from hne) z
theorem held_out {w W : World} {st r : ByteArray} {c : Int} (h : Held w W st r c) : (W.cell? ⟨w.heap.size + 1, 0, none⟩ = some (.string ⟨#[]⟩) ∧ W.cell? ⟨w.heap.size + 1, 1, none⟩ = some (.string ⟨#[]⟩) ∧ W.cell? ⟨w.heap.size + 1, 2, none⟩ = some (.int .i64 0)) ∧ W.frozen? ⟨w.heap.size + 1, 0, none⟩ = false ∧ W.frozen? ⟨w.heap.size + 1, 1, none⟩ = false ∧ W.frozen? ⟨w.heap.size + 1, 2, none⟩ = false :=
  ⟨⟨blk_cell h.2.2.1 0, blk_cell h.2.2.1 1, blk_cell h.2.2.1 2⟩, blk_frozen h.2.2.1 0, blk_frozen h.2.2.1 1, blk_frozen h.2.2.1 2⟩
set_option maxHeartbeats 16000000 in
set_option maxRecDepth 100000 in
theorem hashMore_calls (st r : ByteArray) (c : Int) (s : ByteArray) (hc : -9223372036854775808 ≤ c ∧ c ≤ 9223372036854775807) (hs : s.size ≤ 1152921504606846975) (w : World) (htab : Tab w) : Calls Tryd.prog 20 #[.agg #[.string st, .string r, .int .i64 c], .string s] w fun e_ w' => e_ = .returned (.agg #[.string (hashMore st r c s).1, .string (hashMore st r c s).2.1, .int .i64 (hashMore st r c s).2.2]) ∧ Below w.heap.size w w' := by
  have HB := Aside0.mk (Below.refl w.heap.size w)
  have HT := Aside0.mk htab
  clear htab
  by_cases hok : hOk st r c = true
  · have hok' := hok
    unfold hOk at hok'
    simp only [decide_eq_true_eq] at hok'
    obtain ⟨h32, h0, h9, h64⟩ := hok'
    have hof := ok_f st r c
    rw [hok] at hof
    have HO := Aside0.mk hof
    have HOK := Aside0.mk hok
    clear hof hok
    by_cases hfit : (s.size : Int) ≤ 1000000000 - c
    · have e : hashMore st r c s = (stText (blks (txState st) (r ++ s)).1, (blks (txState st) (r ++ s)).2, c + s.size) := by unfold hashMore; rw [if_pos ⟨HOK.out, hfit⟩]
      rw [e]
      clear e
      have hroom : (9223372036854775807 < r.size + s.size) = False := eq_false (by omega)
      have hr2 : (r ++ s).size ≤ 9223372036854775807 := by rw [ByteArray.size_append]; omega
      have htl := txState_len st
      obtain ⟨⟨bl, br⟩, hbl⟩ : ∃ q, blks (txState st) (r ++ s) = q := ⟨_, rfl⟩
      have hbll := blks_len (txState st) (r ++ s) htl
      rw [hbl] at hbll ⊢
      obtain ⟨b1, b2, b3, b4, b5, b6, b7, b8, rfl⟩ := arr8 bl hbll
      have HX := Aside0.mk (And.intro True.intro (And.intro htl (And.intro hbl (And.intro hr2 (show 32 ≤ st.size by omega)))))
      clear htl hbl hbll hr2 hs h64 h32
      go_enter Tryd.func20, Tryd.ntmps20
      go_wp2_with (first | ((with_reducible refine gate_dst (N := 7) rfl ?_); refine ld27 (blk_alloc (blk_new _ _) _) (.tmp 2) rfl rfl rfl ?_) | (go_at_call 41; refine (impl_HasherOk.calls st r c _ _ HO.out).mono ?_; rintro e_ w1 ⟨rfl, hb1⟩; have HB1 := Aside0.mk hb1; clear hb1; have B0 := blk_below (blk_alloc (blk_new w (.cells #[.string st, .string r, .int .i64 c] 27)) _) HB1.out; have Z0 := Aside0.mk (blk_below (heap_alloc2_new w _ _) HB1.out); have c0 := blk_cell B0 0; have c1 := blk_cell B0 1; have c2 := blk_cell B0 2; simp only [List.getElem?_toArray, List.getElem?_cons_zero, List.getElem?_cons_succ] at c0 c1 c2; have A0 := Aside0.mk B0; clear B0))
      have kW : Below w.heap.size w w1 := ((HB.out.alloc (Nat.le_refl _) (.cells #[.string st, .string r, .int .i64 c] 27)).alloc (by rw [sz_alloc]; omega) (.cells #[.string ⟨#[]⟩, .string ⟨#[]⟩, .int .i64 0] 27)).trans (HB1.out.mono (by rw [sz_alloc, sz_alloc]; omega))
      have HQ : Aside0 (Held w w1.drew st r c) := ⟨below_drew kW, A0.out, Z0.out, tab_below (tab_below HT.out kW) (below_drew (Below.refl _ _))⟩
      clear kW HB1 A0 Z0
      have HP := HQ
      go_region_held3 (fun w' => w'.cell? ⟨w.heap.size, 0, none⟩ = some (.string st) ∧ w'.cell? ⟨w.heap.size, 1, none⟩ = some (.string r)) (first | (simp [*, World.cell?_alloc_some, World.cell?_setCell_far]; done) | (have hq8 := held_cell (held8 HQ.out BZ.out.2 (.int .u32 b1) (.int .u32 b2) (.int .u32 b3) (.int .u32 b4) (.int .u32 b5) (.int .u32 b6) (.int .u32 b7) (.int .u32 b8)); exact ⟨hq8.1, hq8.2.1⟩))
        (first
          | (go_at_call 60; refine (textState_calls st HX.out.2.2.2.2 _).mono ?_; rintro e_ w2 ⟨rfl, hb2⟩; have HQ_ := Aside0.mk (held_below (by (first | exact HQ.out | exact held_alloc HQ.out _)) hb2); clear HQ; have HQ := HQ_; clear HQ_; (first | (have BZ_ : Aside0 (Blk w2 _ 67 [0, 0, 0, 0, 0, 0, 0, 0] ∧ w.heap.size + 2 ≤ _) := ⟨blk_below BZ.out.1 hb2, BZ.out.2⟩; clear BZ; have BZ := BZ_; clear BZ_) | (have BZ : Aside0 (Blk w2 _ 67 [0, 0, 0, 0, 0, 0, 0, 0] ∧ w.heap.size + 2 ≤ _) := ⟨blk_below (blk_new _ _) hb2, held_size HP.out⟩) | (have BZ : Aside0 (Blk w2 _ 67 [0, 0, 0, 0, 0, 0, 0, 0] ∧ w.heap.size + 2 ≤ _) := ⟨blk_below (blk_drew (blk_new _ _)) hb2, held_size HP.out⟩) | skip); clear hb2; have HP_ := HQ; clear HP; have HP := HP_; clear HP_; have k0 := (held_cell HQ.out).1; have k1 := (held_cell HQ.out).2.1)
          | (go_at_call 52; refine (blocks_calls' (txState st) HX.out.2.1 (r ++ s) HX.out.2.2.2.1 _ ((by first | exact HQ.out | exact held_alloc HQ.out _ : Held w _ st r c)).2.2.2 b1 b2 b3 b4 b5 b6 b7 b8 br HX.out.2.2.1).mono ?_; rintro e_ w3 ⟨rfl, hb3⟩; have HQ_ := Aside0.mk (held_below (by (first | exact HQ.out | exact held_alloc HQ.out _)) hb3); clear HQ; have HQ := HQ_; clear HQ_; (first | (have BZ_ : Aside0 (Blk w3 _ 67 [0, 0, 0, 0, 0, 0, 0, 0] ∧ w.heap.size + 2 ≤ _) := ⟨blk_below BZ.out.1 hb3, BZ.out.2⟩; clear BZ; have BZ := BZ_; clear BZ_) | (have BZ : Aside0 (Blk w3 _ 67 [0, 0, 0, 0, 0, 0, 0, 0] ∧ w.heap.size + 2 ≤ _) := ⟨blk_below (blk_new _ _) hb3, held_size HP.out⟩) | (have BZ : Aside0 (Blk w3 _ 67 [0, 0, 0, 0, 0, 0, 0, 0] ∧ w.heap.size + 2 ≤ _) := ⟨blk_below (blk_drew (blk_new _ _)) hb3, held_size HP.out⟩) | skip); clear hb3; have HP_ := HQ; clear HP; have HP := HP_; clear HP_; have l0 := (held_cell HQ.out).1; have l1 := (held_cell HQ.out).2.1; (try (have zc := (blk_zero BZ.out.1).1; have zf := (blk_zero BZ.out.1).2; (try simp only [heap_drew] at zc zf)))))
      all_goals
        go_wp2_with fail
        refine wp_world (fun V hV => ?_)
      (obtain ⟨bb, hbb, hH, hBk⟩ : ∃ q, w3.heap.size = q ∧ Held w V st r c ∧ Blk V q 67 [b1, b2, b3, b4, b5, b6, b7, b8] := ⟨_, rfl, by rw [hV]; exact ⟨held_alloc HQ.out _, blk_new _ _⟩⟩; rw [hbb])
      rotate_left 1
      (obtain ⟨bb, hbb, hH, hBk⟩ : ∃ q, w2.heap.size = q ∧ Held w V st r c ∧ Blk V q 67 [b1, b2, b3, b4, b5, b6, b7, b8] := ⟨_, rfl, by rw [hV]; exact ⟨held8 HQ.out BZ.out.2 (.int .u32 b1) (.int .u32 b2) (.int .u32 b3) (.int .u32 b4) (.int .u32 b5) (.int .u32 b6) (.int .u32 b7) (.int .u32 b8), blk8 BZ.out.1 b1 b2 b3 b4 b5 b6 b7 b8⟩⟩; rw [hbb])
      rotate_left 1
      (obtain ⟨bb, hbb, hH, hBk⟩ : ∃ q, w1.heap.size = q ∧ Held w V st r c ∧ Blk V q 67 [b1, b2, b3, b4, b5, b6, b7, b8] := ⟨_, rfl, by rw [hV]; exact ⟨held8 HQ.out BZ.out.2 (.int .u32 b1) (.int .u32 b2) (.int .u32 b3) (.int .u32 b4) (.int .u32 b5) (.int .u32 b6) (.int .u32 b7) (.int .u32 b8), blk8 BZ.out.1 b1 b2 b3 b4 b5 b6 b7 b8⟩⟩; rw [hbb])
      rotate_left 1
      all_goals
        have hbig : w.heap.size + 2 ≤ bb := by rw [← hbb]; first | exact held_size HQ.out | exact BZ.out.2
        have HQ4 : Aside0 (Held w V.drew st r c ∧ Blk V.drew bb 67 [b1, b2, b3, b4, b5, b6, b7, b8]) := ⟨⟨below_drew hH.1, hH.2.1, hH.2.2.1, tab_below hH.2.2.2 (below_drew (Below.refl _ _))⟩, hBk⟩
        have HH := s9 hH.2.1 hBk
        obtain ⟨e0, e1, e2, e3, e4, e5, e6, e7, e8⟩ := HH
        have HBB := Aside0.mk hbig
        clear hV hbb hH hBk hbig HQ HP
        go_region_held3 (fun w' => w'.cell? ⟨w.heap.size, 2, none⟩ = some (.int .i64 c) ∧ w'.cell? ⟨bb, 0, none⟩ = some (.int .u32 b1) ∧ w'.cell? ⟨bb, 1, none⟩ = some (.int .u32 b2) ∧ w'.cell? ⟨bb, 2, none⟩ = some (.int .u32 b3) ∧ w'.cell? ⟨bb, 3, none⟩ = some (.int .u32 b4) ∧ w'.cell? ⟨bb, 4, none⟩ = some (.int .u32 b5) ∧ w'.cell? ⟨bb, 5, none⟩ = some (.int .u32 b6) ∧ w'.cell? ⟨bb, 6, none⟩ = some (.int .u32 b7) ∧ w'.cell? ⟨bb, 7, none⟩ = some (.int .u32 b8)) (first | (simp [*, World.cell?_alloc_some, World.cell?_setCell_far]; done) | exact s9 (far3 HQ5.out.1.2.1 (by omega) _ _ _) (far3 HQ5.out.2 (by have := HBB.out; omega) _ _ _))
          (first
            | (go_at_call 55; refine (stateText_calls b1 b2 b3 b4 b5 b6 b7 b8 _).mono ?_; rintro e_ w5 ⟨rfl, hb5⟩; have HQ5 : Aside0 (Held w w5 st r c ∧ Blk w5 bb 67 [b1, b2, b3, b4, b5, b6, b7, b8]) := ⟨held_below HQ4.out.1 hb5, blk_below HQ4.out.2 hb5⟩; clear hb5; have g9 := s9 HQ5.out.1.2.1 HQ5.out.2; obtain ⟨g0, g1, g2, g3, g4, g5, g6, g7, g8⟩ := g9; obtain ⟨⟨z0, z1, z2⟩, y0, y1, y2⟩ := held_out HQ5.out.1))
        go_wp2_with fail
        (try simp only [Exit.inBlock, Exit.then])
        have hwr : IntKind.i64.wrap (c + (s.size : Int)) = c + s.size := by rw [IntKind.wrap_i64]; omega
        rw [hwr]
        refine bodyPost_ret (ret27 (x := .string (stText [b1, b2, b3, b4, b5, b6, b7, b8])) (y := .string br) (z := .int .i64 (c + s.size)) rfl _ _ (blk_put (blk_put (blk_put HQ5.out.1.2.2.1 0 _ rfl) 1 _ rfl) 2 _ rfl) rfl) rfl ⟨rfl, ?_⟩
        exact ((HQ5.out.1.1.setCell (by show _ ≤ w.heap.size + 1; omega) _).setCell (by show _ ≤ w.heap.size + 1; omega) _).setCell (by show _ ≤ w.heap.size + 1; omega) _
    · have hf2 : (1000000000 : Int) - c < s.size := by omega
      have e : hashMore st r c s = (st, r, c) := by unfold hashMore; rw [if_neg (fun h => hfit h.2)]
      rw [e]
      clear e
      go_enter Tryd.func20, Tryd.ntmps20
      go_wp2_with (first | ((with_reducible refine gate_dst (N := 7) rfl ?_); refine ld27 (blk_alloc (blk_new _ _) _) (.tmp 2) rfl rfl rfl ?_) | (go_at_call 41; refine (impl_HasherOk.calls st r c _ _ HO.out).mono ?_; rintro e_ w1 ⟨rfl, hb1⟩; have HB1 := Aside0.mk hb1; clear hb1; have B0 := blk_below (blk_alloc (blk_new w (.cells #[.string st, .string r, .int .i64 c] 27)) _) HB1.out; have Z0 := Aside0.mk (blk_below (heap_alloc2_new w _ _) HB1.out); have c0 := blk_cell B0 0; have c1 := blk_cell B0 1; have c2 := blk_cell B0 2; simp only [List.getElem?_toArray, List.getElem?_cons_zero, List.getElem?_cons_succ] at c0 c1 c2; have A0 := Aside0.mk B0; clear B0) | ((with_reducible refine gate_store (t := 27) (p := 4) rfl ?_); refine st27 Z0.out (.tmp 4) (.tmp 18) rfl rfl rfl rfl (by simp [Value.oneCell']) ?_))
      (try simp only [Exit.inBlock, Exit.then])
      exact bodyPost_ret (ret27 (x := .string st) (y := .string r) (z := .int .i64 c) rfl _ _ (setRow_heap _ _ _ _ _ _ Z0.out) rfl) rfl ⟨rfl, setRow_below (((HB.out.alloc (Nat.le_refl _) (.cells #[.string st, .string r, .int .i64 c] 27)).alloc (by rw [sz_alloc]; omega) (.cells #[.string ⟨#[]⟩, .string ⟨#[]⟩, .int .i64 0] 27)).trans (HB1.out.mono (by rw [sz_alloc, sz_alloc]; omega))) (by omega) _⟩
  · have hof := ok_f st r c
    rw [Bool.not_eq_true] at hok
    rw [hok] at hof
    have HO := Aside0.mk hof
    have e : hashMore st r c s = (st, r, c) := by unfold hashMore; rw [if_neg (fun h => by rw [hok] at h; exact Bool.false_ne_true h.1)]
    rw [e]
    clear e hof hok
    go_enter Tryd.func20, Tryd.ntmps20
    go_wp2_with (first | ((with_reducible refine gate_dst (N := 7) rfl ?_); refine ld27 (blk_alloc (blk_new _ _) _) (.tmp 2) rfl rfl rfl ?_) | (go_at_call 41; refine (impl_HasherOk.calls st r c _ _ HO.out).mono ?_; rintro e_ w1 ⟨rfl, hb1⟩; have HB1 := Aside0.mk hb1; clear hb1; have B0 := blk_below (blk_alloc (blk_new w (.cells #[.string st, .string r, .int .i64 c] 27)) _) HB1.out; have Z0 := Aside0.mk (blk_below (heap_alloc2_new w _ _) HB1.out); have c0 := blk_cell B0 0; have c1 := blk_cell B0 1; have c2 := blk_cell B0 2; simp only [List.getElem?_toArray, List.getElem?_cons_zero, List.getElem?_cons_succ] at c0 c1 c2; have A0 := Aside0.mk B0; clear B0) | ((with_reducible refine gate_store (t := 27) (p := 4) rfl ?_); refine st27 Z0.out (.tmp 4) (.tmp 18) rfl rfl rfl rfl (by simp [Value.oneCell']) ?_))
    (try simp only [Exit.inBlock, Exit.then])
    exact bodyPost_ret (ret27 (x := .string st) (y := .string r) (z := .int .i64 c) rfl _ _ (setRow_heap _ _ _ _ _ _ Z0.out) rfl) rfl ⟨rfl, setRow_below (((HB.out.alloc (Nat.le_refl _) (.cells #[.string st, .string r, .int .i64 c] 27)).alloc (by rw [sz_alloc]; omega) (.cells #[.string ⟨#[]⟩, .string ⟨#[]⟩, .int .i64 0] 27)).trans (HB1.out.mono (by rw [sz_alloc, sz_alloc]; omega))) (by omega) _⟩
end Go.Proofs.YtlddohppkcndjaaDoor.Sha
namespace Go.Proofs.YtlddohppkcndjaaDoor.Sha
open Go.RowKit Go.Proofs.YtlddohppkcndjaaDoorW.PrintWords Go.Proofs.YtlddohppkcndjaaDoorW.PrintLast Go.Proofs.YtlddohppkcndjaaDoorW.PrintMore Go.Proofs.YtlddohppkcndjaaDoor.Pending Go.Proofs.YtlddohppkcndjaaDoor.Pright Go.Proofs.YtlddohppkcndjaaDoor.PHasherOk
set_option linter.unusedVariables false
set_option linter.unusedSimpArgs false

abbrev HeldE (w W : World) (st r : ByteArray) (c : Int) : Prop := Below w.heap.size w W ∧ W.heap[w.heap.size]? = some (.cells #[.string st, .string r, .int .i64 c] 27) ∧ Tab W
theorem heldE_below {w W W2 : World} {st r : ByteArray} {c : Int} (h : HeldE w W st r c) (hb : Below W.heap.size W W2) : HeldE w W2 st r c :=
  ⟨below_step h.1 hb, blk_below h.2.1 hb, tab_below h.2.2 hb⟩
theorem heldE_alloc {w W : World} {st r : ByteArray} {c : Int} (h : HeldE w W st r c) (o : Obj) : HeldE w (W.alloc o) st r c := heldE_below h ((Below.refl _ _).alloc (Nat.le_refl _) o)
theorem heldE_size {w W : World} {st r : ByteArray} {c : Int} (h : HeldE w W st r c) : w.heap.size + 1 ≤ W.heap.size := blk_lt h.2.1
theorem tab_set {W : World} (h : Tab W) {b : Nat} (hb : b ≠ 0) (i : Nat) (v : Value) : Tab (W.setCell ⟨b, i, none⟩ v) := by
  have h0 : (W.setCell ⟨b, i, none⟩ v).heap[0]? = W.heap[0]? := heap_setCell_other W ⟨b, i, none⟩ 0 v (fun e => hb e.symm)
  unfold Tab Lib.TabIs World.var? at *
  rw [gTab] at h ⊢
  simp only [Option.bind_some] at h ⊢
  rw [h0]
  exact h
theorem heldE_set {w W : World} {st r : ByteArray} {c : Int} (h : HeldE w W st r c) {b : Nat} (hb : w.heap.size + 1 ≤ b) (i : Nat) (v : Value) : HeldE w (W.setCell ⟨b, i, none⟩ v) st r c :=
  ⟨h.1.setCell (show w.heap.size ≤ b by omega) _, blk_far h.2.1 (show w.heap.size ≠ b by omega) _, tab_set h.2.2 (by omega) _ _⟩
theorem heldE8 {w W : World} {st r : ByteArray} {c : Int} (h : HeldE w W st r c) {b : Nat} (hb : w.heap.size + 1 ≤ b) (v0 v1 v2 v3 v4 v5 v6 v7 : Value) : HeldE w ((((((((W.setCell ⟨b, 0, none⟩ v0).setCell ⟨b, 1, none⟩ v1).setCell ⟨b, 2, none⟩ v2).setCell ⟨b, 3, none⟩ v3).setCell ⟨b, 4, none⟩ v4).setCell ⟨b, 5, none⟩ v5).setCell ⟨b, 6, none⟩ v6).setCell ⟨b, 7, none⟩ v7) st r c :=
  (heldE_set (heldE_set (heldE_set (heldE_set (heldE_set (heldE_set (heldE_set (heldE_set h hb 0 v0) hb 1 v1) hb 2 v2) hb 3 v3) hb 4 v4) hb 5 v5) hb 6 v6) hb 7 v7)
theorem heldE_cell {w W : World} {st r : ByteArray} {c : Int} (h : HeldE w W st r c) : W.cell? ⟨w.heap.size, 0, none⟩ = some (.string st) ∧ W.cell? ⟨w.heap.size, 1, none⟩ = some (.string r) ∧ W.cell? ⟨w.heap.size, 2, none⟩ = some (.int .i64 c) :=
  ⟨blk_cell h.2.1 0, blk_cell h.2.1 1, blk_cell h.2.1 2⟩
set_option maxHeartbeats 32000000 in
set_option maxRecDepth 100000 in
theorem hashEnd_calls (st r : ByteArray) (c : Int) (w : World) (htab : Tab w) : Calls Tryd.prog 23 #[.agg #[.string st, .string r, .int .i64 c]] w fun e_ w' => e_ = .returned (.string (hashEnd st r c)) ∧ Below w.heap.size w w' := by
  have HB := Aside0.mk (Below.refl w.heap.size w)
  have HT := Aside0.mk htab
  clear htab
  by_cases hok : hOk st r c = true
  · have hok' := hok
    unfold hOk at hok'
    simp only [decide_eq_true_eq] at hok'
    obtain ⟨h32, h0, h9, h64⟩ := hok'
    obtain ⟨n, rfl⟩ : ∃ n : Nat, c = n := ⟨c.toNat, by omega⟩
    have e : hashEnd st r (n : Int) = stText (blks (txState st) (r ++ en n)).1 := by unfold hashEnd; rw [if_pos hok, Int.toNat_natCast]
    rw [e]
    have hof := ok_f st r n
    rw [hok] at hof
    have HO := Aside0.mk hof
    clear hof hok e
    have hes := en_size n
    have hroom : (9223372036854775807 < r.size + (en n).size) = False := eq_false (by omega)
    have hr2 : (r ++ en n).size ≤ 9223372036854775807 := by rw [ByteArray.size_append]; omega
    have hef := en_f n (by omega)
    generalize en n = en_ at *
    have htl := txState_len st
    obtain ⟨⟨bl, br⟩, hbl⟩ : ∃ q, blks (txState st) (r ++ en_) = q := ⟨_, rfl⟩
    have hbll := blks_len (txState st) (r ++ en_) htl
    rw [hbl] at hbll ⊢
    obtain ⟨b1, b2, b3, b4, b5, b6, b7, b8, rfl⟩ := arr8 bl hbll
    have HX := Aside0.mk (And.intro hef (And.intro htl (And.intro hbl (And.intro hr2 (show 32 ≤ st.size by omega)))))
    clear htl hbl hbll hr2 h64 h32 hef hes
    go_enter Tryd.func23, Tryd.ntmps23
    go_wp2_with (first | ((with_reducible refine gate_dst (N := 5) rfl ?_); refine ld27 (blk_new _ _) (.tmp 1) rfl rfl rfl ?_) | (go_at_call 41; refine (impl_HasherOk.calls st r (n : Int) _ _ HO.out).mono ?_; rintro e_ w1 ⟨rfl, hb1⟩; have HB1 := Aside0.mk hb1; clear hb1; have A0 := Aside0.mk (blk_below (blk_new w (.cells #[.string st, .string r, .int .i64 n] 27)) HB1.out)))
    have kW : Below w.heap.size w w1 := (HB.out.alloc (Nat.le_refl _) (.cells #[.string st, .string r, .int .i64 (n : Int)] 27)).trans (HB1.out.mono (by rw [sz_alloc]; omega))
    have HQ : Aside0 (HeldE w w1.drew st r (n : Int)) := ⟨below_drew kW, A0.out, tab_below (tab_below HT.out kW) (below_drew (Below.refl _ _))⟩
    have c0 := (heldE_cell HQ.out).1
    have c1 := (heldE_cell HQ.out).2.1
    have c2 := (heldE_cell HQ.out).2.2
    replace c0 : w1.cell? ⟨w.heap.size, 0, none⟩ = some (.string st) := c0
    replace c1 : w1.cell? ⟨w.heap.size, 1, none⟩ = some (.string r) := c1
    replace c2 : w1.cell? ⟨w.heap.size, 2, none⟩ = some (.int .i64 (n : Int)) := c2
    clear kW HB1 A0
    have HP := HQ
    go_region_held3 (fun w' => w'.cell? ⟨w.heap.size, 0, none⟩ = some (.string st) ∧ w'.cell? ⟨w.heap.size, 1, none⟩ = some (.string r) ∧ w'.cell? ⟨w.heap.size, 2, none⟩ = some (.int .i64 (n : Int))) (first | (simp [*, World.cell?_alloc_some, World.cell?_setCell_far]; done) | exact heldE_cell (heldE8 HQ.out BZ.out.2 (.int .u32 b1) (.int .u32 b2) (.int .u32 b3) (.int .u32 b4) (.int .u32 b5) (.int .u32 b6) (.int .u32 b7) (.int .u32 b8)))
      (first
        | (go_at_call 60; refine (textState_calls st HX.out.2.2.2.2 _).mono ?_; rintro e_ w60 ⟨rfl, hb60⟩; have HQ_ := Aside0.mk (heldE_below (by first | exact HQ.out | exact heldE_alloc HQ.out _) hb60); clear HQ; have HQ := HQ_; clear HQ_; (first | (have BZ_ : Aside0 (Blk w60 _ 67 [0, 0, 0, 0, 0, 0, 0, 0] ∧ w.heap.size + 1 ≤ _) := ⟨blk_below BZ.out.1 hb60, BZ.out.2⟩; clear BZ; have BZ := BZ_; clear BZ_) | (have BZ : Aside0 (Blk w60 _ 67 [0, 0, 0, 0, 0, 0, 0, 0] ∧ w.heap.size + 1 ≤ _) := ⟨blk_below (blk_new _ _) hb60, heldE_size HP.out⟩) | (have BZ : Aside0 (Blk w60 _ 67 [0, 0, 0, 0, 0, 0, 0, 0] ∧ w.heap.size + 1 ≤ _) := ⟨blk_below (blk_drew (blk_new _ _)) hb60, heldE_size HP.out⟩) | skip); clear hb60; have HP_ := HQ; clear HP; have HP := HP_; clear HP_; have k60a := (heldE_cell HQ.out).1; have k60b := (heldE_cell HQ.out).2.1; have k60c := (heldE_cell HQ.out).2.2)
        | (go_at_call 54; refine (impl_ending.calls _ _ _ HX.out.1).mono ?_; rintro e_ w54 ⟨rfl, hb54⟩; have HQ_ := Aside0.mk (heldE_below (by first | exact HQ.out | exact heldE_alloc HQ.out _) hb54); clear HQ; have HQ := HQ_; clear HQ_; (first | (have BZ_ : Aside0 (Blk w54 _ 67 [0, 0, 0, 0, 0, 0, 0, 0] ∧ w.heap.size + 1 ≤ _) := ⟨blk_below BZ.out.1 hb54, BZ.out.2⟩; clear BZ; have BZ := BZ_; clear BZ_) | (have BZ : Aside0 (Blk w54 _ 67 [0, 0, 0, 0, 0, 0, 0, 0] ∧ w.heap.size + 1 ≤ _) := ⟨blk_below (blk_new _ _) hb54, heldE_size HP.out⟩) | (have BZ : Aside0 (Blk w54 _ 67 [0, 0, 0, 0, 0, 0, 0, 0] ∧ w.heap.size + 1 ≤ _) := ⟨blk_below (blk_drew (blk_new _ _)) hb54, heldE_size HP.out⟩) | skip); clear hb54; have HP_ := HQ; clear HP; have HP := HP_; clear HP_; have k54a := (heldE_cell HQ.out).1; have k54b := (heldE_cell HQ.out).2.1; have k54c := (heldE_cell HQ.out).2.2)
        | (go_at_call 52; refine (blocks_calls' (txState st) HX.out.2.1 (r ++ en_) HX.out.2.2.2.1 _ ((by first | exact HQ.out | exact heldE_alloc HQ.out _ : HeldE w _ st r (n : Int))).2.2 b1 b2 b3 b4 b5 b6 b7 b8 br HX.out.2.2.1).mono ?_; rintro e_ w3 ⟨rfl, hb3⟩; have HQ_ := Aside0.mk (heldE_below (by first | exact HQ.out | exact heldE_alloc HQ.out _) hb3); clear HQ; have HQ := HQ_; clear HQ_; (first | (have BZ_ : Aside0 (Blk w3 _ 67 [0, 0, 0, 0, 0, 0, 0, 0] ∧ w.heap.size + 1 ≤ _) := ⟨blk_below BZ.out.1 hb3, BZ.out.2⟩; clear BZ; have BZ := BZ_; clear BZ_) | (have BZ : Aside0 (Blk w3 _ 67 [0, 0, 0, 0, 0, 0, 0, 0] ∧ w.heap.size + 1 ≤ _) := ⟨blk_below (blk_new _ _) hb3, heldE_size HP.out⟩) | (have BZ : Aside0 (Blk w3 _ 67 [0, 0, 0, 0, 0, 0, 0, 0] ∧ w.heap.size + 1 ≤ _) := ⟨blk_below (blk_drew (blk_new _ _)) hb3, heldE_size HP.out⟩) | skip); clear hb3; have HP_ := HQ; clear HP; have HP := HP_; clear HP_; have k3a := (heldE_cell HQ.out).1; have k3b := (heldE_cell HQ.out).2.1; have k3c := (heldE_cell HQ.out).2.2; (try (have zc := (blk_zero BZ.out.1).1; have zf := (blk_zero BZ.out.1).2; (try simp only [heap_drew] at zc zf)))))
    all_goals
      go_step
      go_step
      refine wp_world (fun V hV => ?_)
    all_goals
      first
        | (obtain ⟨bb, hbb⟩ : ∃ q, w3.heap.size = q := ⟨_, rfl⟩; rw [hbb]; have hH : HeldE w V st r (n : Int) ∧ Blk V bb 67 [b1, b2, b3, b4, b5, b6, b7, b8] := by rw [hV, ← hbb]; exact ⟨heldE_alloc HQ.out _, blk_new _ _⟩)
        | (obtain ⟨bb, hbb⟩ : ∃ q, w54.heap.size = q := ⟨_, rfl⟩; rw [hbb]; have hH : HeldE w V st r (n : Int) ∧ Blk V bb 67 [b1, b2, b3, b4, b5, b6, b7, b8] := by rw [hV, ← hbb]; exact ⟨heldE8 HQ.out BZ.out.2 (.int .u32 b1) (.int .u32 b2) (.int .u32 b3) (.int .u32 b4) (.int .u32 b5) (.int .u32 b6) (.int .u32 b7) (.int .u32 b8), blk8 BZ.out.1 b1 b2 b3 b4 b5 b6 b7 b8⟩)
        | (obtain ⟨bb, hbb⟩ : ∃ q, w60.heap.size = q := ⟨_, rfl⟩; rw [hbb]; have hH : HeldE w V st r (n : Int) ∧ Blk V bb 67 [b1, b2, b3, b4, b5, b6, b7, b8] := by rw [hV, ← hbb]; exact ⟨heldE8 HQ.out BZ.out.2 (.int .u32 b1) (.int .u32 b2) (.int .u32 b3) (.int .u32 b4) (.int .u32 b5) (.int .u32 b6) (.int .u32 b7) (.int .u32 b8), blk8 BZ.out.1 b1 b2 b3 b4 b5 b6 b7 b8⟩)
        | (obtain ⟨bb, hbb⟩ : ∃ q, w1.heap.size = q := ⟨_, rfl⟩; rw [hbb]; have hH : HeldE w V st r (n : Int) ∧ Blk V bb 67 [b1, b2, b3, b4, b5, b6, b7, b8] := by rw [hV, ← hbb]; exact ⟨heldE8 HQ.out BZ.out.2 (.int .u32 b1) (.int .u32 b2) (.int .u32 b3) (.int .u32 b4) (.int .u32 b5) (.int .u32 b6) (.int .u32 b7) (.int .u32 b8), blk8 BZ.out.1 b1 b2 b3 b4 b5 b6 b7 b8⟩)
      clear hV hbb HQ HP
      go_wp2_with (first | ((with_reducible refine gate_dst (N := 21) rfl ?_); refine ld67 hH.2 rfl (.tmp 3) rfl rfl rfl ?_) | (go_at_call 55; refine (stateText_calls b1 b2 b3 b4 b5 b6 b7 b8 _).mono ?_; rintro e_ w5 ⟨rfl, hb5⟩; have HB5 := Aside0.mk hb5; clear hb5))
      go_ret
      exact ⟨rfl, below_step hH.1.1 HB5.out⟩
  · have hof := ok_f st r c
    rw [Bool.not_eq_true] at hok
    rw [hok] at hof
    have HO := Aside0.mk hof
    have e : hashEnd st r c = ⟨#[]⟩ := by unfold hashEnd; rw [if_neg (fun h => by rw [hok] at h; exact Bool.false_ne_true h)]
    rw [e]
    clear e hof hok
    go_enter Tryd.func23, Tryd.ntmps23
    go_wp2_with (first | ((with_reducible refine gate_dst (N := 5) rfl ?_); refine ld27 (blk_new _ _) (.tmp 1) rfl rfl rfl ?_) | (go_at_call 41; refine (impl_HasherOk.calls st r c _ _ HO.out).mono ?_; rintro e_ w1 ⟨rfl, hb1⟩; have HB1 := Aside0.mk hb1; clear hb1))
    go_ret
    exact ⟨rfl, (HB.out.alloc (Nat.le_refl _) (.cells #[.string st, .string r, .int .i64 c] 27)).trans (HB1.out.mono (by rw [sz_alloc]; omega))⟩
end Go.Proofs.YtlddohppkcndjaaDoor.Sha
