/- A new pool; a pool that is fed. -/
import Derived.Test.YtlddohppkcndjaaDoorShaO
import Derived.Test.YtlddohppkcndjaaDoorPPoolOkx1
namespace Go.Proofs.YtlddohppkcndjaaDoor.Sha
open Go.RowKit Go.Proofs.YtlddohppkcndjaaDoorW.PrintWords Go.Proofs.YtlddohppkcndjaaDoorW.PrintLast Go.Proofs.YtlddohppkcndjaaDoorW.PrintMore
set_option linter.unusedVariables false
set_option linter.unusedSimpArgs false
theorem mix_calls (b : Nat) (k v s : ByteArray) (t : Int) (hk : k.size ≤ 100000000) (hv : v.size ≤ 100000000) (hs : s.size ≤ 100000000) (w : World) (hp : PoolAt w b k v t) (hb0 : b ≠ 0) (htab : Tab w) :
    Calls Tryd.prog 70 #[.pointer (some ⟨b, 0, none⟩), .string s] w fun e_ w' => e_ = .returned (.tuple #[]) ∧ PoolAt w' b (mixP k v s).1 (mixP k v s).2 t ∧ Kb b w w' := by
  by_cases h : s = ⟨#[]⟩
  · exact mix_calls0 b k v s t hk hv hs h w hp hb0 htab
  · exact mix_calls1 b k v s t hk hv hs h w hp hb0 htab
theorem size40 : (Tryd.prog.info? 40).map (·.size) = some 3 := by kernel_rfl
section
variable {ops : Array Oper} {rest : List Oper} {o : Oper} {a : Act} {w : World} {Q : Exit → Act → World → Prop} {x y z x' y' z' : Value} {b : Nat} {t : TypeId}
theorem ld40 (hb : w.heap[b]? = some (.cells #[x, y, z] t (0, 0))) (u : Operand) (hgd : o.guard = none) (ho : o.op = .load 40 u) (hx : a.eval u = .pointer (some ⟨b, 0, none⟩)) (h : wpList Tryd.prog ops Q rest (a.put o.dst (.agg #[x, y, z])) w) : wpList Tryd.prog ops Q (o :: rest) a w :=
  wpList_load_row hgd 40 u ho b hx t _ _ _ hb Tryd.underlying40 rfl (by rw [size40]; rfl) h
theorem st40 (hb : w.heap[b]? = some (.cells #[x, y, z] t (0, 0))) (u v : Operand) (hgd : o.guard = none) (ho : o.op = .store 40 u v) (hx : a.eval u = .pointer (some ⟨b, 0, none⟩)) (hy : a.eval v = .agg #[x', y', z']) (h1 : (#[x', y', z'] : Array Value).all (·.oneCell') = true) (h : wpList Tryd.prog ops Q rest (a.put o.dst undef) (w.setRow b #[x', y', z'])) : wpList Tryd.prog ops Q (o :: rest) a w :=
  wpList_store_row hgd 40 u v ho b _ hx hy t _ hb (by rw [size40]; rfl) rfl h1 h
end
theorem ret40 {fn : Func} {p : Tmp} {x y z : Value} (h : fn.results = #[.cell p 40]) (tmps : Array Value) (w : World) {b : Nat} {t : TypeId} (hb : w.heap[b]? = some (.cells #[x, y, z] t (0, 0))) (hp : tmps.getD p undef = .pointer (some ⟨b, 0, none⟩)) : (results fn tmps).run Tryd.prog w = .ok (.agg #[x, y, z]) w :=
  results_cell_row h tmps w b t _ _ _ hp hb Tryd.underlying40 rfl (by rw [size40]; rfl)
theorem setRow_far {w : World} {b i : Nat} {cs : Array Value} (hne : i ≠ b) : (w.setRow b cs).heap[i]? = w.heap[i]? := by
  show (w.heap.modify b _)[i]? = _
  rw [Array.getElem?_modify, if_neg (fun h => hne h.symm)]
theorem kb_below {b : Nat} {w W W2 : World} (h : Below w.heap.size w W) (k : Kb b W W2) (hw : w.heap.size ≤ b) : Below w.heap.size w W2 :=
  ⟨k.os.trans h.os, k.tape.trans h.tape, k.output.trans h.output, Nat.le_trans h.size k.size, fun i hi => (k.block i (Nat.lt_of_lt_of_le hi h.size) (by omega)).trans (h.block i hi)⟩
def z32 : ByteArray := strOfNums (List.replicate 32 0)
def o32 : ByteArray := xorText z32 1
theorem z32_size : z32.size = 32 := by unfold z32; rw [strOfNums_size, List.length_replicate]
theorem o32_size : o32.size = 32 := by unfold o32; rw [xorText_size, z32_size]
theorem zeros32 : Pending.impl_zeros.f 32 = some z32 := by
  unfold Pending.impl_zeros.f
  rw [if_pos (by decide), if_pos (by decide)]
  rfl
set_option maxHeartbeats 4000000 in
set_option maxRecDepth 100000 in
theorem poolNew_calls (s : ByteArray) (hs : s.size ≤ 100000000) (w : World) (htab : Tab w) : Calls Tryd.prog 29 #[.string s] w fun e_ w' => e_ = .returned (.agg #[.string (mixP z32 o32 s).1, .string (mixP z32 o32 s).2, .int .i64 0]) ∧ Below w.heap.size w w' := by
  have HB := Aside0.mk (Below.refl w.heap.size w)
  have HT := Aside0.mk htab
  have HX := Aside0.mk (show xorText z32 1 = o32 from rfl)
  have HO := Aside0.mk o32_size
  have HZ := Aside0.mk z32_size
  have HZ3 := Aside0.mk zeros32
  generalize z32 = Z at *
  generalize o32 = O at *
  obtain ⟨⟨K', V'⟩, hm⟩ : ∃ q, mixP Z O s = q := ⟨_, rfl⟩
  have HM := Aside0.mk hm
  rw [hm]
  clear htab hm
  go_enter Tryd.func29, Tryd.ntmps29
  go_wp2_with (first | (go_at_call 62; refine (Pending.impl_zeros.calls 32 Z _ HZ3.out).mono ?_; rintro e_ w1 ⟨rfl, hb1⟩; have HQ_ : Aside0 (Below (w.heap.size + 1) (w.alloc (.cells #[.string ⟨#[]⟩, .string ⟨#[]⟩, .int .i64 0] 40)) w1) := (by first | exact ⟨(by rw [← sz_alloc w (.cells #[.string ⟨#[]⟩, .string ⟨#[]⟩, .int .i64 0] 40)]; exact hb1)⟩ | exact ⟨HQ.out.trans (hb1.mono (by have := HQ.out.size; rw [sz_alloc] at this; exact this))⟩); (try clear HQ); have HQ := HQ_; clear HQ_ hb1) | (go_at_call 63; refine (xored_calls Z 1 (by have := HZ.out; omega) _).mono ?_; rw [HX.out]; rintro e_ w2 ⟨rfl, hb2⟩; have HQ_ : Aside0 (Below (w.heap.size + 1) (w.alloc (.cells #[.string ⟨#[]⟩, .string ⟨#[]⟩, .int .i64 0] 40)) w2) := ⟨HQ.out.trans (hb2.mono (by have := HQ.out.size; rw [sz_alloc] at this; exact this))⟩; clear HQ; have HQ := HQ_; clear HQ_ hb2) | ((with_reducible refine gate_store (t := 40) (p := 3) rfl ?_); refine st40 (heap_alloc_last _ _) (.tmp 3) (.tmp 7) rfl rfl rfl rfl (by simp [Value.oneCell']) ?_) | (go_at_call 70; have hq2 := HQ.out.size; rw [sz_alloc] at hq2; have hb1 : Below w.heap.size w w2 := (HB.out.alloc (Nat.le_refl _) (.cells #[.string ⟨#[]⟩, .string ⟨#[]⟩, .int .i64 0] 40)).trans (HQ.out.mono (by omega)); have hbW := setRow_below (below_alloc hb1 (.cells #[.string ⟨#[]⟩, .string ⟨#[]⟩, .int .i64 0] 40)) (show w.heap.size ≤ w2.heap.size by omega) (#[.string Z, .string O, .int .i64 0] : Array Value); have hr0 : ((w2.alloc (.cells #[.string ⟨#[]⟩, .string ⟨#[]⟩, .int .i64 0] 40)).setRow w2.heap.size #[.string Z, .string O, .int .i64 0]).heap[w.heap.size]? = some (.cells #[.string ⟨#[]⟩, .string ⟨#[]⟩, .int .i64 0] 40) := (setRow_far (by omega)).trans (blk_alloc ((HQ.out.block _ (by omega)).trans (heap_alloc_last w (.cells #[.string ⟨#[]⟩, .string ⟨#[]⟩, .int .i64 0] 40))) _); refine (mix_calls w2.heap.size Z O s 0 (by have := HZ.out; omega) (by have := HO.out; omega) hs _ (setRow_heap _ _ _ _ _ _ (heap_alloc_last _ _)) (by omega) (tab_below HT.out hbW)).mono ?_; rw [HM.out]; rintro e_ w3 ⟨rfl, hp3, hk3⟩; have HF := Aside0.mk (And.intro hp3 (And.intro (kb_below hbW hk3 (by omega)) ((hk3.block _ (by rw [size_setRow, sz_alloc]; omega) (by omega)).trans hr0))); clear hp3 hk3 hr0 hbW hb1 hq2) | ((with_reducible refine gate_dst (N := 10) rfl ?_); refine ld40 HF.out.1 (.tmp 3) rfl rfl rfl ?_) | ((with_reducible refine gate_store (t := 40) (p := 2) rfl ?_); refine st40 HF.out.2.2 (.tmp 2) (.tmp 10) rfl rfl rfl rfl (by simp [Value.oneCell']) ?_))
  (try simp only [Exit.inBlock, Exit.then])
  exact bodyPost_ret (ret40 (x := .string K') (y := .string V') (z := .int .i64 0) rfl _ _ (setRow_heap _ _ _ _ _ _ HF.out.2.2) rfl) rfl ⟨rfl, setRow_below HF.out.2.1 (Nat.le_refl _) _⟩
/-- Is a pool right? -/
def pOk (k v : ByteArray) (t : Int) : Bool := decide (k.size = 32 ∧ v.size = 32 ∧ 0 ≤ t ∧ t ≤ 20)
theorem poolOk_f (k v : ByteArray) (t : Int) : PPoolOk.impl_PoolOk.f k v t = some (pOk k v t) := by
  unfold PPoolOk.impl_PoolOk.f PPoolOk.impl_in.f pOk
  by_cases h1 : k.size = 32
  · rw [if_pos (by omega)]
    by_cases h2 : v.size = 32
    · rw [if_pos (by omega)]
      by_cases h3 : 0 ≤ t <;> simp [h1, h2, h3]
    · rw [if_neg (by omega)]; simp [h2]
  · rw [if_neg (by omega)]; simp [h1]
def feedP (k v : ByteArray) (t : Int) (s : ByteArray) : ByteArray × ByteArray × Int := if pOk k v t = true then ((mixP k v s).1, (mixP k v s).2, 0) else (k, v, t)
set_option maxHeartbeats 4000000 in
set_option maxRecDepth 100000 in
theorem poolFeed_calls (k v : ByteArray) (t : Int) (s : ByteArray) (hs : s.size ≤ 100000000) (w : World) (htab : Tab w) : Calls Tryd.prog 36 #[.agg #[.string k, .string v, .int .i64 t], .string s] w fun e_ w' => e_ = .returned (.agg #[.string (feedP k v t s).1, .string (feedP k v t s).2.1, .int .i64 (feedP k v t s).2.2]) ∧ Below w.heap.size w w' := by
  have HB := Aside0.mk (Below.refl w.heap.size w)
  have HT := Aside0.mk htab
  clear htab
  have hof := poolOk_f k v t
  obtain ⟨B, hB⟩ : ∃ B, pOk k v t = B := ⟨_, rfl⟩
  rw [hB] at hof
  have HO := Aside0.mk hof
  clear hof
  have b0 : ∀ W, Below (w.heap.size + 2) ((w.alloc (.cells #[.string k, .string v, .int .i64 t] 40)).alloc (.cells #[.string ⟨#[]⟩, .string ⟨#[]⟩, .int .i64 0] 40)) W → Below w.heap.size w W ∧ PoolAt W w.heap.size k v t ∧ W.heap[w.heap.size + 1]? = some (.cells #[.string ⟨#[]⟩, .string ⟨#[]⟩, .int .i64 0] 40) ∧ w.heap.size + 2 ≤ W.heap.size := fun W h =>
    ⟨((HB.out.alloc (Nat.le_refl _) _).alloc (by rw [sz_alloc]; omega) _).trans (h.mono (by omega)), (h.block _ (by omega)).trans (blk_alloc (blk_new _ _) _), (h.block _ (by omega)).trans (heap_alloc2_new w _ _), by have := h.size; rw [sz_alloc, sz_alloc] at this; exact this⟩
  have HB0 := Aside0.mk b0
  clear b0
  cases B with
  | false =>
    have e : feedP k v t s = (k, v, t) := by unfold feedP; rw [hB]; rfl
    rw [e]
    clear e hB
    go_enter Tryd.func36, Tryd.ntmps36
    go_wp2_with (first | ((with_reducible refine gate_dst (N := 5) rfl ?_); refine ld40 (blk_alloc (blk_new _ _) _) (.tmp 2) rfl rfl rfl ?_) | (go_at_call 49; refine (PPoolOk.impl_PoolOk.calls k v t _ _ HO.out).mono ?_; rintro e_ w1 ⟨rfl, hb1⟩; have HQ := Aside0.mk (HB0.out w1 (by rw [sz_alloc, sz_alloc] at hb1; exact hb1)); clear hb1) | ((with_reducible refine gate_dst (N := 10) rfl ?_); refine ld40 HQ.out.2.1 (.tmp 2) rfl rfl rfl ?_) | ((with_reducible refine gate_store (t := 40) (p := 4) rfl ?_); refine st40 HQ.out.2.2.1 (.tmp 4) (.tmp 10) rfl rfl rfl rfl (by simp [Value.oneCell']) ?_))
    (try simp only [Exit.inBlock, Exit.then])
    exact bodyPost_ret (ret40 (x := .string k) (y := .string v) (z := .int .i64 t) rfl _ _ (setRow_heap _ _ _ _ _ _ HQ.out.2.2.1) rfl) rfl ⟨rfl, setRow_below HQ.out.1 (by omega) _⟩
  | true =>
    have hok := hB
    unfold pOk at hok
    simp only [decide_eq_true_eq] at hok
    obtain ⟨hk32, hv32, _, _⟩ := hok
    obtain ⟨⟨K', V'⟩, hm⟩ : ∃ q, mixP k v s = q := ⟨_, rfl⟩
    have e : feedP k v t s = (K', V', 0) := by unfold feedP; rw [hB, hm]; rfl
    rw [e]
    have HM := Aside0.mk (And.intro hm (And.intro hk32 hv32))
    clear e hB hm hk32 hv32
    go_enter Tryd.func36, Tryd.ntmps36
    go_wp2_with (first | ((with_reducible refine gate_dst (N := 5) rfl ?_); refine ld40 (blk_alloc (blk_new _ _) _) (.tmp 2) rfl rfl rfl ?_) | (go_at_call 49; refine (PPoolOk.impl_PoolOk.calls k v t _ _ HO.out).mono ?_; rintro e_ w1 ⟨rfl, hb1⟩; have HQ := Aside0.mk (HB0.out w1 (by rw [sz_alloc, sz_alloc] at hb1; exact hb1)); clear hb1) | (go_at_call 70; have h0 := tab_lt HT.out; refine (mix_calls w.heap.size k v s t (by have := HM.out.2.1; omega) (by have := HM.out.2.2; omega) hs _ HQ.out.2.1 (by omega) (tab_below HT.out HQ.out.1)).mono ?_; clear h0; rw [HM.out.1]; rintro e_ w3 ⟨rfl, hp3, hk3⟩; have HF := Aside0.mk (And.intro hp3 (And.intro (kb_below HQ.out.1 hk3 (Nat.le_refl _)) ((hk3.block _ (by have := HQ.out.2.2.2; omega) (by omega)).trans HQ.out.2.2.1))); have c2 := (pool_cells hp3).2.2.1; have f2 := (pool_cells hp3).2.2.2.2.2; clear hp3 hk3) | ((with_reducible refine gate_dst (N := 10) rfl ?_); refine ld40 (pool_takes HF.out.1 0) (.tmp 2) rfl rfl rfl ?_) | ((with_reducible refine gate_store (t := 40) (p := 4) rfl ?_); refine st40 (blk_far HF.out.2.2 (by show w.heap.size + 1 ≠ w.heap.size; omega) _) (.tmp 4) (.tmp 10) rfl rfl rfl rfl (by simp [Value.oneCell']) ?_))
    (try simp only [Exit.inBlock, Exit.then])
    exact bodyPost_ret (ret40 (x := .string K') (y := .string V') (z := .int .i64 0) rfl _ _ (setRow_heap _ _ _ _ _ _ (blk_far HF.out.2.2 (by show w.heap.size + 1 ≠ w.heap.size; omega) _)) rfl) rfl ⟨rfl, setRow_below (HF.out.2.1.setCell (Nat.le_refl _) _) (by omega) _⟩
end Go.Proofs.YtlddohppkcndjaaDoor.Sha
