/- A text absorbed: the program's way and the document's; streams. No condition. -/
import Derived.Test.YtmocccmffmacdaaKecQ
import Derived.Deep.AppendSrc
import Derived.Laws.IdiomStrings
import Derived.Deep.WholeRow
import Derived.Deep.RegionLaw
namespace Go.Proofs.Ytmocccmffmacdaa.Sha
open Go.RowKit Go.Proofs.YtmocccmffmacdaaW.PrintWords Go.Proofs.YtmocccmffmacdaaW.PrintLast Go.Proofs.YtmocccmffmacdaaW.PrintMore
set_option linter.unusedVariables false
set_option linter.unusedSimpArgs false
set_option maxRecDepth 100000

theorem heap_set {w : World} {b i : Nat} {cs : Array Value} {T : TypeId} {fr : Nat × Nat} (hb : w.heap[b]? = some (.cells cs T fr)) (v : Value) : (w.setCell ⟨b, i, none⟩ v).heap[b]? = some (.cells (cs.setIfInBounds i v) T fr) := by
  simp [World.setCell, Array.getElem?_modify, hb]
def u8s (xs : List Int) : List Value := xs.map fun z => Value.int .u8 z
/-- v is a slice of the bytes xs, in a block of its own from 'base' on; what lies before its capacity may be written. -/
def BRow (base : Nat) (w : World) (v : Value) (xs : List Int) : Prop :=
  ∃ g cap cur fr, v = .slice (some ⟨g, 0, none⟩) xs.length cap ∧ base ≤ g ∧ w.heap[g]? = some (.cells cur 5 fr) ∧ xs.length ≤ cap ∧ cap ≤ cur.size ∧ (∀ j, j < cap → w.frozen? ⟨g, j, none⟩ = false) ∧ cur.toList.take xs.length = u8s xs
theorem brow_cell {base : Nat} {w : World} {g : Nat} {cap n : Nat} {xs : List Int} (h : BRow base w (.slice (some ⟨g, 0, none⟩) n cap) xs) : n = xs.length ∧ ∀ j u, (u8s xs)[j]? = some u → w.cell? ⟨g, j, none⟩ = some u := by
  obtain ⟨g', cap', cur, fr, hv, hb, hg, h1, h2, hf, ht⟩ := h
  injection hv with ha hn hc
  injection ha with ha
  injection ha with hgg
  subst hgg
  refine ⟨hn, fun j u hu => ?_⟩
  rw [cell_of_row w g j cur 5 fr hg, ← Array.getElem?_toList]
  rw [← ht, List.getElem?_take] at hu
  split at hu
  · exact hu
  · cases hu
theorem brow_below {base : Nat} {w w' : World} {v : Value} {xs : List Int} (h : BRow base w v xs) (hb : Below w.heap.size w w') : BRow base w' v xs := by
  obtain ⟨g, cap, cur, fr, hv, hb0, hg, h1, h2, hf, ht⟩ := h
  have hlt : g < w.heap.size := (Array.getElem?_eq_some_iff.1 hg).1
  exact ⟨g, cap, cur, fr, hv, hb0, (hb.block g hlt).trans hg, h1, h2, fun j hj => (hb.frozen (p := ⟨g, j, none⟩) hlt).trans (hf j hj), ht⟩
theorem u8s_length (xs : List Int) : (u8s xs).length = xs.length := by simp [u8s]
theorem frozen_setCell {w : World} {g : Nat} {cur : Array Value} {e : TypeId} {fr : Nat × Nat} (hg : w.heap[g]? = some (.cells cur e fr)) (i j : Nat) (v : Value) : (w.setCell ⟨g, i, none⟩ v).frozen? ⟨g, j, none⟩ = w.frozen? ⟨g, j, none⟩ := by
  simp only [World.frozen?, heap_set hg, hg]
/-- A text's bytes, as a slice. -/
theorem brow_of_string {base : Nat} (w : World) (s : ByteArray) (hb : base ≤ w.heap.size) (v : Value) (w' : World) (h : (convert 9 37 (.string s)).run Try.prog w = .ok v w') : BRow base w' v (s.data.toList.map fun b => (b.toNat : Int)) ∧ Below w.heap.size w w' := by
  rw [run_bytes_of_string (P := Try.prog) w 9 37 5 s Try.underlying9 Try.underlying37 Try.underlying5] at h
  injection h with hv hw
  subst hv
  subst hw
  have hge : s.size ≤ grownCap w s.size 0 5 := grownCap_ge w s.size 0 5
  have hsz : (bytesRow s (grownCap w s.size 0 5)).size = grownCap w s.size 0 5 := by
    unfold bytesRow
    rw [Array.size_append, Array.size_map, Array.size_replicate]
    show s.size + _ = _
    omega
  refine ⟨⟨w.heap.size, grownCap w s.size 0 5, _, _, ?_, hb, heap_alloc_last w.drew _, ?_, ?_, ?_, ?_⟩, ⟨rfl, rfl, rfl, ?_, fun i hi => ?_⟩⟩
  · rw [List.length_map, Array.length_toList]; rfl
  · rw [List.length_map, Array.length_toList]; exact hge
  · rw [hsz]; exact Nat.le_refl _
  · intro j hj
    have hh := heap_alloc_last w.drew (.cells (bytesRow s (grownCap w s.size 0 5)) 5 ((bytesRow s (grownCap w s.size 0 5)).size, (bytesRow s (grownCap w s.size 0 5)).size + 1))
    simp only [World.frozen?]
    rw [show (w.drew.alloc _).heap[w.heap.size]? = _ from hh]
    simp only [hsz]
    simp only [Bool.and_eq_false_iff, decide_eq_false_iff_not]
    exact .inl (by omega)
  · rw [List.length_map, Array.length_toList]
    unfold bytesRow u8s
    rw [Array.toList_append, List.take_left' (by rw [Array.length_toList, Array.size_map]), Array.toList_map, List.map_map]
    rfl
  · show w.heap.size ≤ (w.heap.push _).size
    simp
  · exact (Below.heap_alloc w.drew _ i hi)
theorem info5 : (Try.prog.info? 5).map (fun i => (i.zero, i.size, i.bytes)) = some (some (.int .u8 0), 1, 1) := by kernel_rfl
/-- One byte more. -/
theorem run_append_byte {base : Nat} {w : World} {v : Value} {xs : List Int} {b : Nat} {z : Int} (h : BRow base w v xs) (hbase : base ≤ w.heap.size) (hc : w.cell? ⟨b, 0, none⟩ = some (.int .u8 z)) (hl : xs.length ≤ 1000000000000) (ty : TypeId) :
    ∃ v' w', (Builtin.append_ #[37, 37] ty #[v, .slice (some ⟨b, 0, none⟩) 1 1]).run Try.prog w = .ok v' w' ∧ BRow base w' v' (xs ++ [z]) ∧ Below base w w' := by
  obtain ⟨i5, hi5, hz5, hs5, hb5⟩ : ∃ i, Try.prog.info? 5 = some i ∧ i.zero = some (.int .u8 0) ∧ i.size = 1 ∧ i.bytes = 1 := by
    have := info5
    cases hq : Try.prog.info? 5 with
    | none => rw [hq] at this; cases this
    | some i =>
      rw [hq] at this
      simp only [Option.map_some, Option.some.injEq, Prod.mk.injEq] at this
      exact ⟨i, rfl, this.1, this.2.1, this.2.2⟩
  obtain ⟨g, cap, cur, fr, hv, hb0, hg, h1, h2, hf, ht⟩ := h
  have hlt : g < w.heap.size := (Array.getElem?_eq_some_iff.1 hg).1
  subst hv
  have hsrc : Src Try.prog i5.size 37 (.slice (some ⟨b, 0, none⟩) 1 1) 1 [.int .u8 z] w := by
    refine Src.ofSlice w Try.underlying37 ⟨b, 0, none⟩ 1 1 [.int .u8 z] (by rw [hs5]; rfl) (fun j u hu => ?_) (fun u hu => by rw [List.mem_singleton] at hu; subst hu; rfl)
    cases j with
    | zero =>
      simp only [List.getElem?_cons_zero, Option.some.injEq] at hu
      subst hu
      exact hc
    | succ j => simp at hu
  have htl : cur.toList.take (xs.length) = u8s xs := ht
  by_cases hroom : xs.length + 1 ≤ cap
  · have hcell : w.cell? ⟨g, xs.length, none⟩ = cur[xs.length]? := cell_of_row w g _ cur 5 fr hg
    have hrun := run_append_room_src (P := Try.prog) w 37 37 ty 5 i5 Try.underlying37 hi5 g 0 xs.length cap (.slice (some ⟨b, 0, none⟩) 1 1) 1 [.int .u8 z] hsrc hroom
      (fun j hj => by
        have : j = 0 := by simpa using hj
        subst this
        rw [hs5, Nat.zero_add, Nat.mul_one, Nat.add_zero, hcell, Array.getElem?_eq_getElem (by omega)]
        rfl)
      (fun j hj => by
        have : j = 0 := by simpa using hj
        subst this
        rw [hs5, Nat.zero_add, Nat.mul_one, Nat.add_zero]
        exact hf _ (by omega))
    rw [hs5, Nat.zero_add, Nat.mul_one] at hrun
    refine ⟨_, _, hrun, ⟨g, cap, cur.setIfInBounds xs.length (.int .u8 z), fr, by rw [List.length_append]; rfl, hb0, heap_set hg _, by rw [List.length_append]; exact hroom, by rw [Array.size_setIfInBounds]; exact h2, fun j hj => by
      show (w.setCell _ _).frozen? _ = false
      rw [frozen_setCell hg]; exact hf j hj, ?_⟩, ?_⟩
    · rw [Array.toList_setIfInBounds, List.length_append, List.length_singleton, List.take_add_one, List.take_set_of_le (Nat.le_refl _), htl]
      unfold u8s
      rw [List.map_append]
      congr 1
      rw [List.getElem?_set_self (by simp only [Array.length_toList]; omega)]
      rfl
    · exact (Below.refl base w).setCell (show base ≤ g from hb0) _
  · have hcl : (Builtin.firstCells i5.size xs.length (.slice (some ⟨g, 0, none⟩) xs.length cap)).run Try.prog w.drew = .ok (u8s xs).toArray w.drew := by
      refine run_firstCells_some w.drew i5.size xs.length ⟨g, 0, none⟩ xs.length cap (u8s xs) (by rw [u8s_length, hs5, Nat.mul_one]) (fun j u hu => ?_)
      have e : (⟨g, 0, none⟩ : Addr).add j = ⟨g, j, none⟩ := by unfold Addr.add; split <;> simp_all
      rw [e]
      exact (brow_cell (w := w) ⟨g, cap, cur, fr, rfl, hb0, hg, h1, h2, hf, ht⟩).2 j u hu
    have hrun := run_append_grow_src (P := Try.prog) w 37 37 ty 5 i5 (.int .u8 0) Try.underlying37 hi5 hz5 (some ⟨g, 0, none⟩) xs.length cap (u8s xs) hcl (.slice (some ⟨b, 0, none⟩) 1 1) 1 [.int .u8 z] hsrc (by omega) (by omega) (growslice_fits (by omega) (by rw [hb5]; omega))
    have hge : xs.length + 1 ≤ grownCap w (xs.length + 1) cap 5 := grownCap_ge w _ _ _
    refine ⟨_, _, hrun, ⟨w.heap.size, grownCap w (xs.length + 1) cap 5, _, (0, 0), by rw [List.length_append]; rfl, hbase, heap_alloc_last w.drew _, by rw [List.length_append]; exact hge, ?_, fun j hj => ?_, ?_⟩, ?_⟩
    · rw [Array.size_append, size_zeroCells]
      simp only [List.size_toArray, List.length_append, u8s_length, List.length_singleton]
      show _ ≤ xs.length + 1 + _ * 1
      omega
    · have hh := heap_alloc_last w.drew (.cells ((u8s xs ++ [Value.int .u8 z]).toArray ++ Builtin.zeroCells (Value.int .u8 0).cells (grownCap w (xs.length + 1) cap 5 - (xs.length + 1))) 5)
      exact blk_frozen hh j
    · rw [Array.toList_append, List.take_left' (by simp [u8s_length])]
      simp [u8s]
    · exact (Below.drew (Below.refl base w)).alloc hbase _
theorem wpList_append_byte {ops : Array Oper} {rest : List Oper} {o : Oper} {a : Act} {Q : Exit → Act → World → Prop} {w : World} (hgd : o.guard = none) (s x : Operand)
    (ho : o.op = .call { callee := .builtin .append, args := #[s, x], argTypes := #[37, 37] }) {base : Nat} {v : Value} {xs : List Int} {b : Nat} {z : Int} (hr : BRow base w v xs) (hbase : base ≤ w.heap.size)
    (hv : a.eval s = v) (hx : a.eval x = .slice (some ⟨b, 0, none⟩) 1 1) (hc : w.cell? ⟨b, 0, none⟩ = some (.int .u8 z)) (hl : xs.length ≤ 1000000000000)
    (hK : ∀ v' w', BRow base w' v' (xs ++ [z]) → Below base w w' → wpList Try.prog ops Q rest (a.put o.dst v') w') : wpList Try.prog ops Q (o :: rest) a w := by
  refine wpList_plain hgd fun K hK' => ?_
  obtain ⟨v', w', hrun, r', bb⟩ := run_append_byte hr hbase hc hl o.type
  unfold Oper.wp
  simp [execOp, ho, resolve, invoke, builtin, hv, hx, hrun, Result.andThen]
  exact hK' _ _ (hK v' w' r' bb)
def bys (s : ByteArray) : List Int := s.data.toList.map fun b => (b.toNat : Int)
theorem bys_len (s : ByteArray) : (bys s).length = s.size := by unfold bys; rw [List.length_map, Array.length_toList]; rfl
theorem wpList_bytes {ops : Array Oper} {rest : List Oper} {o : Oper} {a : Act} {Q : Exit → Act → World → Prop} {w : World} (hgd : o.guard = none) (x : Operand)
    (ho : o.op = .convert 9 37 x) {base : Nat} {s : ByteArray} (hbase : base ≤ w.heap.size) (hx : a.eval x = .string s)
    (hK : ∀ v' w', BRow base w' v' (bys s) → Below w.heap.size w w' → wpList Try.prog ops Q rest (a.put o.dst v') w') : wpList Try.prog ops Q (o :: rest) a w := by
  refine wpList_plain hgd fun K hK' => ?_
  have hrun := run_bytes_of_string (P := Try.prog) w 9 37 5 s Try.underlying9 Try.underlying37 Try.underlying5
  obtain ⟨r', bb⟩ := brow_of_string (base := base) w s hbase _ _ hrun
  unfold Oper.wp execOp
  simp only [ho, hx, Sem.run_bind, hrun, Result.andThen, Sem.run_pure]
  exact hK' _ _ (hK _ _ r' bb)
theorem brow_at {base : Nat} {w : World} {g cap n : Nat} {xs : List Int} (h : BRow base w (.slice (some ⟨g, 0, none⟩) n cap) xs) (i : Nat) (hi : i < n) : w.cell? ⟨g, i, none⟩ = some (.int .u8 (xs.getD i 0)) ∧ w.frozen? ⟨g, i, none⟩ = false := by
  obtain ⟨hn, hc⟩ := brow_cell h
  constructor
  · refine hc i _ ?_
    unfold u8s
    rw [List.getElem?_map, List.getD_eq_getElem?_getD, List.getElem?_eq_getElem (by omega)]
    rfl
  · obtain ⟨g', cap', cur, fr, hv, hb, hg, h1, h2, hf, ht⟩ := h
    injection hv with ha hn' hc'
    injection ha with ha
    injection ha with hgg
    subst hgg
    exact hf i (by omega)
theorem brow_set {base : Nat} {w : World} {g cap n : Nat} {xs : List Int} (h : BRow base w (.slice (some ⟨g, 0, none⟩) n cap) xs) (i : Nat) (z : Int) : BRow base (w.setCell ⟨g, i, none⟩ (.int .u8 z)) (.slice (some ⟨g, 0, none⟩) n cap) (xs.set i z) ∧ base ≤ g := by
  obtain ⟨g', cap', cur, fr, hv, hb, hg, h1, h2, hf, ht⟩ := h
  injection hv with ha hn' hc'
  injection ha with ha
  injection ha with hgg
  subst hgg
  subst hn'
  subst hc'
  refine ⟨⟨g, cap, cur.setIfInBounds i (.int .u8 z), fr, by rw [List.length_set], hb, heap_set hg _, by rw [List.length_set]; exact h1, by rw [Array.size_setIfInBounds]; exact h2, fun j hj => by rw [frozen_setCell hg]; exact hf j hj, ?_⟩, hb⟩
  rw [Array.toList_setIfInBounds, List.length_set, List.take_set, ht]
  unfold u8s
  rw [List.map_set]
theorem brow_string {base : Nat} {w : World} {g cap n : Nat} {xs : List Int} (h : BRow base w (.slice (some ⟨g, 0, none⟩) n cap) xs) : (convert 37 9 (.slice (some ⟨g, 0, none⟩) n cap)).run Try.prog w = .ok (.string (strOfNums xs)) w := by
  obtain ⟨hn, _⟩ := brow_cell h
  exact run_convert_bytes_arg w 37 5 Try.underlying37 Try.underlying5 g 0 n cap xs hn.symm (fun i hi => by rw [Nat.zero_add]; exact (brow_at h i hi).1) 9 Try.underlying9
theorem brow_form {base : Nat} {w : World} {v : Value} {xs : List Int} (h : BRow base w v xs) : ∃ g cap, v = .slice (some ⟨g, 0, none⟩) xs.length cap := by
  obtain ⟨g, cap, _, _, hv, _⟩ := h
  exact ⟨g, cap, hv⟩
theorem str_take (T : List Int) (a b : Nat) : strOfNums ((T.drop a).take b) = (strOfNums T).extract a (a + b) := by
  apply ByteArray.ext
  apply Array.toList_inj.1
  rw [strOfNums_data, ByteArray.data_extract, Array.toList_extract, strOfNums_data]
  simp [List.map_take, List.map_drop]
theorem str_bys (r : ByteArray) : strOfNums (bys r) = r := by
  apply ByteArray.ext
  apply Array.toList_inj.1
  rw [strOfNums_data]
  unfold bys
  rw [List.map_map]
  conv => rhs; rw [← List.map_id r.data.toList]
  refine List.map_congr_left fun x _ => ?_
  simp
theorem heap_setCells {g : Nat} {fr : Nat × Nat} {e : TypeId} : ∀ (ys xs : List Int) (w : World) (cur : Array Value), w.heap[g]? = some (.cells cur e fr) → xs.length + ys.length ≤ cur.size → cur.toList.take xs.length = u8s xs →
    ∃ cur', (w.setCells g xs.length (u8s ys)).heap[g]? = some (.cells cur' e fr) ∧ cur'.size = cur.size ∧ cur'.toList.take (xs ++ ys).length = u8s (xs ++ ys)
  | [], xs, w, cur, hg, _, ht => ⟨cur, hg, rfl, by rw [List.append_nil]; exact ht⟩
  | y :: ys, xs, w, cur, hg, hs, ht => by
    have hs' : xs.length < cur.size := by simp only [List.length_cons] at hs; omega
    obtain ⟨cur', h1, h2, h3⟩ := heap_setCells ys (xs ++ [y]) (w.setCell ⟨g, xs.length, none⟩ (.int .u8 y)) (cur.setIfInBounds xs.length (.int .u8 y)) (heap_set hg _) (by rw [Array.size_setIfInBounds, List.length_append]; simp only [List.length_cons, List.length_nil] at hs ⊢; omega) (by
      rw [Array.toList_setIfInBounds, List.length_append, List.length_singleton, List.take_add_one, List.take_set_of_le (Nat.le_refl _), ht]
      unfold u8s
      rw [List.map_append]
      congr 1
      rw [List.getElem?_set_self (by simp only [Array.length_toList]; omega)]
      rfl)
    refine ⟨cur', ?_, by rw [h2, Array.size_setIfInBounds], by rw [List.append_assoc] at h3; exact h3⟩
    rw [List.length_append] at h1
    exact h1
theorem below_setCells_ {B g : Nat} {a : World} (hb : B ≤ g) : ∀ (vs : List Value) (o : Nat) {w : World}, Below B a w → Below B a (w.setCells g o vs)
  | [], _, _, h => h
  | v :: r, o, _, h => below_setCells_ hb r (o + 1) (h.setCell (p := ⟨g, o, none⟩) hb v)
/-- More bytes. -/
theorem run_append_bytes {base : Nat} {w : World} {v : Value} {xs ys : List Int} {ad : Addr} {c : Nat} (h : BRow base w v xs) (hbase : base ≤ w.heap.size) (hsrc : ∀ j u, (u8s ys)[j]? = some u → w.cell? (ad.add j) = some u) (hl : xs.length + ys.length ≤ 1000000000000) (hy : 0 < ys.length) (ty : TypeId) :
    ∃ v' w', (Builtin.append_ #[37, 37] ty #[v, .slice (some ad) ys.length c]).run Try.prog w = .ok v' w' ∧ BRow base w' v' (xs ++ ys) ∧ Below base w w' := by
  obtain ⟨i5, hi5, hz5, hs5, hb5⟩ : ∃ i, Try.prog.info? 5 = some i ∧ i.zero = some (.int .u8 0) ∧ i.size = 1 ∧ i.bytes = 1 := by
    have := info5
    cases hq : Try.prog.info? 5 with
    | none => rw [hq] at this; cases this
    | some i =>
      rw [hq] at this
      simp only [Option.map_some, Option.some.injEq, Prod.mk.injEq] at this
      exact ⟨i, rfl, this.1, this.2.1, this.2.2⟩
  obtain ⟨g, cap, cur, fr, hv, hb0, hg, h1, h2, hf, ht⟩ := h
  have hlt : g < w.heap.size := (Array.getElem?_eq_some_iff.1 hg).1
  subst hv
  have hsr : Src Try.prog i5.size 37 (.slice (some ad) ys.length c) ys.length (u8s ys) w :=
    Src.ofSlice w Try.underlying37 ad ys.length c (u8s ys) (by rw [hs5, u8s_length, Nat.mul_one]) hsrc (fun u hu => by
      unfold u8s at hu
      obtain ⟨_, _, rfl⟩ := List.mem_map.1 hu
      rfl)
  by_cases hroom : xs.length + ys.length ≤ cap
  · have hcell : ∀ j, w.cell? ⟨g, j, none⟩ = cur[j]? := fun j => cell_of_row w g _ cur 5 fr hg
    have hrun := run_append_room_src (P := Try.prog) w 37 37 ty 5 i5 Try.underlying37 hi5 g 0 xs.length cap (.slice (some ad) ys.length c) ys.length (u8s ys) hsr hroom
      (fun j hj => by
        rw [u8s_length] at hj
        rw [hs5, Nat.zero_add, Nat.mul_one, hcell, Array.getElem?_eq_getElem (by omega)]
        rfl)
      (fun j hj => by
        rw [u8s_length] at hj
        rw [hs5, Nat.zero_add, Nat.mul_one]
        exact hf _ (by omega))
    rw [hs5, Nat.zero_add, Nat.mul_one] at hrun
    obtain ⟨cur', h3, h4, h5⟩ := heap_setCells ys xs w cur hg (by omega) ht
    refine ⟨_, _, hrun, ⟨g, cap, cur', fr, by rw [List.length_append], hb0, h3, by rw [List.length_append]; exact hroom, by rw [h4]; exact h2, fun j hj => by
      rw [World.frozen?_setCells]; exact hf j hj, h5⟩, ?_⟩
    exact below_setCells_ hb0 _ _ (Below.refl base w)
  · have hcl : (Builtin.firstCells i5.size xs.length (.slice (some ⟨g, 0, none⟩) xs.length cap)).run Try.prog w.drew = .ok (u8s xs).toArray w.drew := by
      refine run_firstCells_some w.drew i5.size xs.length ⟨g, 0, none⟩ xs.length cap (u8s xs) (by rw [u8s_length, hs5, Nat.mul_one]) (fun j u hu => ?_)
      have e : (⟨g, 0, none⟩ : Addr).add j = ⟨g, j, none⟩ := by unfold Addr.add; split <;> simp_all
      rw [e]
      exact (brow_cell (w := w) ⟨g, cap, cur, fr, rfl, hb0, hg, h1, h2, hf, ht⟩).2 j u hu
    have hrun := run_append_grow_src (P := Try.prog) w 37 37 ty 5 i5 (.int .u8 0) Try.underlying37 hi5 hz5 (some ⟨g, 0, none⟩) xs.length cap (u8s xs) hcl (.slice (some ad) ys.length c) ys.length (u8s ys) hsr (by omega) (by omega) (growslice_fits (by omega) (by rw [hb5]; omega))
    have hge : xs.length + ys.length ≤ grownCap w (xs.length + ys.length) cap 5 := grownCap_ge w _ _ _
    refine ⟨_, _, hrun, ⟨w.heap.size, grownCap w (xs.length + ys.length) cap 5, _, (0, 0), by rw [List.length_append], hbase, heap_alloc_last w.drew _, by rw [List.length_append]; exact hge, ?_, fun j hj => ?_, ?_⟩, ?_⟩
    · rw [Array.size_append, size_zeroCells]
      simp only [List.size_toArray, List.length_append, u8s_length]
      show _ ≤ xs.length + ys.length + _ * 1
      omega
    · exact blk_frozen (heap_alloc_last w.drew _) j
    · rw [Array.toList_append, List.take_left' (by simp [u8s_length])]
      simp [u8s]
    · exact (Below.drew (Below.refl base w)).alloc hbase _
theorem wpList_append_bytes {ops : Array Oper} {rest : List Oper} {o : Oper} {a : Act} {Q : Exit → Act → World → Prop} {w : World} (hgd : o.guard = none) (s x : Operand)
    (ho : o.op = .call { callee := .builtin .append, args := #[s, x], argTypes := #[37, 37] }) {base : Nat} {v : Value} {xs ys : List Int} {ad : Addr} {n c : Nat} (hr : BRow base w v xs) (hbase : base ≤ w.heap.size)
    (hv : a.eval s = v) (hx : a.eval x = .slice (some ad) n c) (hn : n = ys.length) (hsrc : ∀ j u, (u8s ys)[j]? = some u → w.cell? (ad.add j) = some u) (hl : xs.length + ys.length ≤ 1000000000000) (hy : 0 < ys.length)
    (hK : ∀ v' w', BRow base w' v' (xs ++ ys) → Below base w w' → wpList Try.prog ops Q rest (a.put o.dst v') w') : wpList Try.prog ops Q (o :: rest) a w := by
  subst hn
  refine wpList_plain hgd fun K hK' => ?_
  obtain ⟨v', w', hrun, r', bb⟩ := run_append_bytes (c := c) hr hbase hsrc hl hy o.type
  unfold Oper.wp
  simp [execOp, ho, resolve, invoke, builtin, hv, hx, hrun, Result.andThen]
  exact hK' _ _ (hK v' w' r' bb)
theorem run_bytes_nil (w : World) : (Instr.buildSlice 37 0 #[]).run Try.prog w = .ok (.slice (some ⟨w.heap.size, 0, none⟩) 0 0) (w.alloc (.cells #[] 5)) := by kernel_rfl
theorem brow_nil {base : Nat} (w : World) (hb : base ≤ w.heap.size) : BRow base (w.alloc (.cells #[] 5)) (.slice (some ⟨w.heap.size, 0, none⟩) 0 0) [] :=
  ⟨w.heap.size, 0, #[], (0, 0), rfl, hb, heap_alloc_last _ _, Nat.le_refl _, Nat.le_refl _, fun j hj => absurd hj (Nat.not_lt_zero _), rfl⟩
theorem brow_take {base : Nat} {w : World} {g L cap n c : Nat} {T : List Int} (h : BRow base w (.slice (some ⟨g, 0, none⟩) L cap) T) (hn : n ≤ L) : (convert 37 9 (.slice (some ⟨g, 0, none⟩) n c)).run Try.prog w = .ok (.string ((strOfNums T).extract 0 n)) w := by
  obtain ⟨hL, hc⟩ := brow_cell h
  have e : strOfNums (T.take n) = (strOfNums T).extract 0 n := by
    have := str_take T 0 n
    rw [List.drop_zero, Nat.zero_add] at this
    exact this
  rw [← e]
  refine run_convert_bytes_arg w 37 5 Try.underlying37 Try.underlying5 g 0 n c (T.take n) (by rw [List.length_take]; omega) (fun i hi => ?_) 9 Try.underlying9
  rw [Nat.zero_add]
  refine hc i _ ?_
  unfold u8s
  rw [List.getElem?_map, List.getD_eq_getElem?_getD, List.getElem?_take, if_pos hi, List.getElem?_eq_getElem (by omega)]
  rfl
theorem brow_src {base : Nat} {w : World} {g n cap : Nat} {xs : List Int} (h : BRow base w (.slice (some ⟨g, 0, none⟩) n cap) xs) : ∀ j u, (u8s xs)[j]? = some u → w.cell? ((⟨g, 0, none⟩ : Addr).add j) = some u := fun j u hu => by
  have e : (⟨g, 0, none⟩ : Addr).add j = ⟨g, j, none⟩ := by unfold Addr.add; split <;> simp_all
  rw [e]
  exact (brow_cell h).2 j u hu
/-- One byte of a text is another; of an empty text 'x'. -/
def turnText (s : ByteArray) (p0 p1 : Int) : ByteArray := if s.size = 0 then ⟨#[120]⟩ else strOfNums ((bys s).set (Int.tmod p0 s.size).toNat (Go.bits .xor .u8 ((bys s).getD (Int.tmod p0 s.size).toNat 0) ((wrap64 (1 + Int.tmod p1 255)) % 256)))
theorem two_cells {w : World} {A : Option Addr} {l : List Int} (h : Kd.C (Kd.int .i64) w A l.length l) (hl : 2 ≤ l.length) : ∃ ad, A = some ad ∧ ∀ W, Below w.heap.size w W → W.cell? ad = some (.int .i64 (l.getD 0 0)) ∧ W.cell? ⟨ad.block, ad.off + 1, none⟩ = some (.int .i64 (l.getD 1 0)) := by
  obtain ⟨ad, c, e, _, _, _⟩ := Kd.C_get h 0 0 (by omega) (by omega)
  refine ⟨ad, e, fun W hb => ?_⟩
  have h2 := Kd.C_below h hb
  subst e
  constructor
  · obtain ⟨ad', c, e, hc, hk, hr⟩ := Kd.C_get h2 0 0 (by omega) (by omega)
    injection e with e
    subst e
    have := hr 0 (.int .i64 (l.getD 0 0)) (by rw [show c = [.int .i64 (l.getD 0 0)] from hk]; rfl)
    exact this
  · obtain ⟨ad', c, e, hc, hk, hr⟩ := Kd.C_get h2 0 1 (by omega) (by omega)
    injection e with e
    subst e
    have := hr 0 (.int .i64 (l.getD 1 0)) (by rw [show c = [.int .i64 (l.getD 1 0)] from hk]; rfl)
    exact this
set_option maxHeartbeats 4000000 in
set_option maxRecDepth 100000 in
theorem turned_calls (s : ByteArray) (hs : s.size ≤ 1152921504606846975) (A : Option Addr) (l : List Int) (cap : Nat) (hl : 2 ≤ l.length) (h0 : 0 ≤ l.getD 0 0) (w : World) (hR : Kd.C (Kd.int .i64) w A l.length l) : Calls Try.prog 28 #[.string s, .slice A l.length cap] w fun e_ w' => e_ = .returned (.string (turnText s (l.getD 0 0) (l.getD 1 0))) ∧ Below w.heap.size w w' := by
  obtain ⟨ad, rfl, hcell⟩ := two_cells hR hl
  obtain ⟨p0, hp0⟩ : ∃ p, l.getD 0 0 = p := ⟨_, rfl⟩
  obtain ⟨p1, hp1⟩ : ∃ p, l.getD 1 0 = p := ⟨_, rfl⟩
  rw [hp0, hp1] at hcell
  rw [hp0] at h0
  rw [hp0, hp1]
  have HC := Aside0.mk hcell
  have HB := Aside0.mk (Below.refl w.heap.size w)
  have hl0 : (0 : Int) < (l.length : Int) := by omega
  have hl1 : (1 : Int) < (l.length : Int) := by omega
  clear hcell hR hp0 hp1 hl
  by_cases hz : s.size = 0
  · have e : turnText s p0 p1 = ⟨#[120]⟩ := by unfold turnText; rw [if_pos hz]
    rw [e]
    have hz1 : ((s.size : Int) == 0) = true := by rw [hz]; rfl
    have hz2 : (s.size : Int) = 0 := by omega
    clear e hz
    go_enter Try.func28, Try.ntmps28
    go_wp2_with ((with_reducible refine gate_dst (N := 8) rfl ?_); refine wpList_bytes rfl (.tmp 7) rfl (base := w.heap.size) (s := s) (Nat.le_refl _) rfl ?_; intro v3 w2 hv3 hb2; have HR := Aside0.mk hv3; have HB2 := Aside0.mk hb2; clear hv3 hb2; obtain ⟨g3, cap3, hg3⟩ : ∃ g cap, v3 = .slice (some ⟨g, 0, none⟩) s.size cap := (by obtain ⟨g, cap, _, _, h, _⟩ := HR.out; rw [bys_len] at h; exact ⟨g, cap, h⟩); subst hg3)
    go_ret
    exact ⟨rfl, HB2.out⟩
  · have e : turnText s p0 p1 = strOfNums ((bys s).set (Int.tmod p0 s.size).toNat (Go.bits .xor .u8 ((bys s).getD (Int.tmod p0 s.size).toNat 0) ((wrap64 (1 + Int.tmod p1 255)) % 256))) := by unfold turnText; rw [if_neg hz]
    rw [e]
    clear e
    have hz1 : ((s.size : Int) == 0) = false := beq_eq_false_iff_ne.mpr (by omega)
    have hz2 : ¬ (s.size : Int) = 0 := by omega
    have q0 : 0 ≤ Int.tmod p0 s.size := Int.tmod_nonneg _ h0
    have q1 : Int.tmod p0 s.size < s.size := Int.tmod_lt_of_pos _ (by omega)
    obtain ⟨j, hj⟩ := Int.eq_ofNat_of_zero_le q0
    obtain ⟨x, hx⟩ : ∃ x, (wrap64 (1 + Int.tmod p1 255)) % 256 = x := ⟨_, rfl⟩
    rw [hj] at q1
    rw [hj, hx, Int.toNat_natCast]
    obtain ⟨z, hzz⟩ : ∃ z, (bys s).getD j 0 = z := ⟨_, rfl⟩
    rw [hzz]
    have hj0 : (0 : Int) ≤ (j : Int) := by omega
    have HZ := Aside0.mk hzz
    have HS := Aside0.mk hs
    clear q0 hzz h0 hz hs
    go_enter Try.func28, Try.ntmps28
    go_wp2_with ((with_reducible refine gate_dst (N := 8) rfl ?_); refine wpList_bytes rfl (.tmp 7) rfl (base := w.heap.size) (s := s) (Nat.le_refl _) rfl ?_; intro v3 w2 hv3 hb2; have HR := Aside0.mk hv3; have HB2 := Aside0.mk hb2; clear hv3 hb2; obtain ⟨g3, cap3, hg3⟩ : ∃ g cap, v3 = .slice (some ⟨g, 0, none⟩) s.size cap := (by obtain ⟨g, cap, _, _, h, _⟩ := HR.out; rw [bys_len] at h; exact ⟨g, cap, h⟩); subst hg3; obtain ⟨hc0, hc1⟩ := HC.out _ HB2.out; have hc := (brow_at HR.out j (by omega)).1; have hf := (brow_at HR.out j (by omega)).2; rw [HZ.out] at hc)
    go_region
    obtain ⟨hs1, hs2⟩ := brow_set HR.out j (Go.bits .xor .u8 z x)
    have hs3 : BRow w.heap.size (w2.setCell ⟨g3, j, none⟩ (.int .u8 (Go.bits .xor .u8 z x))).drew (.slice (some ⟨g3, 0, none⟩) s.size cap3) ((bys s).set j (Go.bits .xor .u8 z x)) := hs1
    have hcv := brow_string hs3
    have HE := Aside0.mk (show Below w.heap.size w (w2.setCell ⟨g3, j, none⟩ (.int .u8 (Go.bits .xor .u8 z x))).drew from (HB2.out.setCell hs2 _).drew)
    clear hs1 hs2 hs3
    go_wp2
    go_ret
    exact ⟨rfl, HE.out⟩
end Go.Proofs.Ytmocccmffmacdaa.Sha
namespace Go.Proofs.Ytmocccmffmacdaa.Kec
open Go.RowKit Go.Proofs.YtmocccmffmacdaaW.PrintWords Go.Proofs.YtmocccmffmacdaaW.PrintLast Go.Proofs.YtmocccmffmacdaaW.PrintMore Go.Proofs.Ytmocccmffmacdaa.Sha
set_option linter.unusedVariables false
set_option linter.unusedSimpArgs false
def padTo (s : ByteArray) (fill : Int) (i : Nat) : List Int := Sha.bys s ++ fill :: List.replicate i 0
theorem padTo_len (s : ByteArray) (fill : Int) (i : Nat) : (padTo s fill i).length = s.size + 1 + i := by
  unfold padTo
  rw [List.length_append, Sha.bys_len, List.length_cons, List.length_replicate]
  omega
theorem padTo_snoc (s : ByteArray) (fill : Int) (i : Nat) : padTo s fill i ++ [0] = padTo s fill (i + 1) := by
  unfold padTo
  rw [List.replicate_succ', List.append_assoc]
  rfl
def lastX (l : List Int) : List Int := l.set (l.length - 1) (Go.bits .xor .u8 (l.getD (l.length - 1) 0) 128)
theorem lastX_len (l : List Int) : (lastX l).length = l.length := by unfold lastX; rw [List.length_set]
def padN (n r : Nat) : Nat := (r - n % r) % r
/-- a text, filled to whole blocks -/
def padX (s : ByteArray) (fill : Int) (r : Nat) : List Int := lastX (padTo s fill (padN (s.size + 1) r))
def xbTo (st b : List Int) (a : Nat) : Nat → List Int
  | 0 => st
  | i + 1 => (xbTo st b a i).set i (Go.bits .xor .u8 ((xbTo st b a i).getD i 0) (b.getD (a + i) 0))
theorem xbTo_len (st b : List Int) (a : Nat) : ∀ i, (xbTo st b a i).length = st.length
  | 0 => rfl
  | i + 1 => by simp [xbTo, xbTo_len st b a i]
def abTo (b : List Int) (r : Nat) : Nat → List Int
  | 0 => List.replicate 200 0
  | k + 1 => Sha.bys (perm (strOfNums (xbTo (abTo b r k) b (r * k) r)))
theorem abTo_len (b : List Int) (r : Nat) : ∀ k, (abTo b r k).length = 200
  | 0 => rfl
  | k + 1 => by
    show (Sha.bys _).length = 200
    rw [Sha.bys_len, perm_size, strOfNums_size, xbTo_len, abTo_len b r k]
def absorbed (s : ByteArray) (fill : Int) (r : Nat) : ByteArray := strOfNums (abTo (padX s fill r) r ((padX s fill r).length / r))
theorem brow_far {base : Nat} {w : World} {g g' n cap i : Nat} {xs : List Int} (h : BRow base w (.slice (some ⟨g, 0, none⟩) n cap) xs) (hne : g ≠ g') (v : Value) : BRow base (w.setCell ⟨g', i, none⟩ v) (.slice (some ⟨g, 0, none⟩) n cap) xs := by
  obtain ⟨g2, cap', cur, fr, hv, hb, hg, h1, h2, hf, ht⟩ := h
  injection hv with ha hn hc
  injection ha with ha
  injection ha with hgg
  subst hgg
  have e : (w.setCell ⟨g', i, none⟩ v).heap[g]? = w.heap[g]? := Below.heap_setCell w ⟨g', i, none⟩ v g hne
  refine ⟨g, cap', cur, fr, by rw [hn, hc], hb, e.trans hg, h1, h2, fun j hj => ?_, ht⟩
  have := hf j hj
  simp only [World.frozen?, e]
  simp only [World.frozen?] at this
  exact this
theorem brow_lt {base : Nat} {w : World} {g n cap : Nat} {xs : List Int} (h : BRow base w (.slice (some ⟨g, 0, none⟩) n cap) xs) : base ≤ g ∧ g < w.heap.size := by
  obtain ⟨g2, cap', cur, fr, hv, hb, hg, h1, h2, hf, ht⟩ := h
  injection hv with ha hn hc
  injection ha with ha
  injection ha with hgg
  subst hgg
  exact ⟨hb, (Array.getElem?_eq_some_iff.1 hg).1⟩
theorem brow_lower {base base' : Nat} {w : World} {v : Value} {xs : List Int} (h : BRow base w v xs) (hb' : base' ≤ base) : BRow base' w v xs := by
  obtain ⟨g2, cap', cur, fr, hv, hb, rest⟩ := h
  exact ⟨g2, cap', cur, fr, hv, Nat.le_trans hb' hb, rest⟩
theorem brow_zero (w : World) (base : Nat) (hb : base ≤ w.heap.size) (n : Nat) : BRow base (w.alloc (.cells (cells .u8 (List.replicate n 0)) 5)) (.slice (some ⟨w.heap.size, 0, none⟩) n n) (List.replicate n 0) := by
  refine ⟨w.heap.size, n, cells .u8 (List.replicate n 0), (0, 0), by rw [List.length_replicate], hb, heap_alloc_last _ _, by rw [List.length_replicate]; exact Nat.le_refl _, by rw [size_cells, List.length_replicate]; exact Nat.le_refl _, fun j _ => blk_frozen (heap_alloc_last _ _) j, ?_⟩
  unfold cells u8s
  rw [List.length_replicate]
  simp
theorem brow_cap {base : Nat} {w : World} {g n cap : Nat} {xs : List Int} (h : BRow base w (.slice (some ⟨g, 0, none⟩) n cap) xs) : n ≤ cap := by
  obtain ⟨g2, cap', cur, fr, hv, hb, hg, h1, h2, hf, ht⟩ := h
  injection hv with ha hn hc
  omega
set_option maxHeartbeats 8000000 in
set_option maxRecDepth 100000 in
theorem absorbed136_calls (s : ByteArray) (fill : Int) (hs : s.size ≤ 1000000000) (w : World) : Calls Try.prog 39 #[.string s, .int .i64 136, .int .u8 fill] w fun e_ w' => e_ = .returned (.string (absorbed s fill 136)) ∧ Below w.heap.size w w' := by
  have HB := Aside0.mk (Below.refl w.heap.size w)
  have HS := Aside0.mk hs
  have HL : Aside0 ((Sha.bys s).length ≤ 1000000000000) := ⟨by rw [Sha.bys_len]; omega⟩
  have hmk : ∀ w : World, (Instr.makeSlice 37 (.int .i64 200) (.int .i64 200)).run Try.prog w = .ok (.slice (some ⟨w.heap.size, 0, none⟩) 200 200) (w.alloc (.cells (cells .u8 (List.replicate 200 0)) 5)) := fun _ => by kernel_rfl
  have HM := Aside0.mk hmk
  clear hs hmk
  go_enter Try.func39, Try.ntmps39
  go_wp2_with (first
    | ((with_reducible refine gate_dst (N := 12) rfl ?_); refine wpList_bytes rfl (.tmp 11) rfl (base := w.heap.size) (s := s) (Nat.le_refl _) rfl ?_; intro v3 w2 hv3 hb2; have HR := Aside0.mk hv3; have HB2 := Aside0.mk hb2; clear hv3 hb2; obtain ⟨g3, cap3, hg3⟩ : ∃ g cap, v3 = .slice (some ⟨g, 0, none⟩) s.size cap := (by obtain ⟨g, cap, _, _, h, _⟩ := HR.out; rw [Sha.bys_len] at h; exact ⟨g, cap, h⟩); subst hg3)
    | ((with_reducible refine gate_dst (N := 15) rfl ?_); refine wpList_append_byte rfl (.tmp 12) (.tmp 14) rfl (base := w.heap.size) (xs := Sha.bys s) (z := fill) (brow_below HR.out ((Below.refl _ _).alloc (Nat.le_refl _) _)) (by rw [sz_alloc]; have := HB2.out.size; omega) rfl rfl (by rw [cell_of_row _ _ _ _ _ _ (heap_alloc_last _ _)]; rfl) HL.out ?_; intro v4 w4 hv4 hb4; have HR_ := Aside0.mk hv4; clear HR; have HR := HR_; clear HR_; have HB_ := Aside0.mk ((HB2.out.alloc HB2.out.size _).trans hb4); clear HB2; have HB2 := HB_; clear HB_ hv4 hb4; obtain ⟨g4, cap4, hg4⟩ := brow_form HR.out; subst hg4))
  have hfl0 : Sha.bys s ++ [fill] = padTo s fill 0 := rfl
  obtain ⟨z, hz⟩ : ∃ z, padN (s.size + 1) 136 = z := ⟨_, rfl⟩
  have HZ0 := Aside0.mk hz
  have hz2 := hz
  unfold padN at hz2
  have hzs : z ≤ 136 ∧ (s.size + 1 + z) % 136 = 0 ∧ ∀ i, i < z → (s.size + 1 + i) % 136 ≠ 0 := ⟨by omega, by omega, fun i hi => by omega⟩
  have HZ := Aside0.mk hzs
  clear hz hz2 hzs
  rw [Sha.bys_len]
  go_loopg [7] (z) (fun k s7 wx => ∃ i g cap, i + k = z ∧ s7 = .slice (some ⟨g, 0, none⟩) (s.size + 1 + i) cap ∧ Aside0 (BRow w.heap.size wx (.slice (some ⟨g, 0, none⟩) (s.size + 1 + i) cap) (padTo s fill i) ∧ Below w.heap.size w wx))
  case atStart => exact ⟨0, g4, cap4, by omega, rfl, ⟨by have := HR.out; rw [hfl0, padTo_len] at this; exact this, HB2.out⟩⟩
  case round =>
    obtain ⟨i, g, cap, hik, rfl, HX⟩ := hrel
    clear HR HB2
    cases gk with
    | zero =>
      obtain rfl : z = i := by omega
      clear hik
      have hs9 := HS.out
      have hi : ((s.size : Int) + 1 + (z : Int)) % 136 = 0 := by have := HZ.out.2.1; omega
      have hzr : (z : Int) ≤ 136 := by have := HZ.out.1; omega
      obtain ⟨L, hL⟩ : ∃ L, s.size + 1 + z = L := ⟨_, rfl⟩
      have hLi : (s.size : Int) + 1 + (z : Int) = (L : Int) := by omega
      obtain ⟨P, hP⟩ : ∃ P, padTo s fill z = P := ⟨_, rfl⟩
      have hPl : P.length = L := by rw [← hP, padTo_len, hL]
      have hLR : L % 136 = 0 ∧ 0 < L ∧ L ≤ 1000000200 := by have := HZ.out.2.1; have := HZ.out.1; omega
      have HP := Aside0.mk (And.intro hP (And.intro hPl (And.intro hLR hL)))
      obtain ⟨q, hq⟩ : ∃ q, L - 1 = q := ⟨_, rfl⟩
      have hqi : (L : Int) - 1 = (q : Int) := by omega
      have hqL : (q : Int) < (L : Int) := by omega
      have hLb : (L : Int) ≤ 1000000200 := by omega
      obtain ⟨y, hy⟩ : ∃ y, P.getD q 0 = y := ⟨_, rfl⟩
      rw [hP, hL] at HX
      have hc := (brow_at HX.out.1 q (by omega)).1
      have hf := (brow_at HX.out.1 q (by omega)).2
      rw [hy] at hc
      have HQ := Aside0.mk (And.intro hq hy)
      rw [hLi] at hi
      rw [hL]
      clear hs9 hzr hLi hP hPl hLR hq hy hL
      obtain ⟨hs1, hs2⟩ := brow_set HX.out.1 q (Go.bits .xor .u8 y 128)
      have HE : Aside0 (P.set q (Go.bits .xor .u8 y 128) = padX s fill 136) := ⟨by
        obtain ⟨hP, hPl, _, hL⟩ := HP.out
        obtain ⟨hq, hy⟩ := HQ.out
        unfold padX
        rw [HZ0.out, hP]
        unfold lastX
        rw [hPl, hq, hy]⟩
      rw [HE.out] at hs1
      have HW : Aside0 (BRow w.heap.size (wr.setCell ⟨g, q, none⟩ (.int .u8 (Go.bits .xor .u8 y 128))) (.slice (some ⟨g, 0, none⟩) L cap) (padX s fill 136) ∧ Below w.heap.size w (wr.setCell ⟨g, q, none⟩ (.int .u8 (Go.bits .xor .u8 y 128)))) := ⟨hs1, HX.out.2.setCell hs2 _⟩
      have hmk := HM.out
      clear hs1 hs2
      go_wp2
      clear hmk hc hf hi hqi hqL
      refine wp_world (fun V hV => ?_)
      obtain ⟨H1, hH1⟩ : ∃ h, (wr.setCell ⟨g, q, none⟩ (.int .u8 (Go.bits .xor .u8 y 128))).heap.size = h := ⟨_, rfl⟩
      have hH1' : wr.heap.size = H1 := by rw [← hH1]; show _ = (wr.heap.modify _ _).size; rw [Array.size_modify]
      obtain ⟨B, hB⟩ : ∃ b, padX s fill 136 = b := ⟨_, rfl⟩
      have hBl : B.length = L := by rw [← hB, ← HE.out, List.length_set, HP.out.2.1]
      have HV : Aside0 (BRow w.heap.size V (.slice (some ⟨g, 0, none⟩) L cap) B ∧ BRow w.heap.size V (.slice (some ⟨H1, 0, none⟩) 200 200) (abTo B 136 0) ∧ Below w.heap.size w V ∧ H1 ≠ g) := ⟨by
        have hz1 := HW.out.2.size
        have hlt := (brow_lt HW.out.1).2
        rw [hH1] at hz1 hlt
        have hz0 := brow_zero (wr.setCell ⟨g, q, none⟩ (.int .u8 (Go.bits .xor .u8 y 128))) w.heap.size (by rw [hH1]; exact hz1) 200
        rw [hH1] at hz0
        rw [← hB, hV]
        exact ⟨brow_below HW.out.1 ((Below.refl _ _).alloc (Nat.le_refl _) _), hz0, HW.out.2.alloc (by rw [hH1]; exact hz1) _, by omega⟩⟩
      obtain ⟨m, hm⟩ : ∃ m, L / 136 = m := ⟨_, rfl⟩
      have HBm := Aside0.mk (And.intro hB (And.intro hBl (And.intro hm HP.out.2.2.1)))
      try rw [hH1']
      clear hV HW HE hH1 hH1' hB hBl hm HX HQ HP HZ HZ0 HL HM
      go_loopg [8, 9] m (fun k s8 s9 wx => ∃ t g8 c8, t + k = m ∧ s9 = .int .i64 ((136 * t : Nat) : Int) ∧ s8 = .slice (some ⟨g8, 0, none⟩) 200 c8 ∧ Aside0 (BRow w.heap.size wx (.slice (some ⟨g, 0, none⟩) L cap) B ∧ BRow w.heap.size wx (.slice (some ⟨g8, 0, none⟩) 200 c8) (abTo B 136 t) ∧ Below w.heap.size w wx ∧ g8 ≠ g))
      case atStart => exact ⟨0, H1, 200, by omega, rfl, rfl, HV⟩
      case round =>
        obtain ⟨t, g8, c8, htm, rfl, rfl, HY⟩ := hrel
        clear HV
        cases gk with
        | zero =>
          obtain rfl : t = m := by omega
          obtain ⟨hB, hBl, hm, hLR⟩ := HBm.out
          obtain ⟨a, ha⟩ : ∃ a, 136 * t = a := ⟨_, rfl⟩
          have hi : ¬ ((a : Int) < (L : Int)) := by omega
          have hcv := brow_string HY.out.2.1
          obtain ⟨R, hR⟩ : ∃ R, strOfNums (abTo B 136 t) = R := ⟨_, rfl⟩
          have HE : Aside0 (absorbed s fill 136 = R) := ⟨by
            unfold absorbed
            rw [hB, hBl, hm, hR]⟩
          rw [hR] at hcv
          rw [ha]
          clear htm hB hBl hm hLR ha hR
          go_wp2
          go_ret
          exact ⟨by rw [HE.out]; rfl, HY.out.2.2.1⟩
        | succ kk =>
          obtain ⟨hB, hBl, hm, hLR⟩ := HBm.out
          obtain ⟨a, ha⟩ : ∃ a, 136 * t = a := ⟨_, rfl⟩
          have hi : (a : Int) < (L : Int) := by omega
          have haL : a + 136 ≤ L := by omega
          have HI := Aside0.mk (And.intro htm (And.intro ha (And.intro haL hBl)))
          have HA := Aside0.mk (abTo_len B 136 t)
          obtain ⟨A, hA⟩ : ∃ A, abTo B 136 t = A := ⟨_, rfl⟩
          rw [hA] at HY HA
          have HAe := Aside0.mk hA
          rw [ha]
          clear htm ha hB hBl hm hLR hA haL
          go_wp2
          go_loopg [41] 136 (fun k s41 wx => ∃ i : Nat, i + k = 136 ∧ s41 = .int .i64 i ∧ Aside0 (BRow w.heap.size wx (.slice (some ⟨g, 0, none⟩) L cap) B ∧ BRow w.heap.size wx (.slice (some ⟨g8, 0, none⟩) 200 c8) (xbTo A B a i) ∧ Below w.heap.size w wx ∧ g8 ≠ g))
          case atStart => exact ⟨0, by omega, rfl, HY⟩
          case round =>
            obtain ⟨i, hik, rfl, HU⟩ := hrel
            clear HY
            cases gk with
            | zero =>
              obtain rfl : i = 136 := by omega
              clear hik
              have hcv := brow_string HU.out.2.1
              obtain ⟨S, hS⟩ : ∃ S, strOfNums (xbTo A B a 136) = S := ⟨_, rfl⟩
              rw [hS] at hcv
              have hSs : S.size = 200 := by rw [← hS, strOfNums_size, xbTo_len, HA.out]
              have HSS := Aside0.mk (And.intro hS hSs)
              clear hS hSs hi
              go_wp2_with (first
                | (go_at_call 12; refine (permute_calls S (by rw [HSS.out.2]; decide) _).mono ?_; rintro e_ w5 ⟨rfl, hb5⟩; have H5 : Aside0 (BRow w.heap.size w5 (.slice (some ⟨g, 0, none⟩) L cap) B ∧ Below w.heap.size w w5 ∧ g < w5.heap.size) := ⟨brow_below HU.out.1 hb5, HU.out.2.2.1.trans (hb5.mono HU.out.2.2.1.size), Nat.lt_of_lt_of_le (brow_lt HU.out.1).2 hb5.size⟩; clear hb5)
                | ((with_reducible refine gate_dst (N := 60) rfl ?_); refine wpList_bytes rfl (.tmp 59) rfl (base := w5.heap.size) (s := perm S) (Nat.le_refl _) rfl ?_; intro v6 w6 hv6 hb6; have H6 := Aside0.mk hv6; have H6b := Aside0.mk hb6; clear hv6 hb6; obtain ⟨g6, c6, hg6⟩ : ∃ g cap, v6 = .slice (some ⟨g, 0, none⟩) 200 cap := (by obtain ⟨g, cap, _, _, h, _⟩ := H6.out; rw [Sha.bys_len, perm_size, HSS.out.2] at h; exact ⟨g, cap, h⟩); subst hg6))
              go_roundg kk
              case measure => omega
              case rel =>
                obtain ⟨htm, ha, haL, hBl⟩ := HI.out
                refine ⟨t + 1, g6, c6, by omega, ?_, rfl, ⟨brow_below H5.out.1 (H6b.out.mono (Nat.le_refl _)), ?_, H5.out.2.1.trans (H6b.out.mono H5.out.2.1.size), ?_⟩⟩
                · rw [show 136 * (t + 1) = a + 136 by omega]
                  congr 1
                  have hb9 := HBm.out.2.2.2.2.2
                  unfold wrap64
                  omega
                · show BRow _ _ _ (Sha.bys (perm (strOfNums (xbTo (abTo B 136 t) B (136 * t) 136))))
                  rw [HAe.out, ha, HSS.out.1]
                  exact brow_lower H6.out H5.out.2.1.size
                · have := (brow_lt H6.out).1
                  have := H5.out.2.2
                  omega
            | succ jj =>
              have hi2 : (i : Int) < 136 := by omega
              have hi3 : (i : Int) < 200 := by omega
              have hxl := xbTo_len A B a i
              rw [HA.out] at hxl
              have hal : (a : Int) + (i : Int) < (L : Int) := by have := HI.out.2.2.1; omega
              obtain ⟨x, hx⟩ : ∃ x, (xbTo A B a i).getD i 0 = x := ⟨_, rfl⟩
              obtain ⟨y, hy⟩ : ∃ y, B.getD (a + i) 0 = y := ⟨_, rfl⟩
              have c1 := (brow_at HU.out.2.1 i (by omega)).1
              have f1 := (brow_at HU.out.2.1 i (by omega)).2
              have c2 := (brow_at HU.out.1 (a + i) (by omega)).1
              rw [hx] at c1
              rw [hy] at c2
              have HJ := Aside0.mk (And.intro hik (And.intro hx hy))
              clear hik hx hy hxl
              go_wp2
              go_region
              go_wp2
              go_roundg jj
              case measure => omega
              case rel =>
                obtain ⟨hik, hx, hy⟩ := HJ.out
                obtain ⟨hs1, hs2⟩ := brow_set HU.out.2.1 i (Go.bits .xor .u8 x y)
                refine ⟨i + 1, by omega, by go_num, ⟨brow_far HU.out.1 HU.out.2.2.2.symm _, ?_, (HU.out.2.2.1.setCell hs2 _).drew, HU.out.2.2.2⟩⟩
                show BRow _ _ _ ((xbTo A B a i).set i (Go.bits .xor .u8 ((xbTo A B a i).getD i 0) (B.getD (a + i) 0)))
                rw [hx, hy]
                exact hs1
    | succ kk =>
      have hs9 := HS.out
      have hzr : z ≤ 136 := HZ.out.1
      have hne := HZ.out.2.2 i (by omega)
      have hi : ¬ (((s.size : Int) + 1 + (i : Int)) % 136 = 0) := by omega
      have HR := Aside0.mk HX.out.1
      have HB2 := Aside0.mk HX.out.2
      have HL2 : Aside0 ((padTo s fill i).length ≤ 1000000000000) := ⟨by rw [padTo_len]; omega⟩
      have hib : (i : Int) ≤ 136 := by omega
      have HI := Aside0.mk hik
      clear hik hne hzr
      go_wp2_with ((with_reducible refine gate_dst (N := 23) rfl ?_); refine wpList_append_byte rfl (.tmp 21) (.tmp 22) rfl (base := w.heap.size) (xs := padTo s fill i) (z := 0) (brow_below HR.out ((Below.refl _ _).alloc (Nat.le_refl _) _)) (by rw [sz_alloc]; have := HB2.out.size; omega) rfl rfl (by rw [cell_of_row _ _ _ _ _ _ (heap_alloc_last _ _)]; rfl) HL2.out ?_; intro v4 w4 hv4 hb4; have HR_ := Aside0.mk hv4; clear HR; have HR := HR_; clear HR_; have HB_ := Aside0.mk ((HB2.out.alloc HB2.out.size _).trans hb4); clear HB2; have HB2 := HB_; clear HB_ hv4 hb4; obtain ⟨g4, cap4, hg4⟩ := brow_form HR.out; subst hg4)
      go_roundg kk
      case measure => omega
      case rel =>
        refine ⟨i + 1, g4, cap4, by have := HI.out; omega, by rw [padTo_len]; rfl, ⟨?_, HB2.out⟩⟩
        have := HR.out
        rw [padTo_snoc, padTo_len] at this
        exact this
set_option maxHeartbeats 8000000 in
set_option maxRecDepth 100000 in
theorem absorbed168_calls (s : ByteArray) (fill : Int) (hs : s.size ≤ 1000000000) (w : World) : Calls Try.prog 39 #[.string s, .int .i64 168, .int .u8 fill] w fun e_ w' => e_ = .returned (.string (absorbed s fill 168)) ∧ Below w.heap.size w w' := by
  have HB := Aside0.mk (Below.refl w.heap.size w)
  have HS := Aside0.mk hs
  have HL : Aside0 ((Sha.bys s).length ≤ 1000000000000) := ⟨by rw [Sha.bys_len]; omega⟩
  have hmk : ∀ w : World, (Instr.makeSlice 37 (.int .i64 200) (.int .i64 200)).run Try.prog w = .ok (.slice (some ⟨w.heap.size, 0, none⟩) 200 200) (w.alloc (.cells (cells .u8 (List.replicate 200 0)) 5)) := fun _ => by kernel_rfl
  have HM := Aside0.mk hmk
  clear hs hmk
  go_enter Try.func39, Try.ntmps39
  go_wp2_with (first
    | ((with_reducible refine gate_dst (N := 12) rfl ?_); refine wpList_bytes rfl (.tmp 11) rfl (base := w.heap.size) (s := s) (Nat.le_refl _) rfl ?_; intro v3 w2 hv3 hb2; have HR := Aside0.mk hv3; have HB2 := Aside0.mk hb2; clear hv3 hb2; obtain ⟨g3, cap3, hg3⟩ : ∃ g cap, v3 = .slice (some ⟨g, 0, none⟩) s.size cap := (by obtain ⟨g, cap, _, _, h, _⟩ := HR.out; rw [Sha.bys_len] at h; exact ⟨g, cap, h⟩); subst hg3)
    | ((with_reducible refine gate_dst (N := 15) rfl ?_); refine wpList_append_byte rfl (.tmp 12) (.tmp 14) rfl (base := w.heap.size) (xs := Sha.bys s) (z := fill) (brow_below HR.out ((Below.refl _ _).alloc (Nat.le_refl _) _)) (by rw [sz_alloc]; have := HB2.out.size; omega) rfl rfl (by rw [cell_of_row _ _ _ _ _ _ (heap_alloc_last _ _)]; rfl) HL.out ?_; intro v4 w4 hv4 hb4; have HR_ := Aside0.mk hv4; clear HR; have HR := HR_; clear HR_; have HB_ := Aside0.mk ((HB2.out.alloc HB2.out.size _).trans hb4); clear HB2; have HB2 := HB_; clear HB_ hv4 hb4; obtain ⟨g4, cap4, hg4⟩ := brow_form HR.out; subst hg4))
  have hfl0 : Sha.bys s ++ [fill] = padTo s fill 0 := rfl
  obtain ⟨z, hz⟩ : ∃ z, padN (s.size + 1) 168 = z := ⟨_, rfl⟩
  have HZ0 := Aside0.mk hz
  have hz2 := hz
  unfold padN at hz2
  have hzs : z ≤ 168 ∧ (s.size + 1 + z) % 168 = 0 ∧ ∀ i, i < z → (s.size + 1 + i) % 168 ≠ 0 := ⟨by omega, by omega, fun i hi => by omega⟩
  have HZ := Aside0.mk hzs
  clear hz hz2 hzs
  rw [Sha.bys_len]
  go_loopg [7] (z) (fun k s7 wx => ∃ i g cap, i + k = z ∧ s7 = .slice (some ⟨g, 0, none⟩) (s.size + 1 + i) cap ∧ Aside0 (BRow w.heap.size wx (.slice (some ⟨g, 0, none⟩) (s.size + 1 + i) cap) (padTo s fill i) ∧ Below w.heap.size w wx))
  case atStart => exact ⟨0, g4, cap4, by omega, rfl, ⟨by have := HR.out; rw [hfl0, padTo_len] at this; exact this, HB2.out⟩⟩
  case round =>
    obtain ⟨i, g, cap, hik, rfl, HX⟩ := hrel
    clear HR HB2
    cases gk with
    | zero =>
      obtain rfl : z = i := by omega
      clear hik
      have hs9 := HS.out
      have hi : ((s.size : Int) + 1 + (z : Int)) % 168 = 0 := by have := HZ.out.2.1; omega
      have hzr : (z : Int) ≤ 168 := by have := HZ.out.1; omega
      obtain ⟨L, hL⟩ : ∃ L, s.size + 1 + z = L := ⟨_, rfl⟩
      have hLi : (s.size : Int) + 1 + (z : Int) = (L : Int) := by omega
      obtain ⟨P, hP⟩ : ∃ P, padTo s fill z = P := ⟨_, rfl⟩
      have hPl : P.length = L := by rw [← hP, padTo_len, hL]
      have hLR : L % 168 = 0 ∧ 0 < L ∧ L ≤ 1000000200 := by have := HZ.out.2.1; have := HZ.out.1; omega
      have HP := Aside0.mk (And.intro hP (And.intro hPl (And.intro hLR hL)))
      obtain ⟨q, hq⟩ : ∃ q, L - 1 = q := ⟨_, rfl⟩
      have hqi : (L : Int) - 1 = (q : Int) := by omega
      have hqL : (q : Int) < (L : Int) := by omega
      have hLb : (L : Int) ≤ 1000000200 := by omega
      obtain ⟨y, hy⟩ : ∃ y, P.getD q 0 = y := ⟨_, rfl⟩
      rw [hP, hL] at HX
      have hc := (brow_at HX.out.1 q (by omega)).1
      have hf := (brow_at HX.out.1 q (by omega)).2
      rw [hy] at hc
      have HQ := Aside0.mk (And.intro hq hy)
      rw [hLi] at hi
      rw [hL]
      clear hs9 hzr hLi hP hPl hLR hq hy hL
      obtain ⟨hs1, hs2⟩ := brow_set HX.out.1 q (Go.bits .xor .u8 y 128)
      have HE : Aside0 (P.set q (Go.bits .xor .u8 y 128) = padX s fill 168) := ⟨by
        obtain ⟨hP, hPl, _, hL⟩ := HP.out
        obtain ⟨hq, hy⟩ := HQ.out
        unfold padX
        rw [HZ0.out, hP]
        unfold lastX
        rw [hPl, hq, hy]⟩
      rw [HE.out] at hs1
      have HW : Aside0 (BRow w.heap.size (wr.setCell ⟨g, q, none⟩ (.int .u8 (Go.bits .xor .u8 y 128))) (.slice (some ⟨g, 0, none⟩) L cap) (padX s fill 168) ∧ Below w.heap.size w (wr.setCell ⟨g, q, none⟩ (.int .u8 (Go.bits .xor .u8 y 128)))) := ⟨hs1, HX.out.2.setCell hs2 _⟩
      have hmk := HM.out
      clear hs1 hs2
      go_wp2
      clear hmk hc hf hi hqi hqL
      refine wp_world (fun V hV => ?_)
      obtain ⟨H1, hH1⟩ : ∃ h, (wr.setCell ⟨g, q, none⟩ (.int .u8 (Go.bits .xor .u8 y 128))).heap.size = h := ⟨_, rfl⟩
      have hH1' : wr.heap.size = H1 := by rw [← hH1]; show _ = (wr.heap.modify _ _).size; rw [Array.size_modify]
      obtain ⟨B, hB⟩ : ∃ b, padX s fill 168 = b := ⟨_, rfl⟩
      have hBl : B.length = L := by rw [← hB, ← HE.out, List.length_set, HP.out.2.1]
      have HV : Aside0 (BRow w.heap.size V (.slice (some ⟨g, 0, none⟩) L cap) B ∧ BRow w.heap.size V (.slice (some ⟨H1, 0, none⟩) 200 200) (abTo B 168 0) ∧ Below w.heap.size w V ∧ H1 ≠ g) := ⟨by
        have hz1 := HW.out.2.size
        have hlt := (brow_lt HW.out.1).2
        rw [hH1] at hz1 hlt
        have hz0 := brow_zero (wr.setCell ⟨g, q, none⟩ (.int .u8 (Go.bits .xor .u8 y 128))) w.heap.size (by rw [hH1]; exact hz1) 200
        rw [hH1] at hz0
        rw [← hB, hV]
        exact ⟨brow_below HW.out.1 ((Below.refl _ _).alloc (Nat.le_refl _) _), hz0, HW.out.2.alloc (by rw [hH1]; exact hz1) _, by omega⟩⟩
      obtain ⟨m, hm⟩ : ∃ m, L / 168 = m := ⟨_, rfl⟩
      have HBm := Aside0.mk (And.intro hB (And.intro hBl (And.intro hm HP.out.2.2.1)))
      try rw [hH1']
      clear hV HW HE hH1 hH1' hB hBl hm HX HQ HP HZ HZ0 HL HM
      go_loopg [8, 9] m (fun k s8 s9 wx => ∃ t g8 c8, t + k = m ∧ s9 = .int .i64 ((168 * t : Nat) : Int) ∧ s8 = .slice (some ⟨g8, 0, none⟩) 200 c8 ∧ Aside0 (BRow w.heap.size wx (.slice (some ⟨g, 0, none⟩) L cap) B ∧ BRow w.heap.size wx (.slice (some ⟨g8, 0, none⟩) 200 c8) (abTo B 168 t) ∧ Below w.heap.size w wx ∧ g8 ≠ g))
      case atStart => exact ⟨0, H1, 200, by omega, rfl, rfl, HV⟩
      case round =>
        obtain ⟨t, g8, c8, htm, rfl, rfl, HY⟩ := hrel
        clear HV
        cases gk with
        | zero =>
          obtain rfl : t = m := by omega
          obtain ⟨hB, hBl, hm, hLR⟩ := HBm.out
          obtain ⟨a, ha⟩ : ∃ a, 168 * t = a := ⟨_, rfl⟩
          have hi : ¬ ((a : Int) < (L : Int)) := by omega
          have hcv := brow_string HY.out.2.1
          obtain ⟨R, hR⟩ : ∃ R, strOfNums (abTo B 168 t) = R := ⟨_, rfl⟩
          have HE : Aside0 (absorbed s fill 168 = R) := ⟨by
            unfold absorbed
            rw [hB, hBl, hm, hR]⟩
          rw [hR] at hcv
          rw [ha]
          clear htm hB hBl hm hLR ha hR
          go_wp2
          go_ret
          exact ⟨by rw [HE.out]; rfl, HY.out.2.2.1⟩
        | succ kk =>
          obtain ⟨hB, hBl, hm, hLR⟩ := HBm.out
          obtain ⟨a, ha⟩ : ∃ a, 168 * t = a := ⟨_, rfl⟩
          have hi : (a : Int) < (L : Int) := by omega
          have haL : a + 168 ≤ L := by omega
          have HI := Aside0.mk (And.intro htm (And.intro ha (And.intro haL hBl)))
          have HA := Aside0.mk (abTo_len B 168 t)
          obtain ⟨A, hA⟩ : ∃ A, abTo B 168 t = A := ⟨_, rfl⟩
          rw [hA] at HY HA
          have HAe := Aside0.mk hA
          rw [ha]
          clear htm ha hB hBl hm hLR hA haL
          go_wp2
          go_loopg [41] 168 (fun k s41 wx => ∃ i : Nat, i + k = 168 ∧ s41 = .int .i64 i ∧ Aside0 (BRow w.heap.size wx (.slice (some ⟨g, 0, none⟩) L cap) B ∧ BRow w.heap.size wx (.slice (some ⟨g8, 0, none⟩) 200 c8) (xbTo A B a i) ∧ Below w.heap.size w wx ∧ g8 ≠ g))
          case atStart => exact ⟨0, by omega, rfl, HY⟩
          case round =>
            obtain ⟨i, hik, rfl, HU⟩ := hrel
            clear HY
            cases gk with
            | zero =>
              obtain rfl : i = 168 := by omega
              clear hik
              have hcv := brow_string HU.out.2.1
              obtain ⟨S, hS⟩ : ∃ S, strOfNums (xbTo A B a 168) = S := ⟨_, rfl⟩
              rw [hS] at hcv
              have hSs : S.size = 200 := by rw [← hS, strOfNums_size, xbTo_len, HA.out]
              have HSS := Aside0.mk (And.intro hS hSs)
              clear hS hSs hi
              go_wp2_with (first
                | (go_at_call 12; refine (permute_calls S (by rw [HSS.out.2]; decide) _).mono ?_; rintro e_ w5 ⟨rfl, hb5⟩; have H5 : Aside0 (BRow w.heap.size w5 (.slice (some ⟨g, 0, none⟩) L cap) B ∧ Below w.heap.size w w5 ∧ g < w5.heap.size) := ⟨brow_below HU.out.1 hb5, HU.out.2.2.1.trans (hb5.mono HU.out.2.2.1.size), Nat.lt_of_lt_of_le (brow_lt HU.out.1).2 hb5.size⟩; clear hb5)
                | ((with_reducible refine gate_dst (N := 60) rfl ?_); refine wpList_bytes rfl (.tmp 59) rfl (base := w5.heap.size) (s := perm S) (Nat.le_refl _) rfl ?_; intro v6 w6 hv6 hb6; have H6 := Aside0.mk hv6; have H6b := Aside0.mk hb6; clear hv6 hb6; obtain ⟨g6, c6, hg6⟩ : ∃ g cap, v6 = .slice (some ⟨g, 0, none⟩) 200 cap := (by obtain ⟨g, cap, _, _, h, _⟩ := H6.out; rw [Sha.bys_len, perm_size, HSS.out.2] at h; exact ⟨g, cap, h⟩); subst hg6))
              go_roundg kk
              case measure => omega
              case rel =>
                obtain ⟨htm, ha, haL, hBl⟩ := HI.out
                refine ⟨t + 1, g6, c6, by omega, ?_, rfl, ⟨brow_below H5.out.1 (H6b.out.mono (Nat.le_refl _)), ?_, H5.out.2.1.trans (H6b.out.mono H5.out.2.1.size), ?_⟩⟩
                · rw [show 168 * (t + 1) = a + 168 by omega]
                  congr 1
                  have hb9 := HBm.out.2.2.2.2.2
                  unfold wrap64
                  omega
                · show BRow _ _ _ (Sha.bys (perm (strOfNums (xbTo (abTo B 168 t) B (168 * t) 168))))
                  rw [HAe.out, ha, HSS.out.1]
                  exact brow_lower H6.out H5.out.2.1.size
                · have := (brow_lt H6.out).1
                  have := H5.out.2.2
                  omega
            | succ jj =>
              have hi2 : (i : Int) < 168 := by omega
              have hi3 : (i : Int) < 200 := by omega
              have hxl := xbTo_len A B a i
              rw [HA.out] at hxl
              have hal : (a : Int) + (i : Int) < (L : Int) := by have := HI.out.2.2.1; omega
              obtain ⟨x, hx⟩ : ∃ x, (xbTo A B a i).getD i 0 = x := ⟨_, rfl⟩
              obtain ⟨y, hy⟩ : ∃ y, B.getD (a + i) 0 = y := ⟨_, rfl⟩
              have c1 := (brow_at HU.out.2.1 i (by omega)).1
              have f1 := (brow_at HU.out.2.1 i (by omega)).2
              have c2 := (brow_at HU.out.1 (a + i) (by omega)).1
              rw [hx] at c1
              rw [hy] at c2
              have HJ := Aside0.mk (And.intro hik (And.intro hx hy))
              clear hik hx hy hxl
              go_wp2
              go_region
              go_wp2
              go_roundg jj
              case measure => omega
              case rel =>
                obtain ⟨hik, hx, hy⟩ := HJ.out
                obtain ⟨hs1, hs2⟩ := brow_set HU.out.2.1 i (Go.bits .xor .u8 x y)
                refine ⟨i + 1, by omega, by go_num, ⟨brow_far HU.out.1 HU.out.2.2.2.symm _, ?_, (HU.out.2.2.1.setCell hs2 _).drew, HU.out.2.2.2⟩⟩
                show BRow _ _ _ ((xbTo A B a i).set i (Go.bits .xor .u8 ((xbTo A B a i).getD i 0) (B.getD (a + i) 0)))
                rw [hx, hy]
                exact hs1
    | succ kk =>
      have hs9 := HS.out
      have hzr : z ≤ 168 := HZ.out.1
      have hne := HZ.out.2.2 i (by omega)
      have hi : ¬ (((s.size : Int) + 1 + (i : Int)) % 168 = 0) := by omega
      have HR := Aside0.mk HX.out.1
      have HB2 := Aside0.mk HX.out.2
      have HL2 : Aside0 ((padTo s fill i).length ≤ 1000000000000) := ⟨by rw [padTo_len]; omega⟩
      have hib : (i : Int) ≤ 168 := by omega
      have HI := Aside0.mk hik
      clear hik hne hzr
      go_wp2_with ((with_reducible refine gate_dst (N := 23) rfl ?_); refine wpList_append_byte rfl (.tmp 21) (.tmp 22) rfl (base := w.heap.size) (xs := padTo s fill i) (z := 0) (brow_below HR.out ((Below.refl _ _).alloc (Nat.le_refl _) _)) (by rw [sz_alloc]; have := HB2.out.size; omega) rfl rfl (by rw [cell_of_row _ _ _ _ _ _ (heap_alloc_last _ _)]; rfl) HL2.out ?_; intro v4 w4 hv4 hb4; have HR_ := Aside0.mk hv4; clear HR; have HR := HR_; clear HR_; have HB_ := Aside0.mk ((HB2.out.alloc HB2.out.size _).trans hb4); clear HB2; have HB2 := HB_; clear HB_ hv4 hb4; obtain ⟨g4, cap4, hg4⟩ := brow_form HR.out; subst hg4)
      go_roundg kk
      case measure => omega
      case rel =>
        refine ⟨i + 1, g4, cap4, by have := HI.out; omega, by rw [padTo_len]; rfl, ⟨?_, HB2.out⟩⟩
        have := HR.out
        rw [padTo_snoc, padTo_len] at this
        exact this
end Go.Proofs.Ytmocccmffmacdaa.Kec
namespace Go.Proofs.Ytmocccmffmacdaa.Kec
open Go.RowKit Go.Proofs.YtmocccmffmacdaaW.PrintWords Go.Proofs.YtmocccmffmacdaaW.PrintLast Go.Proofs.YtmocccmffmacdaaW.PrintMore Go.Proofs.Ytmocccmffmacdaa.Sha Go.Proofs.Ytmocccmffmacdaa.PPermute
set_option linter.unusedVariables false
set_option linter.unusedSimpArgs false
/-- A row of lanes in block g. -/
abbrev LRow (w : World) (g cap : Nat) (l : List Int) : Prop := Kd.R (Kd.int .u64) 47 w 0 (fun k => k = g) (.slice (some ⟨g, 0, none⟩) l.length cap) l
theorem lrow_of_R {w : World} {base c : Nat} {ok : Nat → Prop} {A : Option Addr} {l : List Int} (h : Kd.R (Kd.int .u64) 47 w base ok (.slice A l.length c) l) (hl : 0 < l.length) : ∃ g, A = some ⟨g, 0, none⟩ ∧ LRow w g c l ∧ base ≤ g ∧ g < w.heap.size := by
  obtain ⟨inner, ho⟩ := Kd.R_own h
  rcases ho.2 with ⟨hv, hn⟩ | ⟨g, cap, cur, hv, hb, hh, _⟩
  · omega
  · injection hv with ha hn hc
    subst ha
    have ht := Kd.R_tight rfl h
    exact ⟨g, rfl, Kd.R_lower (Kd.R_mono ht (fun k hk => by simpa [Value.ownBlock] using hk)) (Nat.zero_le _), hb, (Array.getElem?_eq_some_iff.1 hh).1⟩
theorem lrow_put {w : World} {g cap : Nat} {l : List Int} (h : LRow w g cap l) (i : Nat) (z : Int) : LRow (w.setCell ⟨g, i, none⟩ (.int .u64 z)) g cap (l.set i z) := by
  have := (Kd.R_put (enc := Value.int .u64) (h1 := fun _ => rfl) h (i : Int) z).1
  rw [Int.toNat_natCast] at this
  unfold LRow
  rw [List.length_set]
  exact this
theorem lrow_cell {w : World} {g cap : Nat} {l : List Int} (h : LRow w g cap l) (i : Nat) (hi : i < l.length) : w.cell? ⟨g, i, none⟩ = some (.int .u64 (Kec.g l i)) ∧ w.frozen? ⟨g, i, none⟩ = false := by
  have := Kd.R_cell (enc := Value.int .u64) (h1 := fun _ => rfl) (0 : Int) h (i : Int) (by omega) (by omega)
  rw [Int.toNat_natCast] at this
  refine ⟨this.1.trans ?_, this.2⟩
  unfold rdOf Kec.g
  rw [Int.toNat_natCast]
theorem lrow_far {w : World} {g g' cap i : Nat} {l : List Int} (h : LRow w g cap l) (hne : g ≠ g') (v : Value) : LRow (w.setCell ⟨g', i, none⟩ v) g cap l := Kd.R_far h (fun k hk => by rw [hk]; exact hne) v
theorem lrow_zero (w : World) (n : Nat) (hn : n ≤ 1000) : LRow (w.alloc (.cells (cells .u64 (List.replicate n 0)) 47)) w.heap.size n (List.replicate n 0) := by
  refine ⟨fun k hk => by simpa [Value.ownBlock] using hk.symm, (List.replicate n (0 : Int)).map (Value.int .u64), ⟨by rw [List.length_map, List.length_replicate]; show n = n * 1; omega, .inr ⟨w.heap.size, n, cells .u64 (List.replicate n 0), by rw [List.length_replicate], Nat.zero_le _, heap_alloc_last _ _, by rw [List.length_replicate]; exact Nat.le_refl _, by unfold maxLen; omega, by rw [size_cells, List.length_replicate]; show n = n * 1; omega, ?_⟩⟩, by rw [List.length_map]; show _ = _ * 1; omega, fun j p hj => ?_⟩
  · rw [List.length_replicate]
    show List.take (n * 1) _ = _
    unfold cells
    simp
  · show List.take 1 (List.drop (j * 1) _) = [Value.int .u64 p]
    obtain ⟨hj1, hj2⟩ := List.getElem?_eq_some_iff.1 hj
    rw [Nat.mul_one, List.drop_eq_getElem_cons (by rw [List.length_map]; exact hj1), List.getElem_map, hj2]
    rfl
theorem brow_convN {base : Nat} {w : World} {g L cap a n c : Nat} {T : List Int} (h : BRow base w (.slice (some ⟨g, 0, none⟩) L cap) T) (ha : a + n ≤ L) : (convert 37 9 (.slice (some ⟨g, a, none⟩) n c)).run Try.prog w = .ok (.string ((strOfNums T).extract a (a + n))) w := by
  obtain ⟨hL, hc⟩ := brow_cell h
  rw [← str_take]
  refine run_convert_bytes_arg w 37 5 Try.underlying37 Try.underlying5 g a n c ((T.drop a).take n) (by rw [List.length_take, List.length_drop]; omega) (fun i hi => ?_) 9 Try.underlying9
  refine hc (a + i) _ ?_
  unfold u8s
  rw [List.getElem?_map, List.getD_eq_getElem?_getD, List.getElem?_take, if_pos hi, List.getElem?_drop, List.getElem?_eq_getElem (by omega)]
  rfl
def xlTo (L b : List Int) : Nat → List Int
  | 0 => L
  | i + 1 => (xlTo L b i).set i (xr (Kec.g (xlTo L b i) i) (Kec.g b i))
theorem ln_rg (s : ByteArray) (i : Nat) : Rg (ln s i) := by
  rw [ln_pl]
  exact rg_nat (pl_lt s i 8)
theorem lns_rg (s : ByteArray) (m i : Nat) : Rg (Kec.g (lns s m) i) := by
  unfold Kec.g
  by_cases h : i < m
  · rw [lns_get s m i h]; exact ln_rg s i
  · rw [List.getD_eq_getElem?_getD, List.getElem?_eq_none (by rw [lns_len]; omega)]; exact rg_zero
theorem xlTo_lanes {L b : List Int} (hL : Lanes L) (hb : ∀ i, Rg (Kec.g b i)) : ∀ i, Lanes (xlTo L b i)
  | 0 => hL
  | i + 1 => ⟨by show (List.set _ _ _).length = 25; rw [List.length_set]; exact (xlTo_lanes hL hb i).1, fun k => rg_getD_set (xlTo_lanes hL hb i).2 (xr_rg ((xlTo_lanes hL hb i).2 i) (hb i)) i k⟩
/-- the lanes behind k blocks -/
def sabTo (T : ByteArray) (r : Nat) : Nat → List Int
  | 0 => zero25
  | k + 1 => kcTo (xlTo (sabTo T r k) (lns (T.extract (r * k) (r * k + r)) (r / 8)) (r / 8)) 24
theorem zero25_lanes : Lanes zero25 := ⟨rfl, fun i => by
  by_cases h : i < 25
  · have : ∀ k, k < 25 → 0 ≤ zero25.getD k 0 ∧ zero25.getD k 0 < 18446744073709551616 := by decide
    exact this i h
  · rw [List.getD_eq_getElem?_getD, List.getElem?_eq_none (by show 25 ≤ i; omega)]; exact rg_zero⟩
theorem sabTo_lanes (T : ByteArray) (r : Nat) : ∀ k, Lanes (sabTo T r k)
  | 0 => zero25_lanes
  | k + 1 => kcTo_lanes (xlTo_lanes (sabTo_lanes T r k) (lns_rg _ _) _) 24
def specAbsorbed (s : ByteArray) (fill : Int) (r : Nat) : ByteArray := stx (sabTo (strOfNums (padX s fill r)) r ((padX s fill r).length / r))
theorem lrow_C {w : World} {g cap : Nat} {l : List Int} (h : LRow w g cap l) : Kd.C (Kd.int .u64) w (some ⟨g, 0, none⟩) l.length l ∧ l.length ≤ cap := ⟨(Kd.R_reads' h).2.2, (Kd.R_reads' h).2.1⟩
/-- the document's state row lies where it was made -/
abbrev HeldL (w W : World) : Prop := Below w.heap.size w W ∧ LRow W w.heap.size 25 zero25 ∧ w.heap.size + 1 ≤ W.heap.size
theorem heldL_step {w W W2 : World} {o : Obj} {b : Nat} (h : HeldL w W) (hb : Below b (W.alloc o) W2) (hbb : w.heap.size + 1 ≤ b) : HeldL w W2 := by
  have h1 := h.2.2
  have h2 : Below w.heap.size w (W.alloc o) := h.1.alloc (by omega) _
  refine ⟨h2.trans (hb.mono (by omega)), ?_, by have := hb.size; rw [sz_alloc] at this; omega⟩
  have h3 : LRow (W.alloc o) w.heap.size 25 zero25 := Kd.R_alloc h.2.1 o
  exact Kd.R_step h3 (fun k hk _ => hb.block k (by omega))
theorem bytes_calls (l : List Int) (hL : Lanes l) (A : Option Addr) (c : Nat) (w : World) (hr : Kd.C (Kd.int .u64) w A l.length l) (hc : l.length ≤ c) : Calls Try.prog 30 #[.slice A 25 c] w fun e w' => e = .returned (.string (stx l)) ∧ Below w.heap.size w w' := by
  have := spec_l07Bytes.calls 300 A c l (stx l) w hr hc (bytes_f l hL 300 (by decide))
  rw [hL.1] at this
  exact this
theorem specPerm25_calls (l : List Int) (hL : Lanes l) (g c : Nat) (w : World) (hr : LRow w g c l) : Calls Try.prog 31 #[.slice (some ⟨g, 0, none⟩) 25 c] w fun e_ w' => ∃ v : Value, e_ = .returned v ∧ Kd.R (Kd.int .u64) 47 w' w.heap.size (fun _ => True) v (kcTo l 24) ∧ Below w.heap.size w w' := by
  have := specPerm_calls (some ⟨g, 0, none⟩) c l hL w (lrow_C hr).1 (lrow_C hr).2
  rw [hL.1] at this
  exact this
set_option maxHeartbeats 8000000 in
set_option maxRecDepth 100000 in
theorem specAbsorb136_calls (s : ByteArray) (fill : Int) (hs : s.size ≤ 1000000000) (w : World) : Calls Try.prog 38 #[.string s, .int .i64 136, .int .u8 fill] w fun e_ w' => e_ = .returned (.string (specAbsorbed s fill 136)) ∧ Below w.heap.size w w' := by
  have HB := Aside0.mk (Below.refl w.heap.size w)
  have HS := Aside0.mk hs
  have HL : Aside0 ((Sha.bys s).length ≤ 1000000000000) := ⟨by rw [Sha.bys_len]; omega⟩
  have hmk : ∀ w : World, (Instr.makeSlice 44 (.int .i64 25) (.int .i64 25)).run Try.prog w = .ok (.slice (some ⟨w.heap.size, 0, none⟩) 25 25) (w.alloc (.cells (cells .u64 zero25) 47)) := fun _ => by kernel_rfl
  have HS0 : Aside0 (LRow (w.alloc (.cells (cells .u64 zero25) 47)) w.heap.size 25 zero25) := ⟨lrow_zero w 25 (by decide)⟩
  have HB0 := Aside0.mk (HB.out.alloc (Nat.le_refl _) (.cells (cells .u64 zero25) 47))
  clear hs
  go_enter Try.func38, Try.ntmps38
  go_wp2_with (first
    | ((with_reducible refine gate_dst (N := 14) rfl ?_); refine wpList_bytes rfl (.tmp 13) rfl (base := w.heap.size + 1) (s := s) (by rw [sz_alloc]; exact Nat.le_refl _) rfl ?_; intro v3 w2 hv3 hb2; have HR := Aside0.mk hv3; have HB2 := Aside0.mk (And.intro (HB0.out.trans (hb2.mono (by rw [sz_alloc]; omega))) (And.intro (Kd.R_below HS0.out hb2) (by have := hb2.size; rw [sz_alloc] at this; exact this : w.heap.size + 1 ≤ w2.heap.size))); clear hv3 hb2; obtain ⟨g3, cap3, hg3⟩ : ∃ g cap, v3 = .slice (some ⟨g, 0, none⟩) s.size cap := (by obtain ⟨g, cap, _, _, h, _⟩ := HR.out; rw [Sha.bys_len] at h; exact ⟨g, cap, h⟩); subst hg3)
    | ((with_reducible refine gate_dst (N := 17) rfl ?_); refine wpList_append_byte rfl (.tmp 14) (.tmp 16) rfl (base := w.heap.size + 1) (xs := Sha.bys s) (z := fill) (brow_below HR.out ((Below.refl _ _).alloc (Nat.le_refl _) _)) (by rw [sz_alloc]; have := HB2.out.2.2; omega) rfl rfl (by rw [cell_of_row _ _ _ _ _ _ (heap_alloc_last _ _)]; rfl) HL.out ?_; intro v4 w4 hv4 hb4; have HR_ := Aside0.mk hv4; clear HR; have HR := HR_; clear HR_; have HB_ := Aside0.mk (heldL_step HB2.out hb4 (Nat.le_refl _)); clear HB2; have HB2 := HB_; clear HB_ hv4 hb4; obtain ⟨g4, cap4, hg4⟩ := brow_form HR.out; subst hg4))
  have hfl0 : Sha.bys s ++ [fill] = padTo s fill 0 := rfl
  obtain ⟨z, hz⟩ : ∃ z, padN (s.size + 1) 136 = z := ⟨_, rfl⟩
  have HZ0 := Aside0.mk hz
  have hz2 := hz
  unfold padN at hz2
  have hzs : z ≤ 136 ∧ (s.size + 1 + z) % 136 = 0 ∧ ∀ i, i < z → (s.size + 1 + i) % 136 ≠ 0 := ⟨by omega, by omega, fun i hi => by omega⟩
  have HZ := Aside0.mk hzs
  clear hz hz2 hzs
  rw [Sha.bys_len]
  go_loopg [8] (z) (fun k s7 wx => ∃ i g cap, i + k = z ∧ s7 = .slice (some ⟨g, 0, none⟩) (s.size + 1 + i) cap ∧ Aside0 (BRow (w.heap.size + 1) wx (.slice (some ⟨g, 0, none⟩) (s.size + 1 + i) cap) (padTo s fill i) ∧ HeldL w wx))
  case atStart => exact ⟨0, g4, cap4, by omega, rfl, ⟨by have := HR.out; rw [hfl0, padTo_len] at this; exact this, HB2.out⟩⟩
  case round =>
    obtain ⟨i, g, cap, hik, rfl, HX⟩ := hrel
    clear HR HB2
    cases gk with
    | zero =>
      obtain rfl : z = i := by omega
      clear hik
      have hs9 := HS.out
      have hi : ((s.size : Int) + 1 + (z : Int)) % 136 = 0 := by have := HZ.out.2.1; omega
      have hzr : (z : Int) ≤ 136 := by have := HZ.out.1; omega
      obtain ⟨L, hL⟩ : ∃ L, s.size + 1 + z = L := ⟨_, rfl⟩
      have hLi : (s.size : Int) + 1 + (z : Int) = (L : Int) := by omega
      obtain ⟨P, hP⟩ : ∃ P, padTo s fill z = P := ⟨_, rfl⟩
      have hPl : P.length = L := by rw [← hP, padTo_len, hL]
      have hLR : L % 136 = 0 ∧ 0 < L ∧ L ≤ 1000000200 := by have := HZ.out.2.1; have := HZ.out.1; omega
      have HP := Aside0.mk (And.intro hP (And.intro hPl (And.intro hLR hL)))
      obtain ⟨q, hq⟩ : ∃ q, L - 1 = q := ⟨_, rfl⟩
      have hqi : (L : Int) - 1 = (q : Int) := by omega
      have hqL : (q : Int) < (L : Int) := by omega
      have hLb : (L : Int) ≤ 1000000200 := by omega
      obtain ⟨y, hy⟩ : ∃ y, P.getD q 0 = y := ⟨_, rfl⟩
      rw [hP, hL] at HX
      have hc := (brow_at HX.out.1 q (by omega)).1
      have hf := (brow_at HX.out.1 q (by omega)).2
      rw [hy] at hc
      have HQ := Aside0.mk (And.intro hq hy)
      rw [hLi] at hi
      rw [hL]
      clear hs9 hzr hLi hP hPl hLR hq hy hL
      obtain ⟨hs1, hs2⟩ := brow_set HX.out.1 q (Go.bits .xor .u8 y 128)
      have HE : Aside0 (P.set q (Go.bits .xor .u8 y 128) = padX s fill 136) := ⟨by
        obtain ⟨hP, hPl, _, hL⟩ := HP.out
        obtain ⟨hq, hy⟩ := HQ.out
        unfold padX
        rw [HZ0.out, hP]
        unfold lastX
        rw [hPl, hq, hy]⟩
      rw [HE.out] at hs1
      have HW : Aside0 (BRow (w.heap.size + 1) (wr.setCell ⟨g, q, none⟩ (.int .u8 (Go.bits .xor .u8 y 128))) (.slice (some ⟨g, 0, none⟩) L cap) (padX s fill 136) ∧ Below w.heap.size w (wr.setCell ⟨g, q, none⟩ (.int .u8 (Go.bits .xor .u8 y 128))) ∧ LRow (wr.setCell ⟨g, q, none⟩ (.int .u8 (Go.bits .xor .u8 y 128))) w.heap.size 25 zero25) := ⟨hs1, HX.out.2.1.setCell (show w.heap.size ≤ g from Nat.le_of_succ_le hs2) _, lrow_far HX.out.2.2.1 (by have : w.heap.size + 1 ≤ g := hs2; omega) _⟩
      clear hs1 hs2
      go_wp2
      clear hc hf hi hqi hqL
      refine wp_world (fun V hV => ?_)
      obtain ⟨B, hB⟩ : ∃ b, padX s fill 136 = b := ⟨_, rfl⟩
      have hBl : B.length = L := by rw [← hB, ← HE.out, List.length_set, HP.out.2.1]
      have hcc : L ≤ cap := brow_cap HX.out.1
      have HV : Aside0 (BRow (w.heap.size + 1) V (.slice (some ⟨g, 0, none⟩) L cap) B ∧ LRow V w.heap.size 25 (sabTo (strOfNums B) 136 0) ∧ Below w.heap.size w V) := ⟨by
        rw [← hB, hV]
        exact ⟨HW.out.1, HW.out.2.2, HW.out.2.1⟩⟩
      obtain ⟨m, hm⟩ : ∃ m, L / 136 = m := ⟨_, rfl⟩
      have HBm := Aside0.mk (And.intro hB (And.intro hBl (And.intro hm (And.intro HP.out.2.2.1 hcc))))
      clear hV HW HE hB hBl hm hcc HX HQ HP HZ HZ0 HL HS0 HB0
      go_loopg [7, 9] m (fun k s7 s9 wx => ∃ t gs cs, t + k = m ∧ s9 = .int .i64 ((136 * t : Nat) : Int) ∧ s7 = .slice (some ⟨gs, 0, none⟩) 25 cs ∧ Aside0 (BRow (w.heap.size + 1) wx (.slice (some ⟨g, 0, none⟩) L cap) B ∧ LRow wx gs cs (sabTo (strOfNums B) 136 t) ∧ Below w.heap.size w wx ∧ w.heap.size ≤ gs ∧ gs < wx.heap.size) ∧ Aside0 (g ≠ gs))
      case atStart => exact ⟨0, w.heap.size, 25, by omega, rfl, rfl, ⟨HV.out.1, HV.out.2.1, HV.out.2.2, Nat.le_refl _, by have := (brow_lt HV.out.1); omega⟩, ⟨by have := (brow_lt HV.out.1).1; omega⟩⟩
      case round =>
        obtain ⟨t, gs, cs, htm, rfl, rfl, HY, HGne⟩ := hrel
        clear HV
        have HK := Aside0.mk (sabTo_lanes (strOfNums B) 136 t)
        cases gk with
        | zero =>
          obtain rfl : t = m := by omega
          obtain ⟨hB, hBl, hm, hLR, hcc⟩ := HBm.out
          obtain ⟨a, ha⟩ : ∃ a, 136 * t = a := ⟨_, rfl⟩
          have hi : ¬ ((a : Int) < (L : Int)) := by omega
          have HE : Aside0 (specAbsorbed s fill 136 = stx (sabTo (strOfNums B) 136 t)) := ⟨by
            unfold specAbsorbed
            rw [hB, hBl, hm]⟩
          have HBy := Aside0.mk (bytes_calls (sabTo (strOfNums B) 136 t) HK.out)
          rw [ha]
          clear htm hB hBl hm hLR ha hcc
          go_wp2_with (go_at_call 30; refine (HBy.out (some ⟨gs, 0, none⟩) cs _ (lrow_C HY.out.2.1).1 (lrow_C HY.out.2.1).2).mono ?_; rintro e_ w8 ⟨rfl, hb8⟩; have HB8 := Aside0.mk hb8; clear hb8)
          go_ret
          exact ⟨by rw [HE.out]; rfl, HY.out.2.2.1.trans (HB8.out.mono HY.out.2.2.1.size)⟩
        | succ kk =>
          obtain ⟨hB, hBl, hm, hLR, hcc⟩ := HBm.out
          obtain ⟨a, ha⟩ : ∃ a, 136 * t = a := ⟨_, rfl⟩
          have hi : (a : Int) < (L : Int) := by omega
          have haL : a + 136 ≤ L := by omega
          have hi2 : (a : Int) + 136 ≤ (cap : Int) := by omega
          have hi3 : (a : Int) ≤ 1000000200 := by omega
          obtain ⟨blk, hblk⟩ : ∃ b, (strOfNums B).extract a (a + 136) = b := ⟨_, rfl⟩
          have hcv := brow_convN (n := 136) (c := cap - a) HY.out.1 haL
          rw [hblk] at hcv
          have hbs : blk.size = 136 := by rw [← hblk, ByteArray.size_extract, strOfNums_size, hBl]; omega
          have HLn := Aside0.mk (lanes_f blk 17 300 (by omega) (by omega) (by decide))
          have HI := Aside0.mk (And.intro htm (And.intro ha (And.intro hblk (And.intro hbs hLR.2.2))))
          obtain ⟨A, hA⟩ : ∃ A, sabTo (strOfNums B) 136 t = A := ⟨_, rfl⟩
          rw [hA] at HY HK
          have HAe := Aside0.mk hA
          rw [ha]
          clear htm ha hB hBl hm hLR hA haL hblk hbs hcc
          go_wp2_with (go_at_call 32; refine (spec_l07Lanes.calls 300 blk _ _ HLn.out).mono ?_; rintro e_ w5 ⟨v5, rfl, ho5, hb5⟩; have H5 := Aside0.mk ho5; have HY5 : Aside0 (BRow (w.heap.size + 1) w5 (.slice (some ⟨g, 0, none⟩) L cap) B ∧ LRow w5 gs cs A ∧ Below w.heap.size w w5 ∧ w.heap.size ≤ gs ∧ gs < w5.heap.size) := ⟨brow_below HY.out.1 hb5, Kd.R_below HY.out.2.1 hb5, HY.out.2.2.1.trans (hb5.mono HY.out.2.2.1.size), HY.out.2.2.2.1, Nat.lt_of_lt_of_le HY.out.2.2.2.2 hb5.size⟩; clear ho5 hb5)
          obtain ⟨A5, c5, hv5⟩ := Kd.R_slice H5.out
          subst hv5
          obtain ⟨gl, rfl, hl5, hgl, hgl2⟩ := lrow_of_R H5.out (by rw [lns_len]; decide)
          have hgne : gl ≠ gs := by have := HY.out.2.2.2.2; omega
          rw [lns_len]
          have HU0 := Aside0.mk (And.intro hl5 hgne)
          clear H5 hl5 hgl hgl2 hgne HY hcv hi hi2
          go_loopg [11] 17 (fun k s11 wx => ∃ i : Nat, i + k = 17 ∧ s11 = .int .i64 i ∧ Aside0 (BRow (w.heap.size + 1) wx (.slice (some ⟨g, 0, none⟩) L cap) B ∧ LRow wx gs cs (xlTo A (lns blk 17) i) ∧ LRow wx gl c5 (lns blk 17) ∧ Below w.heap.size w wx ∧ gs < wx.heap.size))
          case atStart => exact ⟨0, by omega, rfl, ⟨HY5.out.1, HY5.out.2.1, HU0.out.1, HY5.out.2.2.1, HY5.out.2.2.2.2⟩⟩
          case round =>
            obtain ⟨i, hik, rfl, HU⟩ := hrel
            have HXL := Aside0.mk (xlTo_lanes HK.out (lns_rg blk 17) i)
            cases gk with
            | zero =>
              obtain rfl : i = 17 := by omega
              clear hik
              have hge : w.heap.size ≤ gs := HY5.out.2.2.2.1
              have HG := Aside0.mk hge
              clear hge HY5
              obtain ⟨X, hX⟩ : ∃ X, xlTo A (lns blk 17) 17 = X := ⟨_, rfl⟩
              rw [hX] at HU HXL
              have HP := Aside0.mk (specPerm25_calls X HXL.out)
              have HXe := Aside0.mk hX
              clear hX
              go_wp2_with (go_at_call 31; refine (HP.out gs cs _ HU.out.2.1).mono ?_; rintro e_ w7 ⟨v7, rfl, ho7, hb7⟩; have H7 := Aside0.mk ho7; have H7b := Aside0.mk hb7; clear ho7 hb7)
              obtain ⟨A7, c7, hv7⟩ := Kd.R_slice H7.out
              subst hv7
              obtain ⟨g7, rfl, hl7, hg7, hg72⟩ := lrow_of_R H7.out (by rw [(kcTo_lanes HXL.out 24).1]; decide)
              have HL7 := Aside0.mk (And.intro hl7 (And.intro hg7 hg72))
              clear hl7 hg7 hg72
              go_roundg kk
              case measure => omega
              case rel =>
                obtain ⟨htm, ha, hblk, hbs, hL9⟩ := HI.out
                refine ⟨t + 1, g7, c7, by omega, ?_, by rw [(kcTo_lanes HXL.out 24).1], ⟨brow_below HU.out.1 H7b.out, ?_, HU.out.2.2.2.1.trans (H7b.out.mono HU.out.2.2.2.1.size), Nat.le_trans HU.out.2.2.2.1.size HL7.out.2.1, HL7.out.2.2⟩, ⟨by have := (brow_lt HU.out.1).2; have := HL7.out.2.1; omega⟩⟩
                · rw [show 136 * (t + 1) = a + 136 by omega]
                  first | (congr 1; done) | (congr 1; unfold wrap64; omega)
                · show LRow _ _ _ (kcTo (xlTo (sabTo (strOfNums B) 136 t) (lns ((strOfNums B).extract (136 * t) (136 * t + 136)) (136 / 8)) (136 / 8)) 24)
                  rw [HAe.out, ha, hblk]
                  show LRow _ _ _ (kcTo (xlTo A (lns blk 17) 17) 24)
                  rw [HXe.out]
                  exact HL7.out.1
            | succ jj =>
              have hi8 : (i : Int) < 17 := by omega
              have hi9 : (i : Int) < 25 := by omega
              obtain ⟨x, hx⟩ : ∃ x, Kec.g (xlTo A (lns blk 17) i) i = x := ⟨_, rfl⟩
              obtain ⟨y, hy⟩ : ∃ y, Kec.g (lns blk 17) i = y := ⟨_, rfl⟩
              obtain ⟨c1, f1⟩ := lrow_cell HU.out.2.1 i (by rw [HXL.out.1]; omega)
              obtain ⟨c2, f2⟩ := lrow_cell HU.out.2.2.1 i (by rw [lns_len]; omega)
              rw [hx] at c1
              rw [hy] at c2
              have HJ := Aside0.mk (And.intro hik (And.intro hx hy))
              clear hik hx hy
              go_wp2
              go_region
              go_wp2
              go_roundg jj
              case measure => omega
              case rel =>
                obtain ⟨hik, hx, hy⟩ := HJ.out
                have hne : g ≠ gs := HGne.out
                refine ⟨i + 1, by omega, by go_num, ⟨brow_far HU.out.1 hne _, ?_, lrow_far HU.out.2.2.1 HU0.out.2 _, (HU.out.2.2.2.1.setCell HY5.out.2.2.2.1 _).drew, by show _ < (World.setCell _ _ _).heap.size; show _ < (Array.modify _ _ _).size; rw [Array.size_modify]; exact HU.out.2.2.2.2⟩⟩
                show LRow _ _ _ ((xlTo A (lns blk 17) i).set i (xr (Kec.g (xlTo A (lns blk 17) i) i) (Kec.g (lns blk 17) i)))
                rw [hx, hy]
                exact lrow_put HU.out.2.1 i _
    | succ kk =>
      have hs9 := HS.out
      have hzr : z ≤ 136 := HZ.out.1
      have hne := HZ.out.2.2 i (by omega)
      have hi : ¬ (((s.size : Int) + 1 + (i : Int)) % 136 = 0) := by omega
      have HR := Aside0.mk HX.out.1
      have HB2 := Aside0.mk HX.out.2
      have HL2 : Aside0 ((padTo s fill i).length ≤ 1000000000000) := ⟨by rw [padTo_len]; omega⟩
      have hib : (i : Int) ≤ 136 := by omega
      have HI := Aside0.mk hik
      clear hik hne hzr
      go_wp2_with ((with_reducible refine gate_dst (N := 25) rfl ?_); refine wpList_append_byte rfl (.tmp 23) (.tmp 24) rfl (base := w.heap.size + 1) (xs := padTo s fill i) (z := 0) (brow_below HR.out ((Below.refl _ _).alloc (Nat.le_refl _) _)) (by rw [sz_alloc]; have := HB2.out.2.2; omega) rfl rfl (by rw [cell_of_row _ _ _ _ _ _ (heap_alloc_last _ _)]; rfl) HL2.out ?_; intro v4 w4 hv4 hb4; have HR_ := Aside0.mk hv4; clear HR; have HR := HR_; clear HR_; have HB_ := Aside0.mk (heldL_step HB2.out hb4 (Nat.le_refl _)); clear HB2; have HB2 := HB_; clear HB_ hv4 hb4; obtain ⟨g4, cap4, hg4⟩ := brow_form HR.out; subst hg4)
      go_roundg kk
      case measure => omega
      case rel =>
        refine ⟨i + 1, g4, cap4, by have := HI.out; omega, by rw [padTo_len]; rfl, ⟨?_, HB2.out⟩⟩
        have := HR.out
        rw [padTo_snoc, padTo_len] at this
        exact this
set_option maxHeartbeats 8000000 in
set_option maxRecDepth 100000 in
theorem specAbsorb168_calls (s : ByteArray) (fill : Int) (hs : s.size ≤ 1000000000) (w : World) : Calls Try.prog 38 #[.string s, .int .i64 168, .int .u8 fill] w fun e_ w' => e_ = .returned (.string (specAbsorbed s fill 168)) ∧ Below w.heap.size w w' := by
  have HB := Aside0.mk (Below.refl w.heap.size w)
  have HS := Aside0.mk hs
  have HL : Aside0 ((Sha.bys s).length ≤ 1000000000000) := ⟨by rw [Sha.bys_len]; omega⟩
  have hmk : ∀ w : World, (Instr.makeSlice 44 (.int .i64 25) (.int .i64 25)).run Try.prog w = .ok (.slice (some ⟨w.heap.size, 0, none⟩) 25 25) (w.alloc (.cells (cells .u64 zero25) 47)) := fun _ => by kernel_rfl
  have HS0 : Aside0 (LRow (w.alloc (.cells (cells .u64 zero25) 47)) w.heap.size 25 zero25) := ⟨lrow_zero w 25 (by decide)⟩
  have HB0 := Aside0.mk (HB.out.alloc (Nat.le_refl _) (.cells (cells .u64 zero25) 47))
  clear hs
  go_enter Try.func38, Try.ntmps38
  go_wp2_with (first
    | ((with_reducible refine gate_dst (N := 14) rfl ?_); refine wpList_bytes rfl (.tmp 13) rfl (base := w.heap.size + 1) (s := s) (by rw [sz_alloc]; exact Nat.le_refl _) rfl ?_; intro v3 w2 hv3 hb2; have HR := Aside0.mk hv3; have HB2 := Aside0.mk (And.intro (HB0.out.trans (hb2.mono (by rw [sz_alloc]; omega))) (And.intro (Kd.R_below HS0.out hb2) (by have := hb2.size; rw [sz_alloc] at this; exact this : w.heap.size + 1 ≤ w2.heap.size))); clear hv3 hb2; obtain ⟨g3, cap3, hg3⟩ : ∃ g cap, v3 = .slice (some ⟨g, 0, none⟩) s.size cap := (by obtain ⟨g, cap, _, _, h, _⟩ := HR.out; rw [Sha.bys_len] at h; exact ⟨g, cap, h⟩); subst hg3)
    | ((with_reducible refine gate_dst (N := 17) rfl ?_); refine wpList_append_byte rfl (.tmp 14) (.tmp 16) rfl (base := w.heap.size + 1) (xs := Sha.bys s) (z := fill) (brow_below HR.out ((Below.refl _ _).alloc (Nat.le_refl _) _)) (by rw [sz_alloc]; have := HB2.out.2.2; omega) rfl rfl (by rw [cell_of_row _ _ _ _ _ _ (heap_alloc_last _ _)]; rfl) HL.out ?_; intro v4 w4 hv4 hb4; have HR_ := Aside0.mk hv4; clear HR; have HR := HR_; clear HR_; have HB_ := Aside0.mk (heldL_step HB2.out hb4 (Nat.le_refl _)); clear HB2; have HB2 := HB_; clear HB_ hv4 hb4; obtain ⟨g4, cap4, hg4⟩ := brow_form HR.out; subst hg4))
  have hfl0 : Sha.bys s ++ [fill] = padTo s fill 0 := rfl
  obtain ⟨z, hz⟩ : ∃ z, padN (s.size + 1) 168 = z := ⟨_, rfl⟩
  have HZ0 := Aside0.mk hz
  have hz2 := hz
  unfold padN at hz2
  have hzs : z ≤ 168 ∧ (s.size + 1 + z) % 168 = 0 ∧ ∀ i, i < z → (s.size + 1 + i) % 168 ≠ 0 := ⟨by omega, by omega, fun i hi => by omega⟩
  have HZ := Aside0.mk hzs
  clear hz hz2 hzs
  rw [Sha.bys_len]
  go_loopg [8] (z) (fun k s7 wx => ∃ i g cap, i + k = z ∧ s7 = .slice (some ⟨g, 0, none⟩) (s.size + 1 + i) cap ∧ Aside0 (BRow (w.heap.size + 1) wx (.slice (some ⟨g, 0, none⟩) (s.size + 1 + i) cap) (padTo s fill i) ∧ HeldL w wx))
  case atStart => exact ⟨0, g4, cap4, by omega, rfl, ⟨by have := HR.out; rw [hfl0, padTo_len] at this; exact this, HB2.out⟩⟩
  case round =>
    obtain ⟨i, g, cap, hik, rfl, HX⟩ := hrel
    clear HR HB2
    cases gk with
    | zero =>
      obtain rfl : z = i := by omega
      clear hik
      have hs9 := HS.out
      have hi : ((s.size : Int) + 1 + (z : Int)) % 168 = 0 := by have := HZ.out.2.1; omega
      have hzr : (z : Int) ≤ 168 := by have := HZ.out.1; omega
      obtain ⟨L, hL⟩ : ∃ L, s.size + 1 + z = L := ⟨_, rfl⟩
      have hLi : (s.size : Int) + 1 + (z : Int) = (L : Int) := by omega
      obtain ⟨P, hP⟩ : ∃ P, padTo s fill z = P := ⟨_, rfl⟩
      have hPl : P.length = L := by rw [← hP, padTo_len, hL]
      have hLR : L % 168 = 0 ∧ 0 < L ∧ L ≤ 1000000200 := by have := HZ.out.2.1; have := HZ.out.1; omega
      have HP := Aside0.mk (And.intro hP (And.intro hPl (And.intro hLR hL)))
      obtain ⟨q, hq⟩ : ∃ q, L - 1 = q := ⟨_, rfl⟩
      have hqi : (L : Int) - 1 = (q : Int) := by omega
      have hqL : (q : Int) < (L : Int) := by omega
      have hLb : (L : Int) ≤ 1000000200 := by omega
      obtain ⟨y, hy⟩ : ∃ y, P.getD q 0 = y := ⟨_, rfl⟩
      rw [hP, hL] at HX
      have hc := (brow_at HX.out.1 q (by omega)).1
      have hf := (brow_at HX.out.1 q (by omega)).2
      rw [hy] at hc
      have HQ := Aside0.mk (And.intro hq hy)
      rw [hLi] at hi
      rw [hL]
      clear hs9 hzr hLi hP hPl hLR hq hy hL
      obtain ⟨hs1, hs2⟩ := brow_set HX.out.1 q (Go.bits .xor .u8 y 128)
      have HE : Aside0 (P.set q (Go.bits .xor .u8 y 128) = padX s fill 168) := ⟨by
        obtain ⟨hP, hPl, _, hL⟩ := HP.out
        obtain ⟨hq, hy⟩ := HQ.out
        unfold padX
        rw [HZ0.out, hP]
        unfold lastX
        rw [hPl, hq, hy]⟩
      rw [HE.out] at hs1
      have HW : Aside0 (BRow (w.heap.size + 1) (wr.setCell ⟨g, q, none⟩ (.int .u8 (Go.bits .xor .u8 y 128))) (.slice (some ⟨g, 0, none⟩) L cap) (padX s fill 168) ∧ Below w.heap.size w (wr.setCell ⟨g, q, none⟩ (.int .u8 (Go.bits .xor .u8 y 128))) ∧ LRow (wr.setCell ⟨g, q, none⟩ (.int .u8 (Go.bits .xor .u8 y 128))) w.heap.size 25 zero25) := ⟨hs1, HX.out.2.1.setCell (show w.heap.size ≤ g from Nat.le_of_succ_le hs2) _, lrow_far HX.out.2.2.1 (by have : w.heap.size + 1 ≤ g := hs2; omega) _⟩
      clear hs1 hs2
      go_wp2
      clear hc hf hi hqi hqL
      refine wp_world (fun V hV => ?_)
      obtain ⟨B, hB⟩ : ∃ b, padX s fill 168 = b := ⟨_, rfl⟩
      have hBl : B.length = L := by rw [← hB, ← HE.out, List.length_set, HP.out.2.1]
      have hcc : L ≤ cap := brow_cap HX.out.1
      have HV : Aside0 (BRow (w.heap.size + 1) V (.slice (some ⟨g, 0, none⟩) L cap) B ∧ LRow V w.heap.size 25 (sabTo (strOfNums B) 168 0) ∧ Below w.heap.size w V) := ⟨by
        rw [← hB, hV]
        exact ⟨HW.out.1, HW.out.2.2, HW.out.2.1⟩⟩
      obtain ⟨m, hm⟩ : ∃ m, L / 168 = m := ⟨_, rfl⟩
      have HBm := Aside0.mk (And.intro hB (And.intro hBl (And.intro hm (And.intro HP.out.2.2.1 hcc))))
      clear hV HW HE hB hBl hm hcc HX HQ HP HZ HZ0 HL HS0 HB0
      go_loopg [7, 9] m (fun k s7 s9 wx => ∃ t gs cs, t + k = m ∧ s9 = .int .i64 ((168 * t : Nat) : Int) ∧ s7 = .slice (some ⟨gs, 0, none⟩) 25 cs ∧ Aside0 (BRow (w.heap.size + 1) wx (.slice (some ⟨g, 0, none⟩) L cap) B ∧ LRow wx gs cs (sabTo (strOfNums B) 168 t) ∧ Below w.heap.size w wx ∧ w.heap.size ≤ gs ∧ gs < wx.heap.size) ∧ Aside0 (g ≠ gs))
      case atStart => exact ⟨0, w.heap.size, 25, by omega, rfl, rfl, ⟨HV.out.1, HV.out.2.1, HV.out.2.2, Nat.le_refl _, by have := (brow_lt HV.out.1); omega⟩, ⟨by have := (brow_lt HV.out.1).1; omega⟩⟩
      case round =>
        obtain ⟨t, gs, cs, htm, rfl, rfl, HY, HGne⟩ := hrel
        clear HV
        have HK := Aside0.mk (sabTo_lanes (strOfNums B) 168 t)
        cases gk with
        | zero =>
          obtain rfl : t = m := by omega
          obtain ⟨hB, hBl, hm, hLR, hcc⟩ := HBm.out
          obtain ⟨a, ha⟩ : ∃ a, 168 * t = a := ⟨_, rfl⟩
          have hi : ¬ ((a : Int) < (L : Int)) := by omega
          have HE : Aside0 (specAbsorbed s fill 168 = stx (sabTo (strOfNums B) 168 t)) := ⟨by
            unfold specAbsorbed
            rw [hB, hBl, hm]⟩
          have HBy := Aside0.mk (bytes_calls (sabTo (strOfNums B) 168 t) HK.out)
          rw [ha]
          clear htm hB hBl hm hLR ha hcc
          go_wp2_with (go_at_call 30; refine (HBy.out (some ⟨gs, 0, none⟩) cs _ (lrow_C HY.out.2.1).1 (lrow_C HY.out.2.1).2).mono ?_; rintro e_ w8 ⟨rfl, hb8⟩; have HB8 := Aside0.mk hb8; clear hb8)
          go_ret
          exact ⟨by rw [HE.out]; rfl, HY.out.2.2.1.trans (HB8.out.mono HY.out.2.2.1.size)⟩
        | succ kk =>
          obtain ⟨hB, hBl, hm, hLR, hcc⟩ := HBm.out
          obtain ⟨a, ha⟩ : ∃ a, 168 * t = a := ⟨_, rfl⟩
          have hi : (a : Int) < (L : Int) := by omega
          have haL : a + 168 ≤ L := by omega
          have hi2 : (a : Int) + 168 ≤ (cap : Int) := by omega
          have hi3 : (a : Int) ≤ 1000000200 := by omega
          obtain ⟨blk, hblk⟩ : ∃ b, (strOfNums B).extract a (a + 168) = b := ⟨_, rfl⟩
          have hcv := brow_convN (n := 168) (c := cap - a) HY.out.1 haL
          rw [hblk] at hcv
          have hbs : blk.size = 168 := by rw [← hblk, ByteArray.size_extract, strOfNums_size, hBl]; omega
          have HLn := Aside0.mk (lanes_f blk 21 300 (by omega) (by omega) (by decide))
          have HI := Aside0.mk (And.intro htm (And.intro ha (And.intro hblk (And.intro hbs hLR.2.2))))
          obtain ⟨A, hA⟩ : ∃ A, sabTo (strOfNums B) 168 t = A := ⟨_, rfl⟩
          rw [hA] at HY HK
          have HAe := Aside0.mk hA
          rw [ha]
          clear htm ha hB hBl hm hLR hA haL hblk hbs hcc
          go_wp2_with (go_at_call 32; refine (spec_l07Lanes.calls 300 blk _ _ HLn.out).mono ?_; rintro e_ w5 ⟨v5, rfl, ho5, hb5⟩; have H5 := Aside0.mk ho5; have HY5 : Aside0 (BRow (w.heap.size + 1) w5 (.slice (some ⟨g, 0, none⟩) L cap) B ∧ LRow w5 gs cs A ∧ Below w.heap.size w w5 ∧ w.heap.size ≤ gs ∧ gs < w5.heap.size) := ⟨brow_below HY.out.1 hb5, Kd.R_below HY.out.2.1 hb5, HY.out.2.2.1.trans (hb5.mono HY.out.2.2.1.size), HY.out.2.2.2.1, Nat.lt_of_lt_of_le HY.out.2.2.2.2 hb5.size⟩; clear ho5 hb5)
          obtain ⟨A5, c5, hv5⟩ := Kd.R_slice H5.out
          subst hv5
          obtain ⟨gl, rfl, hl5, hgl, hgl2⟩ := lrow_of_R H5.out (by rw [lns_len]; decide)
          have hgne : gl ≠ gs := by have := HY.out.2.2.2.2; omega
          rw [lns_len]
          have HU0 := Aside0.mk (And.intro hl5 hgne)
          clear H5 hl5 hgl hgl2 hgne HY hcv hi hi2
          go_loopg [11] 21 (fun k s11 wx => ∃ i : Nat, i + k = 21 ∧ s11 = .int .i64 i ∧ Aside0 (BRow (w.heap.size + 1) wx (.slice (some ⟨g, 0, none⟩) L cap) B ∧ LRow wx gs cs (xlTo A (lns blk 21) i) ∧ LRow wx gl c5 (lns blk 21) ∧ Below w.heap.size w wx ∧ gs < wx.heap.size))
          case atStart => exact ⟨0, by omega, rfl, ⟨HY5.out.1, HY5.out.2.1, HU0.out.1, HY5.out.2.2.1, HY5.out.2.2.2.2⟩⟩
          case round =>
            obtain ⟨i, hik, rfl, HU⟩ := hrel
            have HXL := Aside0.mk (xlTo_lanes HK.out (lns_rg blk 21) i)
            cases gk with
            | zero =>
              obtain rfl : i = 21 := by omega
              clear hik
              have hge : w.heap.size ≤ gs := HY5.out.2.2.2.1
              have HG := Aside0.mk hge
              clear hge HY5
              obtain ⟨X, hX⟩ : ∃ X, xlTo A (lns blk 21) 21 = X := ⟨_, rfl⟩
              rw [hX] at HU HXL
              have HP := Aside0.mk (specPerm25_calls X HXL.out)
              have HXe := Aside0.mk hX
              clear hX
              go_wp2_with (go_at_call 31; refine (HP.out gs cs _ HU.out.2.1).mono ?_; rintro e_ w7 ⟨v7, rfl, ho7, hb7⟩; have H7 := Aside0.mk ho7; have H7b := Aside0.mk hb7; clear ho7 hb7)
              obtain ⟨A7, c7, hv7⟩ := Kd.R_slice H7.out
              subst hv7
              obtain ⟨g7, rfl, hl7, hg7, hg72⟩ := lrow_of_R H7.out (by rw [(kcTo_lanes HXL.out 24).1]; decide)
              have HL7 := Aside0.mk (And.intro hl7 (And.intro hg7 hg72))
              clear hl7 hg7 hg72
              go_roundg kk
              case measure => omega
              case rel =>
                obtain ⟨htm, ha, hblk, hbs, hL9⟩ := HI.out
                refine ⟨t + 1, g7, c7, by omega, ?_, by rw [(kcTo_lanes HXL.out 24).1], ⟨brow_below HU.out.1 H7b.out, ?_, HU.out.2.2.2.1.trans (H7b.out.mono HU.out.2.2.2.1.size), Nat.le_trans HU.out.2.2.2.1.size HL7.out.2.1, HL7.out.2.2⟩, ⟨by have := (brow_lt HU.out.1).2; have := HL7.out.2.1; omega⟩⟩
                · rw [show 168 * (t + 1) = a + 168 by omega]
                  first | (congr 1; done) | (congr 1; unfold wrap64; omega)
                · show LRow _ _ _ (kcTo (xlTo (sabTo (strOfNums B) 168 t) (lns ((strOfNums B).extract (168 * t) (168 * t + 168)) (168 / 8)) (168 / 8)) 24)
                  rw [HAe.out, ha, hblk]
                  show LRow _ _ _ (kcTo (xlTo A (lns blk 21) 21) 24)
                  rw [HXe.out]
                  exact HL7.out.1
            | succ jj =>
              have hi8 : (i : Int) < 21 := by omega
              have hi9 : (i : Int) < 25 := by omega
              obtain ⟨x, hx⟩ : ∃ x, Kec.g (xlTo A (lns blk 21) i) i = x := ⟨_, rfl⟩
              obtain ⟨y, hy⟩ : ∃ y, Kec.g (lns blk 21) i = y := ⟨_, rfl⟩
              obtain ⟨c1, f1⟩ := lrow_cell HU.out.2.1 i (by rw [HXL.out.1]; omega)
              obtain ⟨c2, f2⟩ := lrow_cell HU.out.2.2.1 i (by rw [lns_len]; omega)
              rw [hx] at c1
              rw [hy] at c2
              have HJ := Aside0.mk (And.intro hik (And.intro hx hy))
              clear hik hx hy
              go_wp2
              go_region
              go_wp2
              go_roundg jj
              case measure => omega
              case rel =>
                obtain ⟨hik, hx, hy⟩ := HJ.out
                have hne : g ≠ gs := HGne.out
                refine ⟨i + 1, by omega, by go_num, ⟨brow_far HU.out.1 hne _, ?_, lrow_far HU.out.2.2.1 HU0.out.2 _, (HU.out.2.2.2.1.setCell HY5.out.2.2.2.1 _).drew, by show _ < (World.setCell _ _ _).heap.size; show _ < (Array.modify _ _ _).size; rw [Array.size_modify]; exact HU.out.2.2.2.2⟩⟩
                show LRow _ _ _ ((xlTo A (lns blk 21) i).set i (xr (Kec.g (xlTo A (lns blk 21) i) i) (Kec.g (lns blk 21) i)))
                rw [hx, hy]
                exact lrow_put HU.out.2.1 i _
    | succ kk =>
      have hs9 := HS.out
      have hzr : z ≤ 168 := HZ.out.1
      have hne := HZ.out.2.2 i (by omega)
      have hi : ¬ (((s.size : Int) + 1 + (i : Int)) % 168 = 0) := by omega
      have HR := Aside0.mk HX.out.1
      have HB2 := Aside0.mk HX.out.2
      have HL2 : Aside0 ((padTo s fill i).length ≤ 1000000000000) := ⟨by rw [padTo_len]; omega⟩
      have hib : (i : Int) ≤ 168 := by omega
      have HI := Aside0.mk hik
      clear hik hne hzr
      go_wp2_with ((with_reducible refine gate_dst (N := 25) rfl ?_); refine wpList_append_byte rfl (.tmp 23) (.tmp 24) rfl (base := w.heap.size + 1) (xs := padTo s fill i) (z := 0) (brow_below HR.out ((Below.refl _ _).alloc (Nat.le_refl _) _)) (by rw [sz_alloc]; have := HB2.out.2.2; omega) rfl rfl (by rw [cell_of_row _ _ _ _ _ _ (heap_alloc_last _ _)]; rfl) HL2.out ?_; intro v4 w4 hv4 hb4; have HR_ := Aside0.mk hv4; clear HR; have HR := HR_; clear HR_; have HB_ := Aside0.mk (heldL_step HB2.out hb4 (Nat.le_refl _)); clear HB2; have HB2 := HB_; clear HB_ hv4 hb4; obtain ⟨g4, cap4, hg4⟩ := brow_form HR.out; subst hg4)
      go_roundg kk
      case measure => omega
      case rel =>
        refine ⟨i + 1, g4, cap4, by have := HI.out; omega, by rw [padTo_len]; rfl, ⟨?_, HB2.out⟩⟩
        have := HR.out
        rw [padTo_snoc, padTo_len] at this
        exact this
end Go.Proofs.Ytmocccmffmacdaa.Kec
namespace Go.Proofs.Ytmocccmffmacdaa.Kec
open Go.RowKit Go.Proofs.YtmocccmffmacdaaW.PrintWords Go.Proofs.YtmocccmffmacdaaW.PrintLast Go.Proofs.YtmocccmffmacdaaW.PrintMore Go.Proofs.Ytmocccmffmacdaa.Sha
set_option linter.unusedVariables false
set_option linter.unusedSimpArgs false
def Byt (l : List Int) : Prop := ∀ i, 0 ≤ l.getD i 0 ∧ l.getD i 0 < 256
theorem bys_str2 (xs : List Int) (h : Byt xs) : Sha.bys (strOfNums xs) = xs := by
  unfold Sha.bys
  rw [strOfNums_data, List.map_map]
  conv => rhs; rw [← List.map_id xs]
  refine List.map_congr_left fun x hx => ?_
  obtain ⟨i, hi, rfl⟩ := List.mem_iff_getElem.1 hx
  have := h i
  rw [List.getD_eq_getElem?_getD, List.getElem?_eq_getElem hi, Option.getD_some] at this
  show ((UInt8.ofNat (xs[i]).toNat).toNat : Int) = xs[i]
  rw [UInt8.toNat_ofNat']
  omega
theorem bt_bys2 (s : ByteArray) (i : Nat) : bt s (i : Int) = (Sha.bys s).getD i 0 := by
  unfold bt Sha.bys
  rw [Int.toNat_natCast]
  split
  · rename_i h
    rw [List.getD_eq_getElem?_getD, List.getElem?_map, List.getElem?_eq_getElem (by rw [Array.length_toList]; exact h)]
    rfl
  · rename_i h
    rw [List.getD_eq_getElem?_getD, List.getElem?_map, List.getElem?_eq_none (by rw [Array.length_toList]; exact Nat.le_of_not_lt h)]
    rfl
theorem bn_str (xs : List Int) (h : Byt xs) (i : Nat) : bn (strOfNums xs) i = (xs.getD i 0).toNat := by
  unfold bn
  rw [bt_bys2, bys_str2 xs h]
theorem bn_extract (s : ByteArray) (a n i : Nat) (hi : i < n) : bn (s.extract a (a + n)) i = bn s (a + i) := by
  unfold bn
  rw [bt_bys2, bt_bys2]
  have e : Sha.bys (s.extract a (a + n)) = ((Sha.bys s).drop a).take n := by
    unfold Sha.bys
    simp [List.map_take, List.map_drop]
  rw [e, List.getD_eq_getElem?_getD, List.getElem?_take, if_pos hi, List.getElem?_drop, ← List.getD_eq_getElem?_getD]
theorem byt_bys (s : ByteArray) : Byt (Sha.bys s) := fun i => by
  have := bt_range s (i : Int)
  rw [← bt_bys2]
  omega
theorem byt_set {l : List Int} (h : Byt l) {x : Int} (hx : 0 ≤ x ∧ x < 256) (k : Nat) : Byt (l.set k x) := fun i => by
  rw [List.getD_eq_getElem?_getD, List.getElem?_set]
  split
  · split
    · exact hx
    · exact ⟨by decide, by decide⟩
  · rw [← List.getD_eq_getElem?_getD]; exact h i
theorem x8_eq {x y : Int} (hx : 0 ≤ x ∧ x < 256) (hy : 0 ≤ y ∧ y < 256) : Go.bits .xor .u8 x y = ((x.toNat ^^^ y.toNat : Nat) : Int) := Go.u8_xor x y hx.1 hx.2 hy.1 hy.2
theorem x8_rg {x y : Int} (hx : 0 ≤ x ∧ x < 256) (hy : 0 ≤ y ∧ y < 256) : 0 ≤ Go.bits .xor .u8 x y ∧ Go.bits .xor .u8 x y < 256 := by
  rw [x8_eq hx hy]
  have : x.toNat ^^^ y.toNat < 2 ^ 8 := Nat.xor_lt_two_pow (by omega) (by omega)
  omega
theorem tb_ln (s : ByteArray) (i z : Nat) (hz : z < 64) : tb (ln s i) z = (bn s (8 * i + z / 8)).testBit (z % 8) := by
  have key : ∀ k, z < 8 * k → (pl s i k).testBit z = (bn s (8 * i + z / 8)).testBit (z % 8) := by
    intro k
    induction k with
    | zero => intro h; omega
    | succ k ih =>
      intro h
      show (pl s i k + bn s (8 * i + k) * 2 ^ (8 * k)).testBit z = _
      rw [Nat.add_comm, Nat.mul_comm, Nat.testBit_two_pow_mul_add _ (pl_lt s i k)]
      by_cases hk : z < 8 * k
      · rw [if_pos hk]; exact ih hk
      · rw [if_neg hk, show z / 8 = k by omega, show z % 8 = z - 8 * k by omega]
  rw [ln_pl]
  unfold tb
  rw [Int.toNat_natCast]
  exact key 8 (by omega)
theorem byteAt_rg {l : List Int} (h : Lanes l) (k : Nat) : 0 ≤ byteAt l k ∧ byteAt l k < 256 := by
  unfold byteAt
  omega
theorem tb_byteAt {l : List Int} (h : Lanes l) (k z : Nat) (hz : z < 8) : (byteAt l k).toNat.testBit z = tb (g l (k / 8)) (8 * (k % 8) + z) := by
  unfold byteAt tb
  obtain ⟨y, hy⟩ := Int.eq_ofNat_of_zero_le (g_rg h (k / 8)).1
  rw [hy]
  have e : ((y : Int) / 2 ^ (8 * (k % 8)) % 256) = ((y / 2 ^ (8 * (k % 8)) % 2 ^ 8 : Nat) : Int) := by rw [Int.natCast_emod, Int.natCast_ediv, Int.natCast_pow]; rfl
  rw [e, Int.toNat_natCast, Int.toNat_natCast, Nat.testBit_mod_two_pow, Nat.testBit_div_two_pow]
  simp [hz, Nat.add_comm]
theorem lbytes_get (l : List Int) (m i : Nat) (h : i < m) : (lbytes l m).getD i 0 = byteAt l i := by
  unfold lbytes
  rw [List.getD_eq_getElem?_getD, List.getElem?_map, List.getElem?_range h]
  rfl
theorem byt_lbytes {l : List Int} (h : Lanes l) (m : Nat) : Byt (lbytes l m) := fun i => by
  by_cases hi : i < m
  · rw [lbytes_get l m i hi]; exact byteAt_rg h i
  · rw [List.getD_eq_getElem?_getD, List.getElem?_eq_none (by rw [lbytes_len]; omega)]; exact ⟨by decide, by decide⟩
theorem xbTo_byt {st b : List Int} (hs : Byt st) (hb : Byt b) (a : Nat) : ∀ i, Byt (xbTo st b a i)
  | 0 => hs
  | i + 1 => byt_set (xbTo_byt hs hb a i) (x8_rg (xbTo_byt hs hb a i i) (hb (a + i))) i
theorem xbTo_get (st b : List Int) (a : Nat) : ∀ n q, n ≤ st.length → (xbTo st b a n).getD q 0 = if q < n then Go.bits .xor .u8 (st.getD q 0) (b.getD (a + q) 0) else st.getD q 0
  | 0, q, _ => by rw [if_neg (by omega)]; rfl
  | n + 1, q, hn => by
    have hlen := xbTo_len st b a n
    show (List.set _ _ _).getD q 0 = _
    rw [List.getD_eq_getElem?_getD, List.getElem?_set]
    by_cases h : n = q
    · subst h
      rw [if_pos rfl, if_pos (by omega), if_pos (by omega), Option.getD_some, xbTo_get st b a n n (by omega), if_neg (by omega)]
    · rw [if_neg h, ← List.getD_eq_getElem?_getD, xbTo_get st b a n q (by omega)]
      by_cases h2 : q < n
      · rw [if_pos h2, if_pos (by omega)]
      · rw [if_neg h2, if_neg (by omega)]
theorem xlTo_get (L b : List Int) (hL : L.length = 25) : ∀ n i, n ≤ 25 → g (xlTo L b n) i = if i < n then xr (g L i) (g b i) else g L i
  | 0, i, _ => by rw [if_neg (by omega)]; rfl
  | n + 1, i, hn => by
    have hlen : ∀ n, (xlTo L b n).length = 25 := by
      intro n
      induction n with
      | zero => exact hL
      | succ n ih => show (List.set _ _ _).length = 25; rw [List.length_set]; exact ih
    have h25 := hlen n
    show (List.set _ _ _).getD i 0 = _
    rw [List.getD_eq_getElem?_getD, List.getElem?_set]
    by_cases h : n = i
    · subst h
      rw [if_pos rfl, if_pos (by omega), if_pos (by omega), Option.getD_some, xlTo_get L b hL n n (by omega), if_neg (by omega)]
    · rw [if_neg h, ← List.getD_eq_getElem?_getD]
      refine (xlTo_get L b hL n i (by omega)).trans ?_
      by_cases h2 : i < n
      · rw [if_pos h2, if_pos (by omega)]
      · rw [if_neg h2, if_neg (by omega)]
/-- One block mixed in, by bytes and by lanes. -/
theorem mixed (L B : List Int) (hL : Lanes L) (hB : Byt B) (a r : Nat) (hr : r % 8 = 0) (hr2 : r ≤ 200) : lns (strOfNums (xbTo (lbytes L 200) B a r)) 25 = xlTo L (lns ((strOfNums B).extract a (a + r)) (r / 8)) (r / 8) := by
  have hX := xbTo_byt (byt_lbytes hL 200) hB a r
  refine lanes_ext (lns_lanes _) (xlTo_lanes hL (lns_rg _ _) _) fun i z hi hz => ?_
  show tb (g (lns _ 25) i) z = tb (g (xlTo _ _ _) i) z
  have e1 : g (lns (strOfNums (xbTo (lbytes L 200) B a r)) 25) i = ln (strOfNums (xbTo (lbytes L 200) B a r)) i := lns_get _ 25 i hi
  rw [e1, tb_ln _ i z hz, bn_str _ hX, xbTo_get _ _ _ r _ (by rw [lbytes_len]; exact hr2), lbytes_get L 200 _ (by omega), xlTo_get L _ hL.1 (r / 8) i (by omega)]
  have hby := byteAt_rg hL (8 * i + z / 8)
  have hz8 : 8 * ((8 * i + z / 8) % 8) + z % 8 = z := by omega
  have hq : (8 * i + z / 8) / 8 = i := by omega
  have ht := tb_byteAt hL (8 * i + z / 8) (z % 8) (Nat.mod_lt _ (by decide))
  rw [hz8, hq] at ht
  by_cases h : i < r / 8
  · have e2 : g (lns ((strOfNums B).extract a (a + r)) (r / 8)) i = ln ((strOfNums B).extract a (a + r)) i := lns_get _ _ i h
    rw [if_pos (show 8 * i + z / 8 < r by omega), if_pos h, x8_eq hby (hB _), Int.toNat_natCast, Nat.testBit_xor, ht, tb_xr (g_rg hL i) (lns_rg _ _ i), e2, tb_ln _ i z hz, bn_extract _ a r _ (by omega), bn_str B hB]
  · rw [if_neg (show ¬ 8 * i + z / 8 < r by omega), if_neg h, ht]
theorem ab_zero : List.replicate 200 (0 : Int) = lbytes zero25 200 := by
  apply List.ext_getElem (by rw [List.length_replicate, lbytes_len])
  intro i h1 h2
  have hz : ∀ j, g zero25 j = 0 := by
    intro j
    by_cases h : j < 25
    · have : ∀ k, k < 25 → zero25.getD k 0 = 0 := by decide
      exact this j h
    · show zero25.getD j 0 = 0
      rw [List.getD_eq_getElem?_getD, List.getElem?_eq_none (by show 25 ≤ j; omega)]
      rfl
  have e := lbytes_get zero25 200 i (by rw [lbytes_len] at h2; exact h2)
  rw [List.getD_eq_getElem?_getD, List.getElem?_eq_getElem h2, Option.getD_some] at e
  rw [List.getElem_replicate, e]
  unfold byteAt
  rw [hz]
  simp
theorem ab_eq (B : List Int) (hB : Byt B) (r : Nat) (hr : r % 8 = 0) (hr2 : r ≤ 200) : ∀ k, abTo B r k = lbytes (sabTo (strOfNums B) r k) 200
  | 0 => ab_zero
  | k + 1 => by
    have hL := sabTo_lanes (strOfNums B) r k
    show Sha.bys (perm (strOfNums (xbTo (abTo B r k) B (r * k) r))) = _
    rw [ab_eq B hB r hr hr2 k, perm_eq _ (by rw [strOfNums_size, xbTo_len, lbytes_len]), mixed _ B hL hB (r * k) r hr hr2]
    exact bys_str2 _ (byt_lbytes (kcTo_lanes (xlTo_lanes hL (lns_rg _ _) _) 24) 200)
theorem padX_byt (s : ByteArray) (fill : Int) (hf : 0 ≤ fill ∧ fill < 256) (r : Nat) : Byt (padX s fill r) := by
  have h1 : Byt (padTo s fill (padN (s.size + 1) r)) := fun i => by
    unfold padTo
    rw [List.getD_eq_getElem?_getD]
    rcases Nat.lt_or_ge i (Sha.bys s).length with h | h
    · rw [List.getElem?_append_left h, ← List.getD_eq_getElem?_getD]; exact byt_bys s i
    · rw [List.getElem?_append_right h]
      cases i - (Sha.bys s).length with
      | zero => exact hf
      | succ j =>
        rw [List.getElem?_cons_succ, List.getElem?_replicate]
        split <;> exact ⟨by decide, by decide⟩
  unfold padX lastX
  exact byt_set h1 (x8_rg (h1 _) ⟨by decide, by decide⟩) _
theorem absorb_eq (s : ByteArray) (fill : Int) (hf : 0 ≤ fill ∧ fill < 256) (r : Nat) (hr : r % 8 = 0) (hr2 : r ≤ 200) : absorbed s fill r = specAbsorbed s fill r := by
  unfold absorbed specAbsorbed
  rw [ab_eq _ (padX_byt s fill hf r) r hr hr2]
  rfl
theorem absorbed_size (s : ByteArray) (fill : Int) (r : Nat) : (absorbed s fill r).size = 200 := by
  unfold absorbed
  rw [strOfNums_size, abTo_len]
/-- Permute is one-to-one on texts of 200 bytes. -/
theorem perm_inj (s t : ByteArray) (hs : s.size = 200) (ht : t.size = 200) (h : perm s = perm t) : s = t := by
  rw [perm_eq s hs, perm_eq t ht] at h
  have hl := kcTo_lanes (lns_lanes s) 24
  have hl2 := kcTo_lanes (lns_lanes t) 24
  have hb : lbytes (kcTo (lns s 25) 24) 200 = lbytes (kcTo (lns t 25) 24) 200 := by
    rw [← bys_str2 _ (byt_lbytes hl 200), ← bys_str2 _ (byt_lbytes hl2 200)]
    exact congrArg Sha.bys h
  have hk : kcTo (lns s 25) 24 = kcTo (lns t 25) 24 := by
    refine lanes_ext hl hl2 fun i z hi hz => ?_
    have e : byteAt (kcTo (lns s 25) 24) (8 * i + z / 8) = byteAt (kcTo (lns t 25) 24) (8 * i + z / 8) := by
      rw [← lbytes_get _ 200 _ (by omega), ← lbytes_get _ 200 _ (by omega), hb]
    have h1 := tb_byteAt hl (8 * i + z / 8) (z % 8) (Nat.mod_lt _ (by decide))
    have h2 := tb_byteAt hl2 (8 * i + z / 8) (z % 8) (Nat.mod_lt _ (by decide))
    rw [show 8 * ((8 * i + z / 8) % 8) + z % 8 = z by omega, show (8 * i + z / 8) / 8 = i by omega] at h1 h2
    show tb (g _ i) z = tb (g _ i) z
    rw [← h1, ← h2, e]
  have hlns := kcTo_inj (lns_lanes s) (lns_lanes t) 24 hk
  have hbn : ∀ q, q < 200 → bn s q = bn t q := by
    intro q hq
    have hln : ln s (q / 8) = ln t (q / 8) := by rw [← lns_get s 25 _ (by omega), ← lns_get t 25 _ (by omega), hlns]
    apply Nat.eq_of_testBit_eq
    intro j
    by_cases hj : j < 8
    · have h1 := tb_ln s (q / 8) (8 * (q % 8) + j) (by omega)
      have h2 := tb_ln t (q / 8) (8 * (q % 8) + j) (by omega)
      rw [show 8 * (q / 8) + (8 * (q % 8) + j) / 8 = q by omega, show (8 * (q % 8) + j) % 8 = j by omega] at h1 h2
      rw [← h1, ← h2, hln]
    · have h1 := bn_lt s q
      have h2 := bn_lt t q
      rw [Nat.testBit_lt_two_pow (Nat.lt_of_lt_of_le (show bn s q < 2 ^ 8 from h1) (Nat.pow_le_pow_right (by decide) (by omega))), Nat.testBit_lt_two_pow (Nat.lt_of_lt_of_le (show bn t q < 2 ^ 8 from h2) (Nat.pow_le_pow_right (by decide) (by omega)))]
  rw [← str_bys s, ← str_bys t]
  congr 1
  apply List.ext_getElem (by rw [Sha.bys_len, Sha.bys_len, hs, ht])
  intro q h1 h2
  have hq : q < 200 := by rw [Sha.bys_len, hs] at h1; exact h1
  have e1 := bn_eq s q
  have e2 := bn_eq t q
  rw [bt_bys2, List.getD_eq_getElem?_getD, List.getElem?_eq_getElem h1, Option.getD_some] at e1
  rw [bt_bys2, List.getD_eq_getElem?_getD, List.getElem?_eq_getElem h2, Option.getD_some] at e2
  rw [e1, e2, hbn q hq]
end Go.Proofs.Ytmocccmffmacdaa.Kec
