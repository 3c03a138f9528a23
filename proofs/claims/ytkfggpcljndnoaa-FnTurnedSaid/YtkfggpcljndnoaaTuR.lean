/- Rows of bytes that come of a text: appended to, written, read; one byte of a text turned. No condition. -/
import Derived.Test.YtkfggpcljndnoaaPFnTurnedx3
import Derived.Deep.AppendSrc
import Derived.Laws.IdiomStrings
import Derived.Deep.WholeRow
import Derived.Deep.RegionLaw
namespace Go.Proofs.Ytkfggpcljndnoaa.Sha
open Go.RowKit Go.Proofs.YtkfggpcljndnoaaW.PrintWords Go.Proofs.YtkfggpcljndnoaaW.PrintLast Go.Proofs.YtkfggpcljndnoaaW.PrintMore
set_option linter.unusedVariables false
set_option linter.unusedSimpArgs false
set_option maxRecDepth 100000

theorem heap_set {w : World} {b i : Nat} {cs : Array Value} {T : TypeId} {fr : Nat × Nat} (hb : w.heap[b]? = some (.cells cs T fr)) (v : Value) : (w.setCell ⟨b, i, none⟩ v).heap[b]? = some (.cells (cs.setIfInBounds i v) T fr) := by
  simp [World.setCell, Array.getElem?_modify, hb]
def u8s (xs : List Int) : List Value := xs.map fun z => Value.int .u8 z
/-- v is a slice of the bytes xs, in a block of its own from 'base' on; what lies before its capacity may be written. -/
def BRow (base : Nat) (w : World) (v : Value) (xs : List Int) : Prop :=
  ∃ g cap cur fr, v = .slice (some ⟨g, 0, none⟩) xs.length cap ∧ base ≤ g ∧ w.heap[g]? = some (.cells cur 5 fr) ∧ xs.length ≤ cap ∧ cap ≤ cur.size ∧ (∀ j, j < cap → w.frozen? ⟨g, j, none⟩ = false) ∧ cur.toList.take xs.length = u8s xs
theorem brow_cell {base : Nat} {w : World} {g : Nat} {cap n : Nat} {xs : List Int} (h : BRow base w (.slice (some ⟨g, 0, none⟩) n cap) xs) : n = xs.length ∧ ∀ j u, (u8s xs)[j]? = some u → w.cell? ⟨g, j, none⟩ = some u := by
  obtain ⟨g', cap', cur, fr, hv, hb, hg, h1, h2, hf, ht⟩ := h
  injection hv with ha hn hc
  injection ha with ha
  injection ha with hgg
  subst hgg
  refine ⟨hn, fun j u hu => ?_⟩
  rw [cell_of_row w g j cur 5 fr hg, ← Array.getElem?_toList]
  rw [← ht, List.getElem?_take] at hu
  split at hu
  · exact hu
  · cases hu
theorem brow_below {base : Nat} {w w' : World} {v : Value} {xs : List Int} (h : BRow base w v xs) (hb : Below w.heap.size w w') : BRow base w' v xs := by
  obtain ⟨g, cap, cur, fr, hv, hb0, hg, h1, h2, hf, ht⟩ := h
  have hlt : g < w.heap.size := (Array.getElem?_eq_some_iff.1 hg).1
  exact ⟨g, cap, cur, fr, hv, hb0, (hb.block g hlt).trans hg, h1, h2, fun j hj => (hb.frozen (p := ⟨g, j, none⟩) hlt).trans (hf j hj), ht⟩
theorem u8s_length (xs : List Int) : (u8s xs).length = xs.length := by simp [u8s]
theorem frozen_setCell {w : World} {g : Nat} {cur : Array Value} {e : TypeId} {fr : Nat × Nat} (hg : w.heap[g]? = some (.cells cur e fr)) (i j : Nat) (v : Value) : (w.setCell ⟨g, i, none⟩ v).frozen? ⟨g, j, none⟩ = w.frozen? ⟨g, j, none⟩ := by
  simp only [World.frozen?, heap_set hg, hg]
/-- A text's bytes, as a slice. -/
theorem brow_of_string {base : Nat} (w : World) (s : ByteArray) (hb : base ≤ w.heap.size) (v : Value) (w' : World) (h : (convert 9 37 (.string s)).run Try.prog w = .ok v w') : BRow base w' v (s.data.toList.map fun b => (b.toNat : Int)) ∧ Below w.heap.size w w' := by
  rw [run_bytes_of_string (P := Try.prog) w 9 37 5 s Try.underlying9 Try.underlying37 Try.underlying5] at h
  injection h with hv hw
  subst hv
  subst hw
  have hge : s.size ≤ grownCap w s.size 0 5 := grownCap_ge w s.size 0 5
  have hsz : (bytesRow s (grownCap w s.size 0 5)).size = grownCap w s.size 0 5 := by
    unfold bytesRow
    rw [Array.size_append, Array.size_map, Array.size_replicate]
    show s.size + _ = _
    omega
  refine ⟨⟨w.heap.size, grownCap w s.size 0 5, _, _, ?_, hb, heap_alloc_last w.drew _, ?_, ?_, ?_, ?_⟩, ⟨rfl, rfl, rfl, ?_, fun i hi => ?_⟩⟩
  · rw [List.length_map, Array.length_toList]; rfl
  · rw [List.length_map, Array.length_toList]; exact hge
  · rw [hsz]; exact Nat.le_refl _
  · intro j hj
    have hh := heap_alloc_last w.drew (.cells (bytesRow s (grownCap w s.size 0 5)) 5 ((bytesRow s (grownCap w s.size 0 5)).size, (bytesRow s (grownCap w s.size 0 5)).size + 1))
    simp only [World.frozen?]
    rw [show (w.drew.alloc _).heap[w.heap.size]? = _ from hh]
    simp only [hsz]
    simp only [Bool.and_eq_false_iff, decide_eq_false_iff_not]
    exact .inl (by omega)
  · rw [List.length_map, Array.length_toList]
    unfold bytesRow u8s
    rw [Array.toList_append, List.take_left' (by rw [Array.length_toList, Array.size_map]), Array.toList_map, List.map_map]
    rfl
  · show w.heap.size ≤ (w.heap.push _).size
    simp
  · exact (Below.heap_alloc w.drew _ i hi)
theorem info5 : (Try.prog.info? 5).map (fun i => (i.zero, i.size, i.bytes)) = some (some (.int .u8 0), 1, 1) := by kernel_rfl
/-- One byte more. -/
theorem run_append_byte {base : Nat} {w : World} {v : Value} {xs : List Int} {b : Nat} {z : Int} (h : BRow base w v xs) (hbase : base ≤ w.heap.size) (hc : w.cell? ⟨b, 0, none⟩ = some (.int .u8 z)) (hl : xs.length ≤ 1000000000000) (ty : TypeId) :
    ∃ v' w', (Builtin.append_ #[37, 37] ty #[v, .slice (some ⟨b, 0, none⟩) 1 1]).run Try.prog w = .ok v' w' ∧ BRow base w' v' (xs ++ [z]) ∧ Below base w w' := by
  obtain ⟨i5, hi5, hz5, hs5, hb5⟩ : ∃ i, Try.prog.info? 5 = some i ∧ i.zero = some (.int .u8 0) ∧ i.size = 1 ∧ i.bytes = 1 := by
    have := info5
    cases hq : Try.prog.info? 5 with
    | none => rw [hq] at this; cases this
    | some i =>
      rw [hq] at this
      simp only [Option.map_some, Option.some.injEq, Prod.mk.injEq] at this
      exact ⟨i, rfl, this.1, this.2.1, this.2.2⟩
  obtain ⟨g, cap, cur, fr, hv, hb0, hg, h1, h2, hf, ht⟩ := h
  have hlt : g < w.heap.size := (Array.getElem?_eq_some_iff.1 hg).1
  subst hv
  have hsrc : Src Try.prog i5.size 37 (.slice (some ⟨b, 0, none⟩) 1 1) 1 [.int .u8 z] w := by
    refine Src.ofSlice w Try.underlying37 ⟨b, 0, none⟩ 1 1 [.int .u8 z] (by rw [hs5]; rfl) (fun j u hu => ?_) (fun u hu => by rw [List.mem_singleton] at hu; subst hu; rfl)
    cases j with
    | zero =>
      simp only [List.getElem?_cons_zero, Option.some.injEq] at hu
      subst hu
      exact hc
    | succ j => simp at hu
  have htl : cur.toList.take (xs.length) = u8s xs := ht
  by_cases hroom : xs.length + 1 ≤ cap
  · have hcell : w.cell? ⟨g, xs.length, none⟩ = cur[xs.length]? := cell_of_row w g _ cur 5 fr hg
    have hrun := run_append_room_src (P := Try.prog) w 37 37 ty 5 i5 Try.underlying37 hi5 g 0 xs.length cap (.slice (some ⟨b, 0, none⟩) 1 1) 1 [.int .u8 z] hsrc hroom
      (fun j hj => by
        have : j = 0 := by simpa using hj
        subst this
        rw [hs5, Nat.zero_add, Nat.mul_one, Nat.add_zero, hcell, Array.getElem?_eq_getElem (by omega)]
        rfl)
      (fun j hj => by
        have : j = 0 := by simpa using hj
        subst this
        rw [hs5, Nat.zero_add, Nat.mul_one, Nat.add_zero]
        exact hf _ (by omega))
    rw [hs5, Nat.zero_add, Nat.mul_one] at hrun
    refine ⟨_, _, hrun, ⟨g, cap, cur.setIfInBounds xs.length (.int .u8 z), fr, by rw [List.length_append]; rfl, hb0, heap_set hg _, by rw [List.length_append]; exact hroom, by rw [Array.size_setIfInBounds]; exact h2, fun j hj => by
      show (w.setCell _ _).frozen? _ = false
      rw [frozen_setCell hg]; exact hf j hj, ?_⟩, ?_⟩
    · rw [Array.toList_setIfInBounds, List.length_append, List.length_singleton, List.take_add_one, List.take_set_of_le (Nat.le_refl _), htl]
      unfold u8s
      rw [List.map_append]
      congr 1
      rw [List.getElem?_set_self (by simp only [Array.length_toList]; omega)]
      rfl
    · exact (Below.refl base w).setCell (show base ≤ g from hb0) _
  · have hcl : (Builtin.firstCells i5.size xs.length (.slice (some ⟨g, 0, none⟩) xs.length cap)).run Try.prog w.drew = .ok (u8s xs).toArray w.drew := by
      refine run_firstCells_some w.drew i5.size xs.length ⟨g, 0, none⟩ xs.length cap (u8s xs) (by rw [u8s_length, hs5, Nat.mul_one]) (fun j u hu => ?_)
      have e : (⟨g, 0, none⟩ : Addr).add j = ⟨g, j, none⟩ := by unfold Addr.add; split <;> simp_all
      rw [e]
      exact (brow_cell (w := w) ⟨g, cap, cur, fr, rfl, hb0, hg, h1, h2, hf, ht⟩).2 j u hu
    have hrun := run_append_grow_src (P := Try.prog) w 37 37 ty 5 i5 (.int .u8 0) Try.underlying37 hi5 hz5 (some ⟨g, 0, none⟩) xs.length cap (u8s xs) hcl (.slice (some ⟨b, 0, none⟩) 1 1) 1 [.int .u8 z] hsrc (by omega) (by omega) (growslice_fits (by omega) (by rw [hb5]; omega))
    have hge : xs.length + 1 ≤ grownCap w (xs.length + 1) cap 5 := grownCap_ge w _ _ _
    refine ⟨_, _, hrun, ⟨w.heap.size, grownCap w (xs.length + 1) cap 5, _, (0, 0), by rw [List.length_append]; rfl, hbase, heap_alloc_last w.drew _, by rw [List.length_append]; exact hge, ?_, fun j hj => ?_, ?_⟩, ?_⟩
    · rw [Array.size_append, size_zeroCells]
      simp only [List.size_toArray, List.length_append, u8s_length, List.length_singleton]
      show _ ≤ xs.length + 1 + _ * 1
      omega
    · have hh := heap_alloc_last w.drew (.cells ((u8s xs ++ [Value.int .u8 z]).toArray ++ Builtin.zeroCells (Value.int .u8 0).cells (grownCap w (xs.length + 1) cap 5 - (xs.length + 1))) 5)
      exact blk_frozen hh j
    · rw [Array.toList_append, List.take_left' (by simp [u8s_length])]
      simp [u8s]
    · exact (Below.drew (Below.refl base w)).alloc hbase _
theorem wpList_append_byte {ops : Array Oper} {rest : List Oper} {o : Oper} {a : Act} {Q : Exit → Act → World → Prop} {w : World} (hgd : o.guard = none) (s x : Operand)
    (ho : o.op = .call { callee := .builtin .append, args := #[s, x], argTypes := #[37, 37] }) {base : Nat} {v : Value} {xs : List Int} {b : Nat} {z : Int} (hr : BRow base w v xs) (hbase : base ≤ w.heap.size)
    (hv : a.eval s = v) (hx : a.eval x = .slice (some ⟨b, 0, none⟩) 1 1) (hc : w.cell? ⟨b, 0, none⟩ = some (.int .u8 z)) (hl : xs.length ≤ 1000000000000)
    (hK : ∀ v' w', BRow base w' v' (xs ++ [z]) → Below base w w' → wpList Try.prog ops Q rest (a.put o.dst v') w') : wpList Try.prog ops Q (o :: rest) a w := by
  refine wpList_plain hgd fun K hK' => ?_
  obtain ⟨v', w', hrun, r', bb⟩ := run_append_byte hr hbase hc hl o.type
  unfold Oper.wp
  simp [execOp, ho, resolve, invoke, builtin, hv, hx, hrun, Result.andThen]
  exact hK' _ _ (hK v' w' r' bb)
def bys (s : ByteArray) : List Int := s.data.toList.map fun b => (b.toNat : Int)
theorem bys_len (s : ByteArray) : (bys s).length = s.size := by unfold bys; rw [List.length_map, Array.length_toList]; rfl
theorem wpList_bytes {ops : Array Oper} {rest : List Oper} {o : Oper} {a : Act} {Q : Exit → Act → World → Prop} {w : World} (hgd : o.guard = none) (x : Operand)
    (ho : o.op = .convert 9 37 x) {base : Nat} {s : ByteArray} (hbase : base ≤ w.heap.size) (hx : a.eval x = .string s)
    (hK : ∀ v' w', BRow base w' v' (bys s) → Below w.heap.size w w' → wpList Try.prog ops Q rest (a.put o.dst v') w') : wpList Try.prog ops Q (o :: rest) a w := by
  refine wpList_plain hgd fun K hK' => ?_
  have hrun := run_bytes_of_string (P := Try.prog) w 9 37 5 s Try.underlying9 Try.underlying37 Try.underlying5
  obtain ⟨r', bb⟩ := brow_of_string (base := base) w s hbase _ _ hrun
  unfold Oper.wp execOp
  simp only [ho, hx, Sem.run_bind, hrun, Result.andThen, Sem.run_pure]
  exact hK' _ _ (hK _ _ r' bb)
theorem brow_at {base : Nat} {w : World} {g cap n : Nat} {xs : List Int} (h : BRow base w (.slice (some ⟨g, 0, none⟩) n cap) xs) (i : Nat) (hi : i < n) : w.cell? ⟨g, i, none⟩ = some (.int .u8 (xs.getD i 0)) ∧ w.frozen? ⟨g, i, none⟩ = false := by
  obtain ⟨hn, hc⟩ := brow_cell h
  constructor
  · refine hc i _ ?_
    unfold u8s
    rw [List.getElem?_map, List.getD_eq_getElem?_getD, List.getElem?_eq_getElem (by omega)]
    rfl
  · obtain ⟨g', cap', cur, fr, hv, hb, hg, h1, h2, hf, ht⟩ := h
    injection hv with ha hn' hc'
    injection ha with ha
    injection ha with hgg
    subst hgg
    exact hf i (by omega)
theorem brow_set {base : Nat} {w : World} {g cap n : Nat} {xs : List Int} (h : BRow base w (.slice (some ⟨g, 0, none⟩) n cap) xs) (i : Nat) (z : Int) : BRow base (w.setCell ⟨g, i, none⟩ (.int .u8 z)) (.slice (some ⟨g, 0, none⟩) n cap) (xs.set i z) ∧ base ≤ g := by
  obtain ⟨g', cap', cur, fr, hv, hb, hg, h1, h2, hf, ht⟩ := h
  injection hv with ha hn' hc'
  injection ha with ha
  injection ha with hgg
  subst hgg
  subst hn'
  subst hc'
  refine ⟨⟨g, cap, cur.setIfInBounds i (.int .u8 z), fr, by rw [List.length_set], hb, heap_set hg _, by rw [List.length_set]; exact h1, by rw [Array.size_setIfInBounds]; exact h2, fun j hj => by rw [frozen_setCell hg]; exact hf j hj, ?_⟩, hb⟩
  rw [Array.toList_setIfInBounds, List.length_set, List.take_set, ht]
  unfold u8s
  rw [List.map_set]
theorem brow_string {base : Nat} {w : World} {g cap n : Nat} {xs : List Int} (h : BRow base w (.slice (some ⟨g, 0, none⟩) n cap) xs) : (convert 37 9 (.slice (some ⟨g, 0, none⟩) n cap)).run Try.prog w = .ok (.string (strOfNums xs)) w := by
  obtain ⟨hn, _⟩ := brow_cell h
  exact run_convert_bytes_arg w 37 5 Try.underlying37 Try.underlying5 g 0 n cap xs hn.symm (fun i hi => by rw [Nat.zero_add]; exact (brow_at h i hi).1) 9 Try.underlying9
theorem brow_form {base : Nat} {w : World} {v : Value} {xs : List Int} (h : BRow base w v xs) : ∃ g cap, v = .slice (some ⟨g, 0, none⟩) xs.length cap := by
  obtain ⟨g, cap, _, _, hv, _⟩ := h
  exact ⟨g, cap, hv⟩
theorem str_take (T : List Int) (a b : Nat) : strOfNums ((T.drop a).take b) = (strOfNums T).extract a (a + b) := by
  apply ByteArray.ext
  apply Array.toList_inj.1
  rw [strOfNums_data, ByteArray.data_extract, Array.toList_extract, strOfNums_data]
  simp [List.map_take, List.map_drop]
theorem str_bys (r : ByteArray) : strOfNums (bys r) = r := by
  apply ByteArray.ext
  apply Array.toList_inj.1
  rw [strOfNums_data]
  unfold bys
  rw [List.map_map]
  conv => rhs; rw [← List.map_id r.data.toList]
  refine List.map_congr_left fun x _ => ?_
  simp
theorem heap_setCells {g : Nat} {fr : Nat × Nat} {e : TypeId} : ∀ (ys xs : List Int) (w : World) (cur : Array Value), w.heap[g]? = some (.cells cur e fr) → xs.length + ys.length ≤ cur.size → cur.toList.take xs.length = u8s xs →
    ∃ cur', (w.setCells g xs.length (u8s ys)).heap[g]? = some (.cells cur' e fr) ∧ cur'.size = cur.size ∧ cur'.toList.take (xs ++ ys).length = u8s (xs ++ ys)
  | [], xs, w, cur, hg, _, ht => ⟨cur, hg, rfl, by rw [List.append_nil]; exact ht⟩
  | y :: ys, xs, w, cur, hg, hs, ht => by
    have hs' : xs.length < cur.size := by simp only [List.length_cons] at hs; omega
    obtain ⟨cur', h1, h2, h3⟩ := heap_setCells ys (xs ++ [y]) (w.setCell ⟨g, xs.length, none⟩ (.int .u8 y)) (cur.setIfInBounds xs.length (.int .u8 y)) (heap_set hg _) (by rw [Array.size_setIfInBounds, List.length_append]; simp only [List.length_cons, List.length_nil] at hs ⊢; omega) (by
      rw [Array.toList_setIfInBounds, List.length_append, List.length_singleton, List.take_add_one, List.take_set_of_le (Nat.le_refl _), ht]
      unfold u8s
      rw [List.map_append]
      congr 1
      rw [List.getElem?_set_self (by simp only [Array.length_toList]; omega)]
      rfl)
    refine ⟨cur', ?_, by rw [h2, Array.size_setIfInBounds], by rw [List.append_assoc] at h3; exact h3⟩
    rw [List.length_append] at h1
    exact h1
theorem below_setCells_ {B g : Nat} {a : World} (hb : B ≤ g) : ∀ (vs : List Value) (o : Nat) {w : World}, Below B a w → Below B a (w.setCells g o vs)
  | [], _, _, h => h
  | v :: r, o, _, h => below_setCells_ hb r (o + 1) (h.setCell (p := ⟨g, o, none⟩) hb v)
/-- More bytes. -/
theorem run_append_bytes {base : Nat} {w : World} {v : Value} {xs ys : List Int} {ad : Addr} {c : Nat} (h : BRow base w v xs) (hbase : base ≤ w.heap.size) (hsrc : ∀ j u, (u8s ys)[j]? = some u → w.cell? (ad.add j) = some u) (hl : xs.length + ys.length ≤ 1000000000000) (hy : 0 < ys.length) (ty : TypeId) :
    ∃ v' w', (Builtin.append_ #[37, 37] ty #[v, .slice (some ad) ys.length c]).run Try.prog w = .ok v' w' ∧ BRow base w' v' (xs ++ ys) ∧ Below base w w' := by
  obtain ⟨i5, hi5, hz5, hs5, hb5⟩ : ∃ i, Try.prog.info? 5 = some i ∧ i.zero = some (.int .u8 0) ∧ i.size = 1 ∧ i.bytes = 1 := by
    have := info5
    cases hq : Try.prog.info? 5 with
    | none => rw [hq] at this; cases this
    | some i =>
      rw [hq] at this
      simp only [Option.map_some, Option.some.injEq, Prod.mk.injEq] at this
      exact ⟨i, rfl, this.1, this.2.1, this.2.2⟩
  obtain ⟨g, cap, cur, fr, hv, hb0, hg, h1, h2, hf, ht⟩ := h
  have hlt : g < w.heap.size := (Array.getElem?_eq_some_iff.1 hg).1
  subst hv
  have hsr : Src Try.prog i5.size 37 (.slice (some ad) ys.length c) ys.length (u8s ys) w :=
    Src.ofSlice w Try.underlying37 ad ys.length c (u8s ys) (by rw [hs5, u8s_length, Nat.mul_one]) hsrc (fun u hu => by
      unfold u8s at hu
      obtain ⟨_, _, rfl⟩ := List.mem_map.1 hu
      rfl)
  by_cases hroom : xs.length + ys.length ≤ cap
  · have hcell : ∀ j, w.cell? ⟨g, j, none⟩ = cur[j]? := fun j => cell_of_row w g _ cur 5 fr hg
    have hrun := run_append_room_src (P := Try.prog) w 37 37 ty 5 i5 Try.underlying37 hi5 g 0 xs.length cap (.slice (some ad) ys.length c) ys.length (u8s ys) hsr hroom
      (fun j hj => by
        rw [u8s_length] at hj
        rw [hs5, Nat.zero_add, Nat.mul_one, hcell, Array.getElem?_eq_getElem (by omega)]
        rfl)
      (fun j hj => by
        rw [u8s_length] at hj
        rw [hs5, Nat.zero_add, Nat.mul_one]
        exact hf _ (by omega))
    rw [hs5, Nat.zero_add, Nat.mul_one] at hrun
    obtain ⟨cur', h3, h4, h5⟩ := heap_setCells ys xs w cur hg (by omega) ht
    refine ⟨_, _, hrun, ⟨g, cap, cur', fr, by rw [List.length_append], hb0, h3, by rw [List.length_append]; exact hroom, by rw [h4]; exact h2, fun j hj => by
      rw [World.frozen?_setCells]; exact hf j hj, h5⟩, ?_⟩
    exact below_setCells_ hb0 _ _ (Below.refl base w)
  · have hcl : (Builtin.firstCells i5.size xs.length (.slice (some ⟨g, 0, none⟩) xs.length cap)).run Try.prog w.drew = .ok (u8s xs).toArray w.drew := by
      refine run_firstCells_some w.drew i5.size xs.length ⟨g, 0, none⟩ xs.length cap (u8s xs) (by rw [u8s_length, hs5, Nat.mul_one]) (fun j u hu => ?_)
      have e : (⟨g, 0, none⟩ : Addr).add j = ⟨g, j, none⟩ := by unfold Addr.add; split <;> simp_all
      rw [e]
      exact (brow_cell (w := w) ⟨g, cap, cur, fr, rfl, hb0, hg, h1, h2, hf, ht⟩).2 j u hu
    have hrun := run_append_grow_src (P := Try.prog) w 37 37 ty 5 i5 (.int .u8 0) Try.underlying37 hi5 hz5 (some ⟨g, 0, none⟩) xs.length cap (u8s xs) hcl (.slice (some ad) ys.length c) ys.length (u8s ys) hsr (by omega) (by omega) (growslice_fits (by omega) (by rw [hb5]; omega))
    have hge : xs.length + ys.length ≤ grownCap w (xs.length + ys.length) cap 5 := grownCap_ge w _ _ _
    refine ⟨_, _, hrun, ⟨w.heap.size, grownCap w (xs.length + ys.length) cap 5, _, (0, 0), by rw [List.length_append], hbase, heap_alloc_last w.drew _, by rw [List.length_append]; exact hge, ?_, fun j hj => ?_, ?_⟩, ?_⟩
    · rw [Array.size_append, size_zeroCells]
      simp only [List.size_toArray, List.length_append, u8s_length]
      show _ ≤ xs.length + ys.length + _ * 1
      omega
    · exact blk_frozen (heap_alloc_last w.drew _) j
    · rw [Array.toList_append, List.take_left' (by simp [u8s_length])]
      simp [u8s]
    · exact (Below.drew (Below.refl base w)).alloc hbase _
theorem wpList_append_bytes {ops : Array Oper} {rest : List Oper} {o : Oper} {a : Act} {Q : Exit → Act → World → Prop} {w : World} (hgd : o.guard = none) (s x : Operand)
    (ho : o.op = .call { callee := .builtin .append, args := #[s, x], argTypes := #[37, 37] }) {base : Nat} {v : Value} {xs ys : List Int} {ad : Addr} {n c : Nat} (hr : BRow base w v xs) (hbase : base ≤ w.heap.size)
    (hv : a.eval s = v) (hx : a.eval x = .slice (some ad) n c) (hn : n = ys.length) (hsrc : ∀ j u, (u8s ys)[j]? = some u → w.cell? (ad.add j) = some u) (hl : xs.length + ys.length ≤ 1000000000000) (hy : 0 < ys.length)
    (hK : ∀ v' w', BRow base w' v' (xs ++ ys) → Below base w w' → wpList Try.prog ops Q rest (a.put o.dst v') w') : wpList Try.prog ops Q (o :: rest) a w := by
  subst hn
  refine wpList_plain hgd fun K hK' => ?_
  obtain ⟨v', w', hrun, r', bb⟩ := run_append_bytes (c := c) hr hbase hsrc hl hy o.type
  unfold Oper.wp
  simp [execOp, ho, resolve, invoke, builtin, hv, hx, hrun, Result.andThen]
  exact hK' _ _ (hK v' w' r' bb)
theorem run_bytes_nil (w : World) : (Instr.buildSlice 37 0 #[]).run Try.prog w = .ok (.slice (some ⟨w.heap.size, 0, none⟩) 0 0) (w.alloc (.cells #[] 5)) := by kernel_rfl
theorem brow_nil {base : Nat} (w : World) (hb : base ≤ w.heap.size) : BRow base (w.alloc (.cells #[] 5)) (.slice (some ⟨w.heap.size, 0, none⟩) 0 0) [] :=
  ⟨w.heap.size, 0, #[], (0, 0), rfl, hb, heap_alloc_last _ _, Nat.le_refl _, Nat.le_refl _, fun j hj => absurd hj (Nat.not_lt_zero _), rfl⟩
theorem brow_take {base : Nat} {w : World} {g L cap n c : Nat} {T : List Int} (h : BRow base w (.slice (some ⟨g, 0, none⟩) L cap) T) (hn : n ≤ L) : (convert 37 9 (.slice (some ⟨g, 0, none⟩) n c)).run Try.prog w = .ok (.string ((strOfNums T).extract 0 n)) w := by
  obtain ⟨hL, hc⟩ := brow_cell h
  have e : strOfNums (T.take n) = (strOfNums T).extract 0 n := by
    have := str_take T 0 n
    rw [List.drop_zero, Nat.zero_add] at this
    exact this
  rw [← e]
  refine run_convert_bytes_arg w 37 5 Try.underlying37 Try.underlying5 g 0 n c (T.take n) (by rw [List.length_take]; omega) (fun i hi => ?_) 9 Try.underlying9
  rw [Nat.zero_add]
  refine hc i _ ?_
  unfold u8s
  rw [List.getElem?_map, List.getD_eq_getElem?_getD, List.getElem?_take, if_pos hi, List.getElem?_eq_getElem (by omega)]
  rfl
theorem brow_src {base : Nat} {w : World} {g n cap : Nat} {xs : List Int} (h : BRow base w (.slice (some ⟨g, 0, none⟩) n cap) xs) : ∀ j u, (u8s xs)[j]? = some u → w.cell? ((⟨g, 0, none⟩ : Addr).add j) = some u := fun j u hu => by
  have e : (⟨g, 0, none⟩ : Addr).add j = ⟨g, j, none⟩ := by unfold Addr.add; split <;> simp_all
  rw [e]
  exact (brow_cell h).2 j u hu
theorem bys_app2 (a b : ByteArray) : bys a ++ bys b = bys (a ++ b) := by unfold bys; simp
theorem wpl_world {P : Program} {ops : Array Oper} {os : List Oper} {Q : Exit → Act → World → Prop} {a : Act} {W : World} (h : ∀ V, V = W → wpList P ops Q os a V) : wpList P ops Q os a W := h W rfl
theorem brow_lt {base : Nat} {w : World} {g n cap : Nat} {xs : List Int} (h : BRow base w (.slice (some ⟨g, 0, none⟩) n cap) xs) : base ≤ g ∧ g < w.heap.size := by
  obtain ⟨g2, cap', cur, fr, hv, hb, hg, h1, h2, hf, ht⟩ := h
  injection hv with ha hn hc
  injection ha with ha
  injection ha with hgg
  subst hgg
  exact ⟨hb, (Array.getElem?_eq_some_iff.1 hg).1⟩
theorem brow_cap {base : Nat} {w : World} {g n cap : Nat} {xs : List Int} (h : BRow base w (.slice (some ⟨g, 0, none⟩) n cap) xs) : n ≤ cap := by
  obtain ⟨g2, cap', cur, fr, hv, hb, hg, h1, h2, hf, ht⟩ := h
  injection hv with ha hn hc
  omega
theorem brow_far {base : Nat} {w : World} {g g' n cap i : Nat} {xs : List Int} (h : BRow base w (.slice (some ⟨g, 0, none⟩) n cap) xs) (hne : g ≠ g') (v : Value) : BRow base (w.setCell ⟨g', i, none⟩ v) (.slice (some ⟨g, 0, none⟩) n cap) xs := by
  obtain ⟨g2, cap', cur, fr, hv, hb, hg, h1, h2, hf, ht⟩ := h
  injection hv with ha hn hc
  injection ha with ha
  injection ha with hgg
  subst hgg
  have e : (w.setCell ⟨g', i, none⟩ v).heap[g]? = w.heap[g]? := Below.heap_setCell w ⟨g', i, none⟩ v g hne
  refine ⟨g, cap', cur, fr, by rw [hn, hc], hb, e.trans hg, h1, h2, fun j hj => ?_, ht⟩
  have := hf j hj
  simp only [World.frozen?, e]
  simp only [World.frozen?] at this
  exact this
/-- One byte of a text is another; of an empty text 'x'. -/
def turnText (s : ByteArray) (p0 p1 : Int) : ByteArray := if s.size = 0 then ⟨#[120]⟩ else strOfNums ((bys s).set (Int.tmod p0 s.size).toNat (Go.bits .xor .u8 ((bys s).getD (Int.tmod p0 s.size).toNat 0) ((wrap64 (1 + Int.tmod p1 255)) % 256)))
end Go.Proofs.Ytkfggpcljndnoaa.Sha
