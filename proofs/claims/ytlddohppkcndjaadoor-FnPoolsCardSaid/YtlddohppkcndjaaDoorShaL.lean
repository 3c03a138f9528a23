/- The document's HashEnd, walked; a text in two parts; the document's digest. -/
import Derived.Test.YtlddohppkcndjaaDoorShaK
import Derived.Test.YtlddohppkcndjaaDoorPrightx0
import Derived.Deep.AppendSrc
import Derived.Laws.IdiomStrings
import Derived.Deep.WholeRow
import Derived.Test.YtlddohppkcndjaaDoorPHasherNewx1
namespace Go.Proofs.YtlddohppkcndjaaDoor.Sha
open Go.RowKit Go.Proofs.YtlddohppkcndjaaDoorW.PrintWords Go.Proofs.YtlddohppkcndjaaDoorW.PrintLast Go.Proofs.YtlddohppkcndjaaDoorW.PrintMore
set_option linter.unusedVariables false
set_option linter.unusedSimpArgs false
set_option maxRecDepth 100000

theorem heap_set {w : World} {b i : Nat} {cs : Array Value} {T : TypeId} {fr : Nat × Nat} (hb : w.heap[b]? = some (.cells cs T fr)) (v : Value) : (w.setCell ⟨b, i, none⟩ v).heap[b]? = some (.cells (cs.setIfInBounds i v) T fr) := by
  simp [World.setCell, Array.getElem?_modify, hb]
def u8s (xs : List Int) : List Value := xs.map fun z => Value.int .u8 z
/-- v is a slice of the bytes xs, in a block of its own from 'base' on; what lies before its capacity may be written. -/
def BRow (base : Nat) (w : World) (v : Value) (xs : List Int) : Prop :=
  ∃ g cap cur fr, v = .slice (some ⟨g, 0, none⟩) xs.length cap ∧ base ≤ g ∧ w.heap[g]? = some (.cells cur 5 fr) ∧ xs.length ≤ cap ∧ cap ≤ cur.size ∧ (∀ j, j < cap → w.frozen? ⟨g, j, none⟩ = false) ∧ cur.toList.take xs.length = u8s xs
theorem brow_cell {base : Nat} {w : World} {g : Nat} {cap n : Nat} {xs : List Int} (h : BRow base w (.slice (some ⟨g, 0, none⟩) n cap) xs) : n = xs.length ∧ ∀ j u, (u8s xs)[j]? = some u → w.cell? ⟨g, j, none⟩ = some u := by
  obtain ⟨g', cap', cur, fr, hv, hb, hg, h1, h2, hf, ht⟩ := h
  injection hv with ha hn hc
  injection ha with ha
  injection ha with hgg
  subst hgg
  refine ⟨hn, fun j u hu => ?_⟩
  rw [cell_of_row w g j cur 5 fr hg, ← Array.getElem?_toList]
  rw [← ht, List.getElem?_take] at hu
  split at hu
  · exact hu
  · cases hu
theorem brow_below {base : Nat} {w w' : World} {v : Value} {xs : List Int} (h : BRow base w v xs) (hb : Below w.heap.size w w') : BRow base w' v xs := by
  obtain ⟨g, cap, cur, fr, hv, hb0, hg, h1, h2, hf, ht⟩ := h
  have hlt : g < w.heap.size := (Array.getElem?_eq_some_iff.1 hg).1
  exact ⟨g, cap, cur, fr, hv, hb0, (hb.block g hlt).trans hg, h1, h2, fun j hj => (hb.frozen (p := ⟨g, j, none⟩) hlt).trans (hf j hj), ht⟩
theorem u8s_length (xs : List Int) : (u8s xs).length = xs.length := by simp [u8s]
theorem frozen_setCell {w : World} {g : Nat} {cur : Array Value} {e : TypeId} {fr : Nat × Nat} (hg : w.heap[g]? = some (.cells cur e fr)) (i j : Nat) (v : Value) : (w.setCell ⟨g, i, none⟩ v).frozen? ⟨g, j, none⟩ = w.frozen? ⟨g, j, none⟩ := by
  simp only [World.frozen?, heap_set hg, hg]
/-- A text's bytes, as a slice. -/
theorem brow_of_string {base : Nat} (w : World) (s : ByteArray) (hb : base ≤ w.heap.size) (v : Value) (w' : World) (h : (convert 9 51 (.string s)).run Tryd.prog w = .ok v w') : BRow base w' v (s.data.toList.map fun b => (b.toNat : Int)) ∧ Below w.heap.size w w' := by
  rw [run_bytes_of_string (P := Tryd.prog) w 9 51 5 s Tryd.underlying9 Tryd.underlying51 Tryd.underlying5] at h
  injection h with hv hw
  subst hv
  subst hw
  have hge : s.size ≤ grownCap w s.size 0 5 := grownCap_ge w s.size 0 5
  have hsz : (bytesRow s (grownCap w s.size 0 5)).size = grownCap w s.size 0 5 := by
    unfold bytesRow
    rw [Array.size_append, Array.size_map, Array.size_replicate]
    show s.size + _ = _
    omega
  refine ⟨⟨w.heap.size, grownCap w s.size 0 5, _, _, ?_, hb, heap_alloc_last w.drew _, ?_, ?_, ?_, ?_⟩, ⟨rfl, rfl, rfl, ?_, fun i hi => ?_⟩⟩
  · rw [List.length_map, Array.length_toList]; rfl
  · rw [List.length_map, Array.length_toList]; exact hge
  · rw [hsz]; exact Nat.le_refl _
  · intro j hj
    have hh := heap_alloc_last w.drew (.cells (bytesRow s (grownCap w s.size 0 5)) 5 ((bytesRow s (grownCap w s.size 0 5)).size, (bytesRow s (grownCap w s.size 0 5)).size + 1))
    simp only [World.frozen?]
    rw [show (w.drew.alloc _).heap[w.heap.size]? = _ from hh]
    simp only [hsz]
    simp only [Bool.and_eq_false_iff, decide_eq_false_iff_not]
    exact .inl (by omega)
  · rw [List.length_map, Array.length_toList]
    unfold bytesRow u8s
    rw [Array.toList_append, List.take_left' (by rw [Array.length_toList, Array.size_map]), Array.toList_map, List.map_map]
    rfl
  · show w.heap.size ≤ (w.heap.push _).size
    simp
  · exact (Below.heap_alloc w.drew _ i hi)
theorem info5 : (Tryd.prog.info? 5).map (fun i => (i.zero, i.size, i.bytes)) = some (some (.int .u8 0), 1, 1) := by kernel_rfl
/-- One byte more. -/
theorem run_append_byte {base : Nat} {w : World} {v : Value} {xs : List Int} {b : Nat} {z : Int} (h : BRow base w v xs) (hbase : base ≤ w.heap.size) (hc : w.cell? ⟨b, 0, none⟩ = some (.int .u8 z)) (hl : xs.length ≤ 1000000000000) (ty : TypeId) :
    ∃ v' w', (Builtin.append_ #[51, 51] ty #[v, .slice (some ⟨b, 0, none⟩) 1 1]).run Tryd.prog w = .ok v' w' ∧ BRow base w' v' (xs ++ [z]) ∧ Below base w w' := by
  obtain ⟨i5, hi5, hz5, hs5, hb5⟩ : ∃ i, Tryd.prog.info? 5 = some i ∧ i.zero = some (.int .u8 0) ∧ i.size = 1 ∧ i.bytes = 1 := by
    have := info5
    cases hq : Tryd.prog.info? 5 with
    | none => rw [hq] at this; cases this
    | some i =>
      rw [hq] at this
      simp only [Option.map_some, Option.some.injEq, Prod.mk.injEq] at this
      exact ⟨i, rfl, this.1, this.2.1, this.2.2⟩
  obtain ⟨g, cap, cur, fr, hv, hb0, hg, h1, h2, hf, ht⟩ := h
  have hlt : g < w.heap.size := (Array.getElem?_eq_some_iff.1 hg).1
  subst hv
  have hsrc : Src Tryd.prog i5.size 51 (.slice (some ⟨b, 0, none⟩) 1 1) 1 [.int .u8 z] w := by
    refine Src.ofSlice w Tryd.underlying51 ⟨b, 0, none⟩ 1 1 [.int .u8 z] (by rw [hs5]; rfl) (fun j u hu => ?_) (fun u hu => by rw [List.mem_singleton] at hu; subst hu; rfl)
    cases j with
    | zero =>
      simp only [List.getElem?_cons_zero, Option.some.injEq] at hu
      subst hu
      exact hc
    | succ j => simp at hu
  have htl : cur.toList.take (xs.length) = u8s xs := ht
  by_cases hroom : xs.length + 1 ≤ cap
  · have hcell : w.cell? ⟨g, xs.length, none⟩ = cur[xs.length]? := cell_of_row w g _ cur 5 fr hg
    have hrun := run_append_room_src (P := Tryd.prog) w 51 51 ty 5 i5 Tryd.underlying51 hi5 g 0 xs.length cap (.slice (some ⟨b, 0, none⟩) 1 1) 1 [.int .u8 z] hsrc hroom
      (fun j hj => by
        have : j = 0 := by simpa using hj
        subst this
        rw [hs5, Nat.zero_add, Nat.mul_one, Nat.add_zero, hcell, Array.getElem?_eq_getElem (by omega)]
        rfl)
      (fun j hj => by
        have : j = 0 := by simpa using hj
        subst this
        rw [hs5, Nat.zero_add, Nat.mul_one, Nat.add_zero]
        exact hf _ (by omega))
    rw [hs5, Nat.zero_add, Nat.mul_one] at hrun
    refine ⟨_, _, hrun, ⟨g, cap, cur.setIfInBounds xs.length (.int .u8 z), fr, by rw [List.length_append]; rfl, hb0, heap_set hg _, by rw [List.length_append]; exact hroom, by rw [Array.size_setIfInBounds]; exact h2, fun j hj => by
      show (w.setCell _ _).frozen? _ = false
      rw [frozen_setCell hg]; exact hf j hj, ?_⟩, ?_⟩
    · rw [Array.toList_setIfInBounds, List.length_append, List.length_singleton, List.take_add_one, List.take_set_of_le (Nat.le_refl _), htl]
      unfold u8s
      rw [List.map_append]
      congr 1
      rw [List.getElem?_set_self (by simp only [Array.length_toList]; omega)]
      rfl
    · exact (Below.refl base w).setCell (show base ≤ g from hb0) _
  · have hcl : (Builtin.firstCells i5.size xs.length (.slice (some ⟨g, 0, none⟩) xs.length cap)).run Tryd.prog w.drew = .ok (u8s xs).toArray w.drew := by
      refine run_firstCells_some w.drew i5.size xs.length ⟨g, 0, none⟩ xs.length cap (u8s xs) (by rw [u8s_length, hs5, Nat.mul_one]) (fun j u hu => ?_)
      have e : (⟨g, 0, none⟩ : Addr).add j = ⟨g, j, none⟩ := by unfold Addr.add; split <;> simp_all
      rw [e]
      exact (brow_cell (w := w) ⟨g, cap, cur, fr, rfl, hb0, hg, h1, h2, hf, ht⟩).2 j u hu
    have hrun := run_append_grow_src (P := Tryd.prog) w 51 51 ty 5 i5 (.int .u8 0) Tryd.underlying51 hi5 hz5 (some ⟨g, 0, none⟩) xs.length cap (u8s xs) hcl (.slice (some ⟨b, 0, none⟩) 1 1) 1 [.int .u8 z] hsrc (by omega) (by omega) (growslice_fits (by omega) (by rw [hb5]; omega))
    have hge : xs.length + 1 ≤ grownCap w (xs.length + 1) cap 5 := grownCap_ge w _ _ _
    refine ⟨_, _, hrun, ⟨w.heap.size, grownCap w (xs.length + 1) cap 5, _, (0, 0), by rw [List.length_append]; rfl, hbase, heap_alloc_last w.drew _, by rw [List.length_append]; exact hge, ?_, fun j hj => ?_, ?_⟩, ?_⟩
    · rw [Array.size_append, size_zeroCells]
      simp only [List.size_toArray, List.length_append, u8s_length, List.length_singleton]
      show _ ≤ xs.length + 1 + _ * 1
      omega
    · have hh := heap_alloc_last w.drew (.cells ((u8s xs ++ [Value.int .u8 z]).toArray ++ Builtin.zeroCells (Value.int .u8 0).cells (grownCap w (xs.length + 1) cap 5 - (xs.length + 1))) 5)
      exact blk_frozen hh j
    · rw [Array.toList_append, List.take_left' (by simp [u8s_length])]
      simp [u8s]
    · exact (Below.drew (Below.refl base w)).alloc hbase _
theorem wpList_append_byte {ops : Array Oper} {rest : List Oper} {o : Oper} {a : Act} {Q : Exit → Act → World → Prop} {w : World} (hgd : o.guard = none) (s x : Operand)
    (ho : o.op = .call { callee := .builtin .append, args := #[s, x], argTypes := #[51, 51] }) {base : Nat} {v : Value} {xs : List Int} {b : Nat} {z : Int} (hr : BRow base w v xs) (hbase : base ≤ w.heap.size)
    (hv : a.eval s = v) (hx : a.eval x = .slice (some ⟨b, 0, none⟩) 1 1) (hc : w.cell? ⟨b, 0, none⟩ = some (.int .u8 z)) (hl : xs.length ≤ 1000000000000)
    (hK : ∀ v' w', BRow base w' v' (xs ++ [z]) → Below base w w' → wpList Tryd.prog ops Q rest (a.put o.dst v') w') : wpList Tryd.prog ops Q (o :: rest) a w := by
  refine wpList_plain hgd fun K hK' => ?_
  obtain ⟨v', w', hrun, r', bb⟩ := run_append_byte hr hbase hc hl o.type
  unfold Oper.wp
  simp [execOp, ho, resolve, invoke, builtin, hv, hx, hrun, Result.andThen]
  exact hK' _ _ (hK v' w' r' bb)
def bys (s : ByteArray) : List Int := s.data.toList.map fun b => (b.toNat : Int)
theorem bys_len (s : ByteArray) : (bys s).length = s.size := by unfold bys; rw [List.length_map, Array.length_toList]; rfl
theorem wpList_bytes {ops : Array Oper} {rest : List Oper} {o : Oper} {a : Act} {Q : Exit → Act → World → Prop} {w : World} (hgd : o.guard = none) (x : Operand)
    (ho : o.op = .convert 9 51 x) {base : Nat} {s : ByteArray} (hbase : base ≤ w.heap.size) (hx : a.eval x = .string s)
    (hK : ∀ v' w', BRow base w' v' (bys s) → Below w.heap.size w w' → wpList Tryd.prog ops Q rest (a.put o.dst v') w') : wpList Tryd.prog ops Q (o :: rest) a w := by
  refine wpList_plain hgd fun K hK' => ?_
  have hrun := run_bytes_of_string (P := Tryd.prog) w 9 51 5 s Tryd.underlying9 Tryd.underlying51 Tryd.underlying5
  obtain ⟨r', bb⟩ := brow_of_string (base := base) w s hbase _ _ hrun
  unfold Oper.wp execOp
  simp only [ho, hx, Sem.run_bind, hrun, Result.andThen, Sem.run_pure]
  exact hK' _ _ (hK _ _ r' bb)
end Go.Proofs.YtlddohppkcndjaaDoor.Sha
namespace Go.Proofs.YtlddohppkcndjaaDoor.Sha
open Go.RowKit Go.Proofs.YtlddohppkcndjaaDoorW.PrintWords Go.Proofs.YtlddohppkcndjaaDoorW.PrintLast Go.Proofs.YtlddohppkcndjaaDoorW.PrintMore Go.Proofs.YtlddohppkcndjaaDoor.Pending Go.Proofs.YtlddohppkcndjaaDoor.Pright Go.Proofs.YtlddohppkcndjaaDoor.PHashMore
set_option linter.unusedVariables false
set_option linter.unusedSimpArgs false
abbrev HeldS (w W : World) (st r : ByteArray) (c : Int) : Prop := Below w.heap.size w W ∧ W.heap[w.heap.size]? = some (.cells #[.string st, .string r, .int .i64 c] 27)
theorem heldS_below {w W W2 : World} {st r : ByteArray} {c : Int} {b : Nat} (h : HeldS w W st r c) (hb : Below b W W2) (hbb : w.heap.size + 1 ≤ b) : HeldS w W2 st r c :=
  ⟨⟨hb.os.trans h.1.os, hb.tape.trans h.1.tape, hb.output.trans h.1.output, Nat.le_trans h.1.size hb.size, fun i hi => (hb.block i (by omega)).trans (h.1.block i hi)⟩, (hb.block _ (by omega)).trans h.2⟩
theorem heldS_size {w W : World} {st r : ByteArray} {c : Int} (h : HeldS w W st r c) : w.heap.size + 1 ≤ W.heap.size := (Array.getElem?_eq_some_iff.1 h.2).1
def fillTo (r : ByteArray) (i : Nat) : List Int := bys r ++ 128 :: List.replicate i 0
def lastTo (r : ByteArray) (n z : Nat) (i : Nat) : List Int := fillTo r z ++ (List.range i).map fun j => ((8 * n : Nat) : Int) / 256 ^ (7 - j) % 256
theorem brow_form {base : Nat} {w : World} {v : Value} {xs : List Int} (h : BRow base w v xs) : ∃ g cap, v = .slice (some ⟨g, 0, none⟩) xs.length cap := by
  obtain ⟨g, cap, _, _, hv, _⟩ := h
  exact ⟨g, cap, hv⟩
theorem fillTo_len (r : ByteArray) (i : Nat) : (fillTo r i).length = r.size + 1 + i := by
  unfold fillTo
  rw [List.length_append, bys_len, List.length_cons, List.length_replicate]
  omega
theorem fillTo_snoc (r : ByteArray) (i : Nat) : fillTo r i ++ [0] = fillTo r (i + 1) := by
  unfold fillTo
  rw [List.replicate_succ', List.append_assoc]
  rfl
theorem R_start {W : World} {v : Value} {st : List Int} {s : ByteArray} (h : Kd.R (Kd.int .u32) 66 W 0 (fun _ => True) v st) : Kd.R (Kd.int .u32) 66 W 0 (fun _ => True) v (bTo st s 0).1 := h
theorem str_take (T : List Int) (a b : Nat) : strOfNums ((T.drop a).take b) = (strOfNums T).extract a (a + b) := by
  apply ByteArray.ext
  apply Array.toList_inj.1
  rw [strOfNums_data, ByteArray.data_extract, Array.toList_extract, strOfNums_data]
  simp [List.map_take, List.map_drop]
theorem brow_conv {base : Nat} {w : World} {g L cap a c : Nat} {T : List Int} (h : BRow base w (.slice (some ⟨g, 0, none⟩) L cap) T) (ha : a + 64 ≤ L) : (convert 51 9 (.slice (some ⟨g, a, none⟩) 64 c)).run Tryd.prog w = .ok (.string ((strOfNums T).extract a (a + 64))) w := by
  obtain ⟨hL, hc⟩ := brow_cell h
  rw [← str_take]
  refine run_convert_bytes_arg w 51 5 Tryd.underlying51 Tryd.underlying5 g a 64 c ((T.drop a).take 64) (by rw [List.length_take, List.length_drop]; omega) (fun i hi => ?_) 9 Tryd.underlying9
  refine hc (a + i) _ ?_
  unfold u8s
  rw [List.getElem?_map, List.getD_eq_getElem?_getD, List.getElem?_take, if_pos hi, List.getElem?_drop, List.getElem?_eq_getElem (by omega)]
  rfl
theorem str_bys (r : ByteArray) : strOfNums (bys r) = r := by
  apply ByteArray.ext
  apply Array.toList_inj.1
  rw [strOfNums_data]
  unfold bys
  rw [List.map_map]
  conv => rhs; rw [← List.map_id r.data.toList]
  refine List.map_congr_left fun x _ => ?_
  simp
theorem last_text (r : ByteArray) (n z : Nat) (hz : (119 - n % 64) % 64 = z) (hn : n ≤ 1000000000) : strOfNums (lastTo r n z 8) = r ++ en n := by
  unfold lastTo fillTo en four
  rw [strOfNums_app, strOfNums_app, str_bys, hz, show (128 :: List.replicate z 0 : List Int) = [128] ++ List.replicate z 0 from rfl, strOfNums_app, ← strOfNums_app [((8 * n / 4294967296 : Nat) : Int) / 16777216 % 256, _, _, _]]
  have e : (List.range 8).map (fun j => ((8 * n : Nat) : Int) / 256 ^ (7 - j) % 256) = [((8 * n / 4294967296 : Nat) : Int) / 16777216 % 256, ((8 * n / 4294967296 : Nat) : Int) / 65536 % 256, ((8 * n / 4294967296 : Nat) : Int) / 256 % 256, ((8 * n / 4294967296 : Nat) : Int) % 256] ++ [((8 * n % 4294967296 : Nat) : Int) / 16777216 % 256, ((8 * n % 4294967296 : Nat) : Int) / 65536 % 256, ((8 * n % 4294967296 : Nat) : Int) / 256 % 256, ((8 * n % 4294967296 : Nat) : Int) % 256] := by
    show [_, _, _, _, _, _, _, _] = [_, _, _, _, _, _, _, _]
    simp only [Nat.sub_zero, List.cons.injEq, and_true]
    refine ⟨?_, ?_, ?_, ?_, ?_, ?_, ?_, ?_⟩ <;> (simp only [Nat.reduceSub, Int.reducePow, Int.pow_zero]; omega)
  rw [e, ByteArray.append_assoc]
  rfl
theorem lastTo_len (r : ByteArray) (n z i : Nat) : (lastTo r n z i).length = r.size + 1 + z + i := by
  unfold lastTo
  rw [List.length_append, fillTo_len, List.length_map, List.length_range]
theorem lastTo_snoc (r : ByteArray) (n z i : Nat) : lastTo r n z i ++ [((8 * n : Nat) : Int) / 256 ^ (7 - i) % 256] = lastTo r n z (i + 1) := by
  unfold lastTo
  rw [List.range_succ, List.map_append, List.append_assoc]
  rfl
set_option maxHeartbeats 8000000 in
set_option maxRecDepth 100000 in
theorem specHashEnd_calls (st r : ByteArray) (c : Int) (w : World) : Calls Tryd.prog 22 #[.agg #[.string st, .string r, .int .i64 c]] w fun e_ w' => e_ = .returned (.string (hashEnd st r c)) ∧ Below w.heap.size w w' := by
  have HB := Aside0.mk (Below.refl w.heap.size w)
  by_cases hok : hOk st r c = true
  · have hok' := hok
    unfold hOk at hok'
    simp only [decide_eq_true_eq] at hok'
    obtain ⟨h32, h0, h9, h64⟩ := hok'
    obtain ⟨n, rfl⟩ : ∃ n : Nat, c = n := ⟨c.toNat, by omega⟩
    have hof := specOk_f st r n
    rw [hok] at hof
    have hr64 : r.size = n % 64 := by omega
    have HO := Aside0.mk (And.intro hof (And.intro h32 (And.intro hr64 (And.intro hok h9))))
    clear hof h32 hr64 hok h9 h64 h0
    have HL : Aside0 ((bys r).length ≤ 1000000000000) := ⟨by rw [bys_len]; have := HO.out.2.2.1; omega⟩
    go_enter Tryd.func22, Tryd.ntmps22
    go_wp2_with (first | ((with_reducible refine gate_dst (N := 11) rfl ?_); refine ld27 (blk_new _ _) (.tmp 1) rfl rfl rfl ?_) | (go_at_call 43; refine (spec_HasherOk.calls st r (n : Int) _ _ HO.out.1).mono ?_; rintro e_ w1 ⟨rfl, hb1⟩; have HS : Aside0 (HeldS w w1 st r (n : Int)) := ⟨(HB.out.alloc (Nat.le_refl _) (.cells #[.string st, .string r, .int .i64 (n : Int)] 27)).trans (hb1.mono (by rw [sz_alloc]; omega)), blk_below (blk_new w (.cells #[.string st, .string r, .int .i64 (n : Int)] 27)) hb1⟩; clear hb1; have c1 := blk_cell HS.out.2 1; simp only [List.getElem?_toArray, List.getElem?_cons_zero, List.getElem?_cons_succ] at c1) | ((with_reducible refine gate_dst (N := 16) rfl ?_); refine wpList_bytes rfl (.tmp 15) rfl (base := w.heap.size + 1) (s := r) (heldS_size HS.out) rfl ?_; intro v3 w2 hv3 hb2; have HR := Aside0.mk hv3; have HS2 := Aside0.mk (heldS_below HS.out hb2 (heldS_size HS.out)); clear hv3 hb2; obtain ⟨g3, cap3, hg3⟩ : ∃ g cap, v3 = .slice (some ⟨g, 0, none⟩) r.size cap := (by obtain ⟨g, cap, _, _, h, _⟩ := HR.out; rw [bys_len] at h; exact ⟨g, cap, h⟩); subst hg3) | ((with_reducible refine gate_dst (N := 19) rfl ?_); refine wpList_append_byte rfl (.tmp 17) (.tmp 18) rfl (base := w.heap.size + 1) (xs := bys r) (z := 128) (brow_below HR.out ((Below.refl _ _).alloc (Nat.le_refl _) _)) (by rw [sz_alloc]; have := heldS_size HS2.out; omega) rfl rfl (by rw [cell_of_row _ _ _ _ _ _ (heap_alloc_last _ _)]; rfl) HL.out ?_; intro v4 w4 hv4 hb4; have HR_ := Aside0.mk hv4; clear HR; have HR := HR_; clear HR_; have HS_ := Aside0.mk (heldS_below (heldS_below HS2.out ((Below.refl _ _).alloc (Nat.le_refl _) _) (heldS_size HS2.out)) hb4 (Nat.le_refl _)); clear HS2; have HS2 := HS_; clear HS_ hv4 hb4; obtain ⟨g4, cap4, hg4⟩ := brow_form HR.out; subst hg4))
    have hfl0 : bys r ++ [128] = fillTo r 0 := rfl
    obtain ⟨z, hz⟩ : ∃ z, (119 - n % 64) % 64 = z := ⟨_, rfl⟩
    have HZ0 := Aside0.mk hz
    clear hz
    rw [bys_len]
    go_loopg [3] (z) (fun k s3 wx => ∃ i g cap, i + k = z ∧ s3 = .slice (some ⟨g, 0, none⟩) (r.size + 1 + i) cap ∧ Aside0 (BRow (w.heap.size + 1) wx (.slice (some ⟨g, 0, none⟩) (r.size + 1 + i) cap) (fillTo r i) ∧ HeldS w wx st r (n : Int)))
    case atStart => exact ⟨0, g4, cap4, by omega, rfl, ⟨by have := HR.out; rw [hfl0, fillTo_len] at this; exact this, HS2.out⟩⟩
    case round =>
      obtain ⟨i, g, cap, hik, rfl, HX⟩ := hrel
      have hr64 := HO.out.2.2.1
      have hz := HZ0.out
      clear HR HS2
      cases gk with
      | zero =>
        have hi : ((r.size : Int) + 1 + (i : Int)) % 64 = 56 := by omega
        have hz63 : z ≤ 63 := by omega
        have HI := Aside0.mk (And.intro hik (And.intro hr64 hz63))
        clear hik hr64 hz hz63
        have c2 := blk_cell HX.out.2.2 2
        simp only [List.getElem?_toArray, List.getElem?_cons_zero, List.getElem?_cons_succ] at c2
        have hn9 := HO.out.2.2.2.2
        go_wp2
        obtain rfl : z = i := by have := HI.out.1; omega
        clear hi
        go_loopg [3, 5] 8 (fun k s3 s5 wx => ∃ i g cap, i + k = 8 ∧ s5 = .int .i64 (7 - (i : Int)) ∧ s3 = .slice (some ⟨g, 0, none⟩) (r.size + 1 + z + i) cap ∧ Aside0 (BRow (w.heap.size + 1) wx (.slice (some ⟨g, 0, none⟩) (r.size + 1 + z + i) cap) (lastTo r n z i) ∧ HeldS w wx st r (n : Int)))
        case atStart => exact ⟨0, g, cap, by omega, rfl, rfl, ⟨by have := HX.out.1; unfold lastTo; rw [List.range_zero, List.map_nil, List.append_nil]; exact this, HX.out.2⟩⟩
        case round =>
          obtain ⟨i, gg, cc, hik, rfl, rfl, HY⟩ := hrel
          cases gk with
          | zero =>
            obtain rfl : i = 8 := by omega
            have hi7 : ¬ ((0 : Int) ≤ 7 - ((8 : Nat) : Int)) := by decide
            clear hik
            have c0 := blk_cell HY.out.2.2 0
            simp only [List.getElem?_toArray, List.getElem?_cons_zero, List.getElem?_cons_succ] at c0
            have hTl := lastTo_len r n z 8
            obtain ⟨T, hT⟩ : ∃ T, lastTo r n z 8 = T := ⟨_, rfl⟩
            obtain ⟨L, hL⟩ : ∃ L, r.size + 1 + z + 8 = L := ⟨_, rfl⟩
            have hL64 : L % 64 = 0 ∧ L ≤ 1000 := by have := HI.out.2.1; have := HI.out.2.2; have := HZ0.out; omega
            rw [hT, hL] at HY hTl
            rw [hL]
            have HTT := Aside0.mk (And.intro hT (And.intro hTl hL64))
            clear hT hTl hL64 hL c2
            have HW8 : Aside0 (spec_l05Words.f 9 st = some (txState st)) := ⟨by rw [spec_Words_f st 8 9 (by have := HO.out.2.1; omega) (by have := HO.out.2.1; omega) (by omega), txState_eq]⟩
            go_wp2_with (first | (go_at_call 56; refine (spec_l05Words.calls 9 st _ _ HW8.out).mono ?_; rintro e_ w5 ⟨v5, rfl, ho5, hb5⟩; have H8 : Aside0 (Kd.R (Kd.int .u32) 66 w5 0 (fun _ => True) v5 (txState st)) := ⟨Kd.R_lower ho5 (Nat.zero_le _)⟩; have HY5 : Aside0 (BRow (w.heap.size + 1) w5 (.slice (some ⟨gg, 0, none⟩) L cc) T ∧ HeldS w w5 st r (n : Int)) := ⟨brow_below HY.out.1 hb5, heldS_below HY.out.2 hb5 (heldS_size HY.out.2)⟩; clear ho5 hb5) | (go_at_call 57; refine (spec_l05K.calls keys _ rfl).mono ?_; rintro e_ w6 ⟨v6, rfl, ho6, hb6⟩; have H9 : Aside0 (Kd.R (Kd.int .u32) 66 w6 0 (fun _ => True) v6 keys) := ⟨Kd.R_lower ho6 (Nat.zero_le _)⟩; have H8_ := Aside0.mk (Kd.R_below H8.out hb6); clear H8; have H8 := H8_; clear H8_; have HY6 : Aside0 (BRow (w.heap.size + 1) w6 (.slice (some ⟨gg, 0, none⟩) L cc) T ∧ HeldS w w6 st r (n : Int)) := ⟨brow_below HY5.out.1 hb6, heldS_below HY5.out.2 hb6 (heldS_size HY5.out.2)⟩; clear ho6 hb6))
            go_loopg [8, 10] (L / 64) (fun k s8 s10 wx => ∃ i : Nat, i + k = L / 64 ∧ s10 = .int .i64 ((64 * i : Nat) : Int) ∧ Aside0 (Kd.R (Kd.int .u32) 66 wx 0 (fun _ => True) s8 (bTo (txState st) (strOfNums T) i).1 ∧ Kd.R (Kd.int .u32) 66 wx 0 (fun _ => True) v6 keys ∧ BRow (w.heap.size + 1) wx (.slice (some ⟨gg, 0, none⟩) L cc) T ∧ HeldS w wx st r (n : Int)))
            case atStart => exact ⟨0, by rw [Nat.zero_add], rfl, ⟨R_start H8.out, H9.out, HY6.out.1, HY6.out.2⟩⟩
            case round =>
              obtain ⟨i, hik, rfl, HV⟩ := hrel
              obtain ⟨hTT, hTl, hL64, hL1000⟩ := HTT.out
              obtain ⟨S, hS⟩ : ∃ S, (bTo (txState st) (strOfNums T) i).1 = S := ⟨_, rfl⟩
              have hSl := bTo_len (txState st) (strOfNums T) (txState_len st) i
              have hSr := bTo_range (txState st) (strOfNums T) (txState_len st) (txState_range st) i
              rw [hS] at HV hSl hSr
              obtain ⟨A8, c8, hv8⟩ := Kd.R_slice HV.out.1
              obtain ⟨A9, c9, hv9⟩ := Kd.R_slice HV.out.2.1
              have hcc : L ≤ cc := by
                obtain ⟨_, cap', _, _, hv, _, _, h1, _⟩ := HV.out.2.2.1
                injection hv with _ _ hc
                omega
              subst hv8
              subst hv9
              cases gk with
              | zero =>
                obtain rfl : i = L / 64 := by omega
                have hi : ¬ (((64 * (L / 64) : Nat) : Int) < (L : Int)) := by omega
                have HBt : Aside0 (spec_l05Bytes.f 9 S = some (stText S)) := ⟨spec_Bytes_f S hSr (by omega) 9 (by omega)⟩
                have HE : Aside0 (hashEnd st r (n : Int) = stText S) := ⟨by
                  unfold hashEnd
                  rw [if_pos HO.out.2.2.2.1, Int.toNat_natCast, ← last_text r n z HZ0.out (by have := HO.out.2.2.2.2; omega), hTT, ← hS]
                  unfold blks
                  rw [strOfNums_size, hTl]⟩
                obtain ⟨q, hq⟩ : ∃ q, 64 * (L / 64) = q := ⟨_, rfl⟩
                rw [hq] at hi ⊢
                clear hTT hTl hL64 hL1000 hcc hik hS hSl hSr hq
                go_wp2_with (go_at_call 59; refine (spec_l05Bytes.calls 9 _ _ S (stText S) _ ?s1 ?s2 HBt.out).mono ?_; (case s1 => exact (Kd.R_reads' HV.out.1).2.2); (case s2 => exact (Kd.R_reads' HV.out.1).2.1); rintro e_ w8 ⟨rfl, hb8⟩; have HB8 := Aside0.mk hb8; clear hb8)
                go_ret
                exact ⟨by rw [HE.out]; rfl, below_step HV.out.2.2.2.1 HB8.out⟩
              | succ kk =>
                obtain ⟨a, ha⟩ : ∃ a, 64 * i = a := ⟨_, rfl⟩
                have hi : (a : Int) < (L : Int) := by omega
                have hi2 : (a : Int) + 64 ≤ (cc : Int) := by omega
                have hi3 : (a : Int) ≤ 2000 := by omega
                have HK := Aside0.mk (And.intro hik (And.intro ha (show a + 64 ≤ L by omega)))
                rw [ha]
                obtain ⟨blk, hblk⟩ : ∃ B, (strOfNums T).extract a (a + 64) = B := ⟨_, rfl⟩
                have hcv := brow_conv (c := cc - a) HV.out.2.2.1 (show a + 64 ≤ L by omega)
                rw [hblk] at hcv
                have HRd : Aside0 (spec_l05Round.f 1000 S keys blk = some (one S blk)) := ⟨spec_Round_f S blk 1000 hSl hSr (by rw [← hblk, ByteArray.size_extract, strOfNums_size]; omega) (Nat.le_refl _)⟩
                have HN : Aside0 ((bTo (txState st) (strOfNums T) (i + 1)).1 = one S blk) := ⟨by
                  show one (bTo (txState st) (strOfNums T) i).1 ((bTo (txState st) (strOfNums T) i).2.extract 0 64) = _
                  rw [hS, bTo_snd, ex_head _ _ (by rw [strOfNums_size]; omega), ha, hblk]⟩
                clear hTT hTl hL64 hL1000 hcc hik ha hblk hS hSl hSr
                go_wp2_with (go_at_call 58; refine (spec_l05Round.calls 1000 _ _ S _ _ keys blk (one S blk) _ ?s1 ?s2 ?s3 ?s4 HRd.out).mono ?_; (case s1 => exact (Kd.R_reads' HV.out.1).2.2); (case s2 => exact (Kd.R_reads' HV.out.1).2.1); (case s3 => exact (Kd.R_reads' HV.out.2.1).2.2); (case s4 => exact (Kd.R_reads' HV.out.2.1).2.1); rintro e_ w7 ⟨v7, rfl, ho7, hb7⟩; have HV7 : Aside0 (Kd.R (Kd.int .u32) 66 w7 0 (fun _ => True) v7 (one S blk) ∧ Kd.R (Kd.int .u32) 66 w7 0 (fun _ => True) (.slice A9 keys.length c9) keys ∧ BRow (w.heap.size + 1) w7 (.slice (some ⟨gg, 0, none⟩) L cc) T ∧ HeldS w w7 st r (n : Int)) := ⟨Kd.R_lower ho7 (Nat.zero_le _), Kd.R_below HV.out.2.1 hb7, brow_below HV.out.2.2.1 hb7, heldS_below HV.out.2.2.2 hb7 (heldS_size HV.out.2.2.2)⟩; clear ho7 hb7)
                go_roundg kk
                case measure => omega
                case rel =>
                  obtain ⟨hik, ha, _⟩ := HK.out
                  refine ⟨i + 1, by omega, ?_, ⟨by rw [HN.out]; exact HV7.out.1, HV7.out.2.1, HV7.out.2.2.1, HV7.out.2.2.2⟩⟩
                  rw [← ha]
                  congr 1
          | succ kk =>
            have hi7 : (0 : Int) ≤ 7 - (i : Int) := by omega
            have HJ := Aside0.mk hik
            have hi8 : i ≤ 7 := by omega
            clear hik
            go_wp2
            go_loopg [6, 7] (7 - i) (fun k s6 s7 wx => ∃ j : Nat, ∃ x : Int, j + k = 7 - i ∧ s7 = .int .i64 j ∧ s6 = .int .i64 x ∧ Aside0 (x = ((8 * n : Nat) : Int) / 256 ^ j) ∧ 0 ≤ x ∧ x ≤ 8000000000 ∧ Aside0 (BRow (w.heap.size + 1) wx (.slice (some ⟨gg, 0, none⟩) (r.size + 1 + z + i) cc) (lastTo r n z i) ∧ HeldS w wx st r (n : Int)))
            case atStart => exact ⟨0, 8 * (n : Int), by omega, rfl, rfl, ⟨by push_cast; simp⟩, by omega, by omega, HY⟩
            case round =>
              obtain ⟨j, x, hjk, rfl, rfl, hxe, hx0, hx8, HZ⟩ := hrel
              cases gk with
              | zero =>
                obtain rfl : j = 7 - i := by omega
                have hj : ¬ (((7 - i : Nat) : Int) < 7 - (i : Int)) := by omega
                have HR := Aside0.mk HZ.out.1
                have HS2 := Aside0.mk HZ.out.2
                have HL : Aside0 ((lastTo r n z i).length ≤ 1000000000000) := ⟨by rw [lastTo_len]; have := HI.out.2.1; have := HI.out.2.2; omega⟩
                clear hjk
                go_wp2_with ((with_reducible refine gate_dst (N := 47) rfl ?_); refine wpList_append_byte rfl (.tmp 42) (.tmp 46) rfl (base := w.heap.size + 1) (xs := lastTo r n z i) (z := x % 256) (brow_below HR.out ((Below.refl _ _).alloc (Nat.le_refl _) _)) (by rw [sz_alloc]; have := heldS_size HS2.out; omega) rfl rfl (by rw [cell_of_row _ _ _ _ _ _ (heap_alloc_last _ _)]; rfl) HL.out ?_; intro v4 w4 hv4 hb4; have HR_ := Aside0.mk hv4; clear HR; have HR := HR_; clear HR_; have HS_ := Aside0.mk (heldS_below (heldS_below HS2.out ((Below.refl _ _).alloc (Nat.le_refl _) _) (heldS_size HS2.out)) hb4 (Nat.le_refl _)); clear HS2; have HS2 := HS_; clear HS_ hv4 hb4; obtain ⟨g4, cap4, hg4⟩ := brow_form HR.out; subst hg4)
                go_roundg kk
                case measure => omega
                case rel =>
                  refine ⟨i + 1, g4, cap4, by have := HJ.out; omega, by go_num, by rw [lastTo_len]; rfl, ⟨?_, HS2.out⟩⟩
                  have := HR.out
                  rw [hxe.out, lastTo_snoc, lastTo_len] at this
                  exact this
              | succ kj =>
                have hj : ((j : Nat) : Int) < 7 - (i : Int) := by omega
                have HY2 := Aside0.mk hjk
                clear hjk
                go_wp2
                go_roundg kj
                case measure => omega
                case rel =>
                  have hjk := HY2.out
                  exact ⟨j + 1, x / 256, by omega, by go_num, rfl, ⟨by rw [hxe.out, Int.pow_succ, Int.ediv_ediv_of_nonneg (Int.pow_nonneg (by decide))]⟩, by omega, by omega, HZ⟩
      | succ kk =>
        have hi : ¬ (((r.size : Int) + 1 + (i : Int)) % 64 = 56) := by omega
        have HR := Aside0.mk HX.out.1
        have HS2 := Aside0.mk HX.out.2
        have HL : Aside0 ((fillTo r i).length ≤ 1000000000000) := ⟨by rw [fillTo_len]; omega⟩
        have hz63 : z ≤ 63 := by omega
        have HI := Aside0.mk (And.intro hik (And.intro hr64 hz63))
        clear hik hr64 hz hz63
        go_wp2_with ((with_reducible refine gate_dst (N := 26) rfl ?_); refine wpList_append_byte rfl (.tmp 24) (.tmp 25) rfl (base := w.heap.size + 1) (xs := fillTo r i) (z := 0) (brow_below HR.out ((Below.refl _ _).alloc (Nat.le_refl _) _)) (by rw [sz_alloc]; have := heldS_size HS2.out; omega) rfl rfl (by rw [cell_of_row _ _ _ _ _ _ (heap_alloc_last _ _)]; rfl) HL.out ?_; intro v4 w4 hv4 hb4; have HR_ := Aside0.mk hv4; clear HR; have HR := HR_; clear HR_; have HS_ := Aside0.mk (heldS_below (heldS_below HS2.out ((Below.refl _ _).alloc (Nat.le_refl _) _) (heldS_size HS2.out)) hb4 (Nat.le_refl _)); clear HS2; have HS2 := HS_; clear HS_ hv4 hb4; obtain ⟨g4, cap4, hg4⟩ := brow_form HR.out; subst hg4)
        go_roundg kk
        case measure => omega
        case rel =>
          refine ⟨i + 1, g4, cap4, by have := HI.out.1; omega, by rw [fillTo_len]; rfl, ⟨?_, HS2.out⟩⟩
          have := HR.out
          rw [fillTo_snoc, fillTo_len] at this
          exact this
  · have hof := specOk_f st r c
    rw [Bool.not_eq_true] at hok
    rw [hok] at hof
    have HO := Aside0.mk hof
    have e : hashEnd st r c = ⟨#[]⟩ := by unfold hashEnd; rw [if_neg (fun h => by rw [hok] at h; exact Bool.false_ne_true h)]
    rw [e]
    clear e hof hok
    go_enter Tryd.func22, Tryd.ntmps22
    go_wp2_with (first | ((with_reducible refine gate_dst (N := 11) rfl ?_); refine ld27 (blk_new _ _) (.tmp 1) rfl rfl rfl ?_) | (go_at_call 43; refine (spec_HasherOk.calls st r c _ _ HO.out).mono ?_; rintro e_ w1 ⟨rfl, hb1⟩; have HB1 := Aside0.mk hb1; clear hb1))
    go_ret
    exact ⟨rfl, (HB.out.alloc (Nat.le_refl _) (.cells #[.string st, .string r, .int .i64 c] 27)).trans (HB1.out.mono (by rw [sz_alloc]; omega))⟩
end Go.Proofs.YtlddohppkcndjaaDoor.Sha
namespace Go.Proofs.YtlddohppkcndjaaDoor.Sha
open Go.RowKit Go.Proofs.YtlddohppkcndjaaDoorW.PrintWords Go.Proofs.YtlddohppkcndjaaDoorW.PrintLast Go.Proofs.YtlddohppkcndjaaDoorW.PrintMore
set_option linter.unusedVariables false
set_option linter.unusedSimpArgs false
theorem ba_ext {a b : ByteArray} (h : bys a = bys b) : a = b := by rw [← str_bys a, ← str_bys b, h]
theorem bys_append (a b : ByteArray) : bys (a ++ b) = bys a ++ bys b := by simp [bys]
theorem bys_extract (s : ByteArray) (a b : Nat) : bys (s.extract a b) = ((bys s).drop a).take (b - a) := by simp [bys, List.map_take, List.map_drop]
theorem bys_str (xs : List Int) (h : ∀ x ∈ xs, 0 ≤ x ∧ x < 256) : bys (strOfNums xs) = xs := by
  unfold bys
  rw [strOfNums_data, List.map_map]
  conv => rhs; rw [← List.map_id xs]
  refine List.map_congr_left fun x hx => ?_
  have := h x hx
  show ((UInt8.ofNat x.toNat).toNat : Int) = x
  rw [UInt8.toNat_ofNat']
  omega
theorem bt_bys (s : ByteArray) (i : Nat) : bt s (i : Int) = (bys s).getD i 0 := by
  unfold bt bys
  rw [Int.toNat_natCast]
  split
  · rename_i h
    rw [List.getD_eq_getElem?_getD, List.getElem?_map, List.getElem?_eq_getElem (by rw [Array.length_toList]; exact h)]
    rfl
  · rename_i h
    rw [List.getD_eq_getElem?_getD, List.getElem?_map, List.getElem?_eq_none (by rw [Array.length_toList]; exact Nat.le_of_not_lt h)]
    rfl
theorem ex_app_head (x e : ByteArray) (h : 64 ≤ x.size) : (x ++ e).extract 0 64 = x.extract 0 64 := by
  apply ba_ext
  rw [bys_extract, bys_extract, bys_append]
  simp only [List.drop_zero, Nat.sub_zero]
  rw [List.take_append_of_le_length (by rw [bys_len]; exact h)]
theorem ex_app_tail (x e : ByteArray) (h : 64 ≤ x.size) : (x ++ e).extract 64 (x ++ e).size = x.extract 64 x.size ++ e := by
  apply ba_ext
  rw [bys_extract, bys_append, bys_append, bys_extract, ByteArray.size_append]
  rw [List.drop_append_of_le_length (by rw [bys_len]; exact h), List.take_of_length_le (by rw [List.length_append, List.length_drop, bys_len, bys_len]; omega), List.take_of_length_le (by rw [List.length_drop, bys_len]; omega)]
theorem bTo_app (st : List Int) (s e : ByteArray) : ∀ k, 64 * k ≤ s.size → bTo st (s ++ e) k = ((bTo st s k).1, (bTo st s k).2 ++ e)
  | 0, _ => rfl
  | k + 1, h => by
    have hs := bTo_size st s k (by omega)
    show bStep (bTo st (s ++ e) k) = _
    rw [bTo_app st s e k (by omega)]
    unfold bStep
    simp only
    rw [ex_app_head _ _ (by omega), ex_app_tail _ _ (by omega)]
    rfl
theorem bTo_add (st : List Int) (s : ByteArray) (a : Nat) : ∀ b, bTo st s (a + b) = bTo (bTo st s a).1 (bTo st s a).2 b
  | 0 => rfl
  | b + 1 => by
    show bStep (bTo st s (a + b)) = _
    rw [bTo_add st s a b]
    rfl
theorem blks_app (st : List Int) (s e : ByteArray) : blks st (s ++ e) = blks (blks st s).1 ((blks st s).2 ++ e) := by
  unfold blks
  have hs := bTo_size st s (s.size / 64) (by omega)
  rw [ByteArray.size_append, ByteArray.size_append, hs, show (s.size + e.size) / 64 = s.size / 64 + (s.size - 64 * (s.size / 64) + e.size) / 64 by omega, bTo_add, bTo_app _ _ _ _ (by omega)]
theorem blks_size (st : List Int) (s : ByteArray) : (blks st s).2.size = s.size % 64 := by
  unfold blks
  rw [bTo_size st s _ (by omega)]
  omega
theorem blks_range (st : List Int) (s : ByteArray) (hl : st.length = 8) (h : ∀ x ∈ st, w32 x) : ∀ x ∈ (blks st s).1, w32 x := bTo_range st s hl h _
theorem bys_four (z : Int) : bys (four z) = [(z / 16777216) % 256, (z / 65536) % 256, (z / 256) % 256, z % 256] := by
  unfold four
  refine bys_str _ (fun x hx => ?_)
  simp only [List.mem_cons, List.not_mem_nil, or_false] at hx
  rcases hx with rfl | rfl | rfl | rfl <;> omega
theorem txState_stText (l : List Int) (hl : l.length = 8) (h : ∀ x ∈ l, w32 x) : txState (stText l) = l := by
  obtain ⟨a, b, c, d, e, f, g, k, rfl⟩ := arr8 l hl
  have hb : bys (stText [a, b, c, d, e, f, g, k]) = [(a / 16777216) % 256, (a / 65536) % 256, (a / 256) % 256, a % 256, (b / 16777216) % 256, (b / 65536) % 256, (b / 256) % 256, b % 256, (c / 16777216) % 256, (c / 65536) % 256, (c / 256) % 256, c % 256, (d / 16777216) % 256, (d / 65536) % 256, (d / 256) % 256, d % 256, (e / 16777216) % 256, (e / 65536) % 256, (e / 256) % 256, e % 256, (f / 16777216) % 256, (f / 65536) % 256, (f / 256) % 256, f % 256, (g / 16777216) % 256, (g / 65536) % 256, (g / 256) % 256, g % 256, (k / 16777216) % 256, (k / 65536) % 256, (k / 256) % 256, k % 256] := by
    simp only [stText, List.foldl_cons, List.foldl_nil, bys_append, bys_four, show bys (⟨#[]⟩ : ByteArray) = [] from rfl, List.nil_append, List.cons_append]
  have one : ∀ x, w32 x → ((x / 16777216 % 256 * 256 + x / 65536 % 256) * 256 + x / 256 % 256) * 256 + x % 256 = x := by
    intro x hx
    have := hx.1
    have := hx.2
    omega
  rw [txState_eq]
  show [wd _ 0, wd _ 1, wd _ 2, wd _ 3, wd _ 4, wd _ 5, wd _ 6, wd _ 7] = _
  unfold wd
  simp only [bt_bys, hb]
  simp only [Nat.reduceMul, Nat.reduceAdd, Nat.mul_zero, Nat.zero_add, List.getD_cons_zero, List.getD_cons_succ]
  rw [one a (h a (by simp)), one b (h b (by simp)), one c (h c (by simp)), one d (h d (by simp)), one e (h e (by simp)), one f (h f (by simp)), one g (h g (by simp)), one k (h k (by simp))]
theorem stText8 (l : List Int) (hl : l.length = 8) : (stText l).size = 32 := by rw [stText_size, hl]
/-- The document's digest is the program's. -/
theorem digest_two (s : ByteArray) (hs : s.size ≤ 1000000000) : hashEnd (hashMore (stText first8) ⟨#[]⟩ 0 s).1 (hashMore (stText first8) ⟨#[]⟩ 0 s).2.1 (hashMore (stText first8) ⟨#[]⟩ 0 s).2.2 = digest s := by
  have ok0 : hOk (stText first8) ⟨#[]⟩ 0 = true := by
    unfold hOk
    exact decide_eq_true ⟨stText8 first8 rfl, by decide, by decide, rfl⟩
  have e : hashMore (stText first8) ⟨#[]⟩ 0 s = (stText (blks first8 s).1, (blks first8 s).2, (s.size : Int)) := by
    unfold hashMore
    rw [if_pos ⟨ok0, by omega⟩, txState_stText first8 rfl first8_range, show (⟨#[]⟩ : ByteArray) ++ s = s from by apply ba_ext; rw [bys_append]; rfl, Int.zero_add]
  rw [e]
  simp only
  have hl := blks_len first8 s rfl
  have ok1 : hOk (stText (blks first8 s).1) (blks first8 s).2 (s.size : Int) = true := by
    unfold hOk
    exact decide_eq_true ⟨stText8 _ hl, by omega, by omega, by rw [blks_size]; omega⟩
  unfold hashEnd digest
  rw [if_pos ok1, txState_stText _ hl (blks_range first8 s rfl first8_range), Int.toNat_natCast, ← blks_app]
theorem specHasherNew_calls (w : World) : Calls Tryd.prog 51 #[] w fun e_ w' => e_ = .returned (.agg #[.string (stText first8), .string ⟨#[]⟩, .int .i64 0]) ∧ Below w.heap.size w w' :=
  PHasherNew.spec_HasherNew.calls 9 _ _ _ w (by kernel_rfl)
set_option maxRecDepth 100000 in
theorem specDigest_calls (s : ByteArray) (hs : s.size ≤ 1000000000) (w : World) : Calls Tryd.prog 15 #[.string s] w fun e_ w' => e_ = .returned (.string (digest s)) ∧ Below w.heap.size w w' := by
  have HD := Aside0.mk (digest_two s hs)
  have HSs := Aside0.mk (show s.size ≤ 1152921504606846975 by omega)
  obtain ⟨F, hF⟩ : ∃ F, stText first8 = F := ⟨_, rfl⟩
  obtain ⟨h1, h2, h3, hh⟩ : ∃ a b c, hashMore F ⟨#[]⟩ 0 s = (a, b, c) := ⟨_, _, _, rfl⟩
  have HF := Aside0.mk (And.intro hF hh)
  clear hF hh hs
  go_enter Tryd.func15, Tryd.ntmps15
  go_wp2_with (first | (go_at_call 51; refine (specHasherNew_calls _).mono ?_; rw [HF.out.1]; rintro e_ w1 ⟨rfl, hb1⟩; have HB1 := Aside0.mk hb1; clear hb1) | (go_at_call 18; refine (specHashMore_calls F ⟨#[]⟩ 0 s ⟨by decide, by decide⟩ HSs.out _).mono ?_; rw [HF.out.2]; rintro e_ w2 ⟨rfl, hb2⟩; have HB2 := Aside0.mk (below_step HB1.out hb2); clear hb2) | (go_at_call 22; refine (specHashEnd_calls h1 h2 h3 _).mono ?_; rintro e_ w3 ⟨rfl, hb3⟩; have HB3 := Aside0.mk (below_step HB2.out hb3); clear hb3))
  go_ret
  refine ⟨?_, HB3.out⟩
  rw [← HD.out, HF.out.1, HF.out.2]
  rfl
end Go.Proofs.YtlddohppkcndjaaDoor.Sha
