/- The exclusive or of each byte of a text with one; one byte of a text turned. -/
import Derived.Test.YtlddohppkcndjaaDoorShaL
namespace Go.Proofs.YtlddohppkcndjaaDoor.Sha
open Go.RowKit Go.Proofs.YtlddohppkcndjaaDoorW.PrintWords Go.Proofs.YtlddohppkcndjaaDoorW.PrintLast Go.Proofs.YtlddohppkcndjaaDoorW.PrintMore
set_option linter.unusedVariables false
set_option linter.unusedSimpArgs false
theorem brow_at {base : Nat} {w : World} {g cap n : Nat} {xs : List Int} (h : BRow base w (.slice (some ⟨g, 0, none⟩) n cap) xs) (i : Nat) (hi : i < n) : w.cell? ⟨g, i, none⟩ = some (.int .u8 (xs.getD i 0)) ∧ w.frozen? ⟨g, i, none⟩ = false := by
  obtain ⟨hn, hc⟩ := brow_cell h
  constructor
  · refine hc i _ ?_
    unfold u8s
    rw [List.getElem?_map, List.getD_eq_getElem?_getD, List.getElem?_eq_getElem (by omega)]
    rfl
  · obtain ⟨g', cap', cur, fr, hv, hb, hg, h1, h2, hf, ht⟩ := h
    injection hv with ha hn' hc'
    injection ha with ha
    injection ha with hgg
    subst hgg
    exact hf i (by omega)
theorem brow_set {base : Nat} {w : World} {g cap n : Nat} {xs : List Int} (h : BRow base w (.slice (some ⟨g, 0, none⟩) n cap) xs) (i : Nat) (z : Int) : BRow base (w.setCell ⟨g, i, none⟩ (.int .u8 z)) (.slice (some ⟨g, 0, none⟩) n cap) (xs.set i z) ∧ base ≤ g := by
  obtain ⟨g', cap', cur, fr, hv, hb, hg, h1, h2, hf, ht⟩ := h
  injection hv with ha hn' hc'
  injection ha with ha
  injection ha with hgg
  subst hgg
  subst hn'
  subst hc'
  refine ⟨⟨g, cap, cur.setIfInBounds i (.int .u8 z), fr, by rw [List.length_set], hb, heap_set hg _, by rw [List.length_set]; exact h1, by rw [Array.size_setIfInBounds]; exact h2, fun j hj => by rw [frozen_setCell hg]; exact hf j hj, ?_⟩, hb⟩
  rw [Array.toList_setIfInBounds, List.length_set, List.take_set, ht]
  unfold u8s
  rw [List.map_set]
theorem brow_string {base : Nat} {w : World} {g cap n : Nat} {xs : List Int} (h : BRow base w (.slice (some ⟨g, 0, none⟩) n cap) xs) : (convert 51 9 (.slice (some ⟨g, 0, none⟩) n cap)).run Tryd.prog w = .ok (.string (strOfNums xs)) w := by
  obtain ⟨hn, _⟩ := brow_cell h
  exact run_convert_bytes_arg w 51 5 Tryd.underlying51 Tryd.underlying5 g 0 n cap xs hn.symm (fun i hi => by rw [Nat.zero_add]; exact (brow_at h i hi).1) 9 Tryd.underlying9
/-- The exclusive or of each byte with one. -/
def xorL (xs : List Int) (x : Int) : List Int := xs.map fun z => Go.bits .xor .u8 z x
def xorTo (xs : List Int) (x : Int) (i : Nat) : List Int := xorL (xs.take i) x ++ xs.drop i
theorem xorTo_at (xs : List Int) (x : Int) (i : Nat) (h : i < xs.length) : (xorTo xs x i).getD i 0 = xs.getD i 0 := by
  have hl : (xorL (xs.take i) x).length = i := by unfold xorL; rw [List.length_map, List.length_take]; omega
  unfold xorTo
  rw [List.getD_eq_getElem?_getD, List.getD_eq_getElem?_getD, List.getElem?_append_right (by omega), hl, Nat.sub_self, List.getElem?_drop]
  rfl
theorem xorTo_step (xs : List Int) (x : Int) (i : Nat) (h : i < xs.length) : (xorTo xs x i).set i (Go.bits .xor .u8 (xs.getD i 0) x) = xorTo xs x (i + 1) := by
  have hl : (xorL (xs.take i) x).length = i := by unfold xorL; rw [List.length_map, List.length_take]; omega
  unfold xorTo
  rw [List.set_append_right _ _ (by omega), hl, Nat.sub_self, List.drop_eq_getElem_cons h, List.set_cons_zero, List.take_add_one, List.getElem?_eq_getElem h]
  unfold xorL
  rw [List.map_append, List.getD_eq_getElem?_getD, List.getElem?_eq_getElem h, List.append_assoc]
  rfl
def xorText (s : ByteArray) (x : Int) : ByteArray := strOfNums (xorL (bys s) x)
set_option maxHeartbeats 4000000 in
set_option maxRecDepth 100000 in
theorem xored_calls (s : ByteArray) (x : Int) (hs : s.size ≤ 1152921504606846975) (w : World) : Calls Tryd.prog 63 #[.string s, .int .u8 x] w fun e_ w' => e_ = .returned (.string (xorText s x)) ∧ Below w.heap.size w w' := by
  have HB := Aside0.mk (Below.refl w.heap.size w)
  go_enter Tryd.func63, Tryd.ntmps63
  go_wp2_with ((with_reducible refine gate_dst (N := 8) rfl ?_); refine wpList_bytes rfl (.tmp 7) rfl (base := w.heap.size) (s := s) (Nat.le_refl _) rfl ?_; intro v3 w2 hv3 hb2; have HR := Aside0.mk hv3; have HB2 := Aside0.mk hb2; clear hv3 hb2; obtain ⟨g3, cap3, hg3⟩ : ∃ g cap, v3 = .slice (some ⟨g, 0, none⟩) s.size cap := (by obtain ⟨g, cap, _, _, h, _⟩ := HR.out; rw [bys_len] at h; exact ⟨g, cap, h⟩); subst hg3)
  go_loopg [11] s.size (fun k s11 wx => ∃ i : Nat, i + k = s.size ∧ s11 = .int .i64 i ∧ Aside0 (BRow w.heap.size wx (.slice (some ⟨g3, 0, none⟩) s.size cap3) (xorTo (bys s) x i) ∧ Below w.heap.size w wx))
  case atStart => exact ⟨0, by omega, rfl, ⟨HR.out, HB2.out⟩⟩
  case round =>
    obtain ⟨i, hik, rfl, HX⟩ := hrel
    cases gk with
    | zero =>
      obtain rfl : i = s.size := by omega
      have hi : ¬ ((s.size : Int) < (s.size : Int)) := by omega
      have hcv := brow_string HX.out.1
      have e : strOfNums (xorTo (bys s) x s.size) = xorText s x := by
        unfold xorText xorTo
        rw [List.take_of_length_le (by rw [bys_len]; exact Nat.le_refl _), List.drop_of_length_le (by rw [bys_len]; exact Nat.le_refl _), List.append_nil]
      rw [e] at hcv
      clear hik e HR HB2
      go_wp2
      go_ret
      exact ⟨rfl, HX.out.2⟩
    | succ kk =>
      have hi : (i : Int) < (s.size : Int) := by omega
      have hi9 : (i : Int) ≤ 1152921504606846975 := by omega
      obtain ⟨z, hz⟩ : ∃ z, (bys s).getD i 0 = z := ⟨_, rfl⟩
      have hbl : i < (bys s).length := by rw [bys_len]; omega
      have hc := (brow_at HX.out.1 i (by omega)).1
      have hf := (brow_at HX.out.1 i (by omega)).2
      rw [xorTo_at _ _ _ hbl, hz] at hc
      have HI := Aside0.mk (And.intro hik (And.intro hz hbl))
      clear hik hz hbl HR HB2
      go_wp2
      go_roundg kk
      case measure => omega
      case rel =>
        obtain ⟨hik, hz, hbl⟩ := HI.out
        obtain ⟨hs1, hs2⟩ := brow_set HX.out.1 i (Go.bits .xor .u8 z x)
        refine ⟨i + 1, by omega, by go_num, ⟨?_, HX.out.2.setCell (show w.heap.size ≤ g3 from hs2) _⟩⟩
        rw [← xorTo_step _ _ _ hbl, hz]
        exact hs1
/-- One byte of a text is another; of an empty text 'x'. -/
def turnText (s : ByteArray) (p0 p1 : Int) : ByteArray := if s.size = 0 then ⟨#[120]⟩ else strOfNums ((bys s).set (Int.tmod p0 s.size).toNat (Go.bits .xor .u8 ((bys s).getD (Int.tmod p0 s.size).toNat 0) ((wrap64 (1 + Int.tmod p1 255)) % 256)))
end Go.Proofs.YtlddohppkcndjaaDoor.Sha
