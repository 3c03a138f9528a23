/- The program's ReadDecimal at every string, under the library's table and its sentinel. -/
import Derived.Test.YtkdmmaeblknlnaaDoorNum
import Derived.Shelf.Strconv.Atoi
import Derived.Shelf.Strconv.AtoiErr
import Derived.Lib.AtoiErrMem
import Derived.Lib.AtoiBound
import Derived.Stop.LaidErr
namespace Go.Proofs.YtkdmmaeblknlnaaDoor.Num
open Go.RowKit Go.Shelf

/-- What ReadDecimal answers, in the shelf's words. -/
def readR (l : List UInt8) : Int × Bool :=
  if 1 ≤ l.length ∧ l.length ≤ 10 then
    match Lib.atoi l with
    | none => (0, false)
    | some v => if 0 ≤ v ∧ v ≤ 1000000000 ∧ Lib.itoa v = l then (v, true) else (0, false)
  else (0, false)

def Syn (w : World) : Prop := ∃ tp p, w.cell? ⟨0, 0, none⟩ = some (.iface tp p)
theorem syn_below {w w' : World} (h : Syn w) (hb : Below w.heap.size w w') : Syn w' := by
  obtain ⟨tp, p, h⟩ := h
  have hlt : (⟨0, 0, none⟩ : Addr).block < w.heap.size := by
    rcases Nat.lt_or_ge (⟨0, 0, none⟩ : Addr).block w.heap.size with h' | h'
    · exact h'
    · simp [World.cell?, Array.getElem?_eq_none h'] at h
  exact ⟨tp, p, (hb.cell hlt).trans h⟩

theorem atoi_ok (s : ByteArray) (n : Int) (hl : s.size ≤ 18) (h : Lib.atoi s.data.toList = some n) (w : World) :
    Calls Tryd.prog 22 #[.string s] w fun e w' => e = .returned (.tuple #[.int .i64 n, .nilIface]) ∧ Below w.heap.size w w' := by
  refine Calls.mono (Any.strconv_Atoi { lays172 with } s n hl h w) ?_
  rintro e w' ⟨rfl, t, rfl⟩
  exact ⟨rfl, Lib.bytesWorld_below _ _ _⟩
theorem atoi_no (s : ByteArray) (hl : s.size ≤ 18) (h : Lib.atoi s.data.toList = none) (w : World) (hs : Syn w) :
    Calls Tryd.prog 22 #[.string s] w fun e w' => ∃ N, e = .returned (.tuple #[.int .i64 0, .iface 63 (.pointer (some ⟨N, 0, none⟩))]) ∧ Below w.heap.size w w' := by
  obtain ⟨tp, p, hc⟩ := hs
  refine Calls.mono (Any.strconv_Atoi_err lays172 s hl h (.iface tp p) w hc (Or.inr ⟨tp, p, rfl⟩)) ?_
  rintro e w' ⟨N, rfl, _, _, hb⟩
  exact ⟨N, rfl, hb⟩
theorem in_calls (a b c : Int) (w : World) : Calls Tryd.prog 21 #[.int .i64 a, .int .i64 b, .int .i64 c] w fun e w' => e = .returned (.bool (decide (b ≤ a) && decide (a ≤ c))) ∧ Below w.heap.size w w' := by
  go_enter Tryd.func21, Tryd.ntmps21
  by_cases h : b ≤ a
  · go_wp2
    all_goals go_ret
    all_goals exact ⟨by first | (simp [*]; done) | (simp [*]; omega), Below.refl _ _⟩
  · go_wp2
    all_goals go_ret
    all_goals exact ⟨by first | (simp [*]; done) | (simp [*]; omega), Below.refl _ _⟩

theorem toList_data (s : ByteArray) : s.toList = s.data.toList := by rw [ByteArray.toList_eq]
set_option maxHeartbeats 2000000 in
set_option maxRecDepth 100000 in
theorem read_calls (s : ByteArray) (hs : s.size ≤ 9223372036854775807) (w : World) (htab : Tab w) (hsyn : Syn w) :
    Calls Tryd.prog 9 #[.string s] w fun e w' => e = .returned (.tuple #[.int .i64 (readR s.data.toList).1, .bool (readR s.data.toList).2]) ∧ Below w.heap.size w w' := by
  have hsz : s.data.toList.length = s.size := by rw [Array.length_toList]; rfl
  have hB := Below.refl w.heap.size w
  by_cases c : 1 ≤ s.size ∧ s.size ≤ 10
  · have hin : (decide ((1 : Int) ≤ (s.size : Int)) && decide ((s.size : Int) ≤ 10)) = true := by simp; omega
    cases ha : Lib.atoi s.data.toList with
    | none =>
      have hr : readR s.data.toList = (0, false) := by unfold readR; rw [if_pos (by omega), ha]
      rw [hr]
      go_enter Tryd.func9, Tryd.ntmps9
      go_wp2_with (first | (go_at_call 21; refine (in_calls _ _ _ _).mono ?_; rintro e w1 ⟨rfl, hb⟩; replace hB := hB.trans (hb.mono hB.size); clear hb; rw [hin]) | (go_at_call 22; refine (atoi_no s (by omega) ha _ (syn_below hsyn hB)).mono ?_; rintro e w1 ⟨N, rfl, hb⟩; replace hB := hB.trans (hb.mono hB.size); clear hb))
      all_goals go_ret2
      all_goals exact ⟨rfl, hB⟩
    | some v =>
      have vb := Lib.atoi_bound ha (by omega)
      by_cases d : 0 ≤ v ∧ v ≤ 1000000000
      · have hin2 : (decide ((0 : Int) ≤ v) && decide (v ≤ 1000000000)) = true := by simp; omega
        by_cases e : Lib.itoa v = s.data.toList
        · have hr : readR s.data.toList = (v, true) := by unfold readR; rw [if_pos (by omega), ha]; simp only; rw [if_pos ⟨d.1, d.2, e⟩]
          have es : (⟨(Lib.itoa v).toArray⟩ : ByteArray) = s := by rw [e]
          rw [hr]
          go_enter Tryd.func9, Tryd.ntmps9
          go_wp2_with (first | (go_at_call 21; refine (in_calls _ _ _ _).mono ?_; rintro e w1 ⟨rfl, hb⟩; replace hB := hB.trans (hb.mono hB.size); clear hb; first | rw [hin] | rw [hin2]) | (go_at_call 22; refine (atoi_ok s v (by omega) ha _).mono ?_; rintro e w1 ⟨rfl, hb⟩; replace hB := hB.trans (hb.mono hB.size); clear hb) | (go_at_call 7; refine (dec_calls v (by omega) (by omega) _ (tab_below htab hB)).mono ?_; rintro e w1 ⟨rfl, hb⟩; replace hB := hB.trans (hb.mono hB.size); clear hb; rw [es]))
          all_goals go_ret2
          all_goals exact ⟨rfl, hB⟩
        · have hr : readR s.data.toList = (0, false) := by unfold readR; rw [if_pos (by omega), ha]; simp only; rw [if_neg (fun q => e q.2.2)]
          have es : (Lib.itoa v == s.toList) = false := by rw [toList_data]; exact beq_eq_false_iff_ne.mpr e
          rw [hr]
          go_enter Tryd.func9, Tryd.ntmps9
          go_wp2_with (first | (go_at_call 21; refine (in_calls _ _ _ _).mono ?_; rintro e w1 ⟨rfl, hb⟩; replace hB := hB.trans (hb.mono hB.size); clear hb; first | rw [hin] | rw [hin2]) | (go_at_call 22; refine (atoi_ok s v (by omega) ha _).mono ?_; rintro e w1 ⟨rfl, hb⟩; replace hB := hB.trans (hb.mono hB.size); clear hb) | (go_at_call 7; refine (dec_calls v (by omega) (by omega) _ (tab_below htab hB)).mono ?_; rintro e w1 ⟨rfl, hb⟩; replace hB := hB.trans (hb.mono hB.size); clear hb))
          all_goals go_ret2
          all_goals exact ⟨rfl, hB⟩
      · have hin2 : (decide ((0 : Int) ≤ v) && decide (v ≤ 1000000000)) = false := by simp; omega
        have hr : readR s.data.toList = (0, false) := by unfold readR; rw [if_pos (by omega), ha]; simp only; rw [if_neg (fun q => d ⟨q.1, q.2.1⟩)]
        rw [hr]
        go_enter Tryd.func9, Tryd.ntmps9
        go_wp2_with (first | (go_at_call 21; refine (in_calls _ _ _ _).mono ?_; rintro e w1 ⟨rfl, hb⟩; replace hB := hB.trans (hb.mono hB.size); clear hb; first | rw [hin] | rw [hin2]) | (go_at_call 22; refine (atoi_ok s v (by omega) ha _).mono ?_; rintro e w1 ⟨rfl, hb⟩; replace hB := hB.trans (hb.mono hB.size); clear hb) | (go_at_call 7; refine (dec_calls v (by omega) (by omega) _ (tab_below htab hB)).mono ?_; rintro e w1 ⟨rfl, hb⟩; replace hB := hB.trans (hb.mono hB.size); clear hb))
        all_goals go_ret2
        all_goals exact ⟨rfl, hB⟩
  · have hin : (decide ((1 : Int) ≤ (s.size : Int)) && decide ((s.size : Int) ≤ 10)) = false := by simp; omega
    have hr : readR s.data.toList = (0, false) := by unfold readR; rw [if_neg (by omega)]
    rw [hr]
    go_enter Tryd.func9, Tryd.ntmps9
    go_wp2_with (first | (go_at_call 21; refine (in_calls _ _ _ _).mono ?_; rintro e w1 ⟨rfl, hb⟩; replace hB := hB.trans (hb.mono hB.size); clear hb; rw [hin]))
    all_goals go_ret2
    all_goals exact ⟨rfl, hB⟩
theorem gES : Tryd.prog.globalNamed "strconv.ErrSyntax" = some 0 := by kernel_rfl
theorem gESType : (Tryd.prog.globals[0]?).map (·.type) = some 41 := by kernel_rfl
theorem star : "*" ++ "errors.errorString" = "*errors.errorString" := by decide
theorem row85 (u : TypeId) (h : Tryd.prog.typeName? 3 u = some "*errors.errorString") : u = 85 :=
  typeName_ptr_named (nm := "errors.errorString") (by rw [star]; kernel_rfl) (by kernel_rfl) (by decide) u (by rw [star]; exact h)
theorem cells87 : Tryd.prog.cellsOf 87 = 1 := by kernel_rfl
theorem cells9 : Tryd.prog.cellsOf 9 = 1 := by kernel_rfl
theorem syn_of {W : World} {text : List UInt8} {r : List (String × DataW Unit)} (h : laidMet Tryd.prog (("strconv.ErrSyntax", .iface "*errors.errorString" (.ptr (.agg [.lit (.string text)]))) :: r) W) : Syn W := by
  obtain ⟨a0, s0, hv0, -, -, -⟩ := laid_sentinel h gES gESType Tryd.underlying41 row85 Tryd.underlying85 Tryd.underlying87 rfl rfl Tryd.underlying9 cells87 cells9
  exact ⟨_, _, by have h0 := World.var?_cell gES hv0 0; simpa using h0⟩
end Go.Proofs.YtkdmmaeblknlnaaDoor.Num
