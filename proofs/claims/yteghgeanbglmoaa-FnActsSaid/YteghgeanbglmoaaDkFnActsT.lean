/- The place of a name, by both texts. No condition. -/
import Derived.Test.YteghgeanbglmoaaDkFnActsA
namespace Go.Proofs.Yteghgeanbglmoaa.PFnActs
open Go.RowKit Go.Proofs.YteghgeanbglmoaaW.PrintWords Go.Proofs.YteghgeanbglmoaaW.PrintLast Go.Proofs.YteghgeanbglmoaaW.PrintMore
attribute [local go_sem] max_two min_two
set_option linter.unusedVariables false
set_option linter.unusedSimpArgs false
theorem dk_at_yes (l : List S67) (s : ByteArray) (i : Nat) (hi : i < l.length) (h : ((l.getD i z67).f0.toList == s.toList) = true) (hn : ∀ j, j < i → ((l.getD j z67).f0.toList == s.toList) = false) : l.findIdx? (fun x => x.f0.toList == s.toList) = some i := by
 rw [List.findIdx?_eq_some_iff_getElem]
 have e : ∀ j (hj : j < l.length), l.getD j z67 = l[j] := fun j hj => by rw [List.getD_eq_getElem?_getD, List.getElem?_eq_getElem hj]; rfl
 refine ⟨hi, by rw [← e i hi]; exact h, fun j hj => ?_⟩
 rw [← e j (by omega)]
 rw [hn j hj]
 exact Bool.false_ne_true
theorem dk_at_no (l : List S67) (s : ByteArray) (hn : ∀ j, j < l.length → ((l.getD j z67).f0.toList == s.toList) = false) : l.findIdx? (fun x => x.f0.toList == s.toList) = none := by
 rw [List.findIdx?_eq_none_iff]
 intro x hx
 obtain ⟨j, hj, rfl⟩ := List.getElem_of_mem hx
 have := hn j hj
 rwa [List.getD_eq_getElem?_getD, List.getElem?_eq_getElem hj] at this
/-- The place of a name, or -1. -/
def atD (l : List S67) (s : ByteArray) : Int := match l.findIdx? (fun x => x.f0.toList == s.toList) with
 | some i => (i : Int)
 | none => -1
theorem atD_yes (l : List S67) (s : ByteArray) (i : Nat) (h : l.findIdx? (fun x => x.f0.toList == s.toList) = some i) : atD l s = (i : Int) := by unfold atD; rw [h]
theorem atD_no (l : List S67) (s : ByteArray) (h : l.findIdx? (fun x => x.f0.toList == s.toList) = none) : atD l s = -1 := by unfold atD; rw [h]
set_option maxHeartbeats 8000000 in
set_option maxRecDepth 100000 in
theorem at53 (A : Option Addr) (c : Nat) (l : List S67) (s : ByteArray) (w : World) (hr : Kd.C k67 w A l.length l) (hc : l.length ≤ c) (hl : l.length ≤ 1000000000) :
  Calls Try.prog 53 #[.agg #[.slice A l.length c], .string s] w fun e w' => e = .returned (.int .i64 (atD l s)) ∧ Below w.heap.size w w' := by
 have HL := Aside0.mk hl
 have hS : dkSt w w.heap.size A l.length c l (w.alloc (.cells #[.slice A l.length c] 29)) := ⟨blk_new _ _, Kd.C_alloc hr _, below_alloc (Below.refl _ _) _⟩
 have HS := Aside0.mk hS
 have HT := Aside0.mk (show ∀ j, j < 0 → ((l.getD j z67).f0.toList == s.toList) = false from fun j h => by omega)
 clear hr hc hl hS
 go_enter Try.func53, Try.ntmps53
 go_wp2
 go_loopg [5] l.length (fun g v5 w' => ∃ i : Nat, i + g = l.length ∧ v5 = .int .i64 (i : Int) ∧ Aside0 (∀ j, j < i → ((l.getD j z67).f0.toList == s.toList) = false) ∧ Aside0 (dkSt w w.heap.size A l.length c l w'))
 case atStart => exact ⟨0, by omega, rfl, HT, HS⟩
 case round =>
  clear HS HT
  rename_i w' _
  obtain ⟨i, hi, rfl, HT, HS⟩ := hrel
  have hcr := (blk_cell HS.out.1 0).trans rfl
  cases gk with
  | zero =>
   have hii : i = l.length := by omega
   subst hii
   have hlt2 : decide ((l.length : Int) < (l.length : Int)) = false := decide_eq_false (by omega)
   have hlt : ¬ ((l.length : Int) < (l.length : Int)) := by omega
   clear hi
   go_wp2
   go_ret
   exact ⟨by rw [atD_no l s (dk_at_no l s HT.out)]; rfl, by repeat (first | exact HS.out.2.2 | refine pw_below_drewN ?_ _)⟩
  | succ kk =>
   have hlt : (i : Int) < (l.length : Int) := by omega
   have hlt2 : decide ((i : Int) < (l.length : Int)) = true := decide_eq_true hlt
   have hi0 : (0 : Int) ≤ (i : Int) := Int.natCast_nonneg i
   have hin : i < l.length := by omega
   obtain ⟨ad, ea, hx0, hx1, hx2⟩ := dk_row HS.out.2.1 i hin
   subst ea
   have hp0 := eq_true hi0
   have hq0 := eq_true hlt
   have HI := Aside0.mk hi
   have hwi : wrap64 ((i : Int) + 1) = ((i + 1 : Nat) : Int) := by have := HL.out; unfold wrap64; omega
   have HWI := Aside0.mk hwi
   have hyes := fun h => atD_yes l s i (dk_at_yes l s i hin h HT.out)
   have HYES := Aside0.mk hyes
   have hnx : ((l.getD i z67).f0.toList == s.toList) = false → ∀ j, j < i + 1 → ((l.getD j z67).f0.toList == s.toList) = false := fun h j hj => by
    rcases Nat.lt_or_ge j i with c | c
    ·exact HT.out j c
    ·have : j = i := by omega
     subst this
     exact h
   have HNX := Aside0.mk hnx
   obtain ⟨x, hx⟩ : ∃ x, l.getD i z67 = x := ⟨_, rfl⟩
   have HX := Aside0.mk hx
   rw [hx] at hx0 hx1 hx2
   obtain ⟨fn, ft, fk⟩ := x
   simp only at hx0 hx1 hx2
   clear hi hyes hnx hx
   cases hb : (fn.toList == s.toList) with
   | true =>
    go_wp2
    go_ret
    exact ⟨by rw [HYES.out (by rw [HX.out]; exact hb)]; rfl, HS.out.2.2⟩
   | false =>
    go_wp2
    go_roundg kk
    case measure => have := HI.out; omega
    case rel => exact ⟨i + 1, by have := HI.out; omega, by first | rfl | (rw [HWI.out]), ⟨HNX.out (by rw [HX.out]; exact hb)⟩, ⟨HS.out⟩⟩
set_option maxHeartbeats 8000000 in
set_option maxRecDepth 100000 in
theorem at54 (A : Option Addr) (c : Nat) (l : List S67) (s : ByteArray) (w : World) (hr : Kd.C k67 w A l.length l) (hc : l.length ≤ c) (hl : l.length ≤ 1000000000) :
  Calls Try.prog 54 #[.agg #[.slice A l.length c], .string s] w fun e w' => e = .returned (.int .i64 (atD l s)) ∧ Below w.heap.size w w' := by
 have HL := Aside0.mk hl
 have hS : dkSt w w.heap.size A l.length c l (w.alloc (.cells #[.slice A l.length c] 29)) := ⟨blk_new _ _, Kd.C_alloc hr _, below_alloc (Below.refl _ _) _⟩
 have HS := Aside0.mk hS
 have HT := Aside0.mk (show ∀ j, j < 0 → ((l.getD j z67).f0.toList == s.toList) = false from fun j h => by omega)
 clear hr hc hl hS
 go_enter Try.func54, Try.ntmps54
 go_wp2
 go_loopg [10] l.length (fun g v10 w' => ∃ i : Nat, i + g = l.length ∧ v10 = .int .i64 (i : Int) ∧ Aside0 (∀ j, j < i → ((l.getD j z67).f0.toList == s.toList) = false) ∧ Aside0 (dkSt w w.heap.size A l.length c l w'))
 case atStart => exact ⟨0, by omega, rfl, HT, HS⟩
 case round =>
  clear HS HT
  rename_i w' _
  obtain ⟨i, hi, rfl, HT, HS⟩ := hrel
  have hcr := (blk_cell HS.out.1 0).trans rfl
  cases gk with
  | zero =>
   have hii : i = l.length := by omega
   subst hii
   have hlt2 : decide ((l.length : Int) < (l.length : Int)) = false := decide_eq_false (by omega)
   have hlt : ¬ ((l.length : Int) < (l.length : Int)) := by omega
   clear hi
   go_wp2
   go_ret
   exact ⟨by rw [atD_no l s (dk_at_no l s HT.out)]; rfl, by repeat (first | exact HS.out.2.2 | refine pw_below_drewN ?_ _)⟩
  | succ kk =>
   have hlt : (i : Int) < (l.length : Int) := by omega
   have hlt2 : decide ((i : Int) < (l.length : Int)) = true := decide_eq_true hlt
   have hi0 : (0 : Int) ≤ (i : Int) := Int.natCast_nonneg i
   have hin : i < l.length := by omega
   obtain ⟨ad, ea, hx0, hx1, hx2⟩ := dk_row HS.out.2.1 i hin
   subst ea
   have hp0 := eq_true hi0
   have hq0 := eq_true hlt
   have HI := Aside0.mk hi
   have hwi : wrap64 ((i : Int) + 1) = ((i + 1 : Nat) : Int) := by have := HL.out; unfold wrap64; omega
   have HWI := Aside0.mk hwi
   have hyes := fun h => atD_yes l s i (dk_at_yes l s i hin h HT.out)
   have HYES := Aside0.mk hyes
   have hnx : ((l.getD i z67).f0.toList == s.toList) = false → ∀ j, j < i + 1 → ((l.getD j z67).f0.toList == s.toList) = false := fun h j hj => by
    rcases Nat.lt_or_ge j i with c | c
    ·exact HT.out j c
    ·have : j = i := by omega
     subst this
     exact h
   have HNX := Aside0.mk hnx
   obtain ⟨x, hx⟩ : ∃ x, l.getD i z67 = x := ⟨_, rfl⟩
   have HX := Aside0.mk hx
   rw [hx] at hx0 hx1 hx2
   obtain ⟨fn, ft, fk⟩ := x
   simp only at hx0 hx1 hx2
   clear hi hyes hnx hx
   cases hb : (fn.toList == s.toList) with
   | true =>
    go_wp2
    go_ret
    exact ⟨by rw [HYES.out (by rw [HX.out]; exact hb)]; rfl, below_alloc HS.out.2.2 _⟩
   | false =>
    go_wp2
    go_roundg kk
    case measure => have := HI.out; omega
    case rel => exact ⟨i + 1, by have := HI.out; omega, by first | rfl | (rw [HWI.out]), ⟨HNX.out (by rw [HX.out]; exact hb)⟩, ⟨dkSt_below HS.out (below_alloc (Below.refl _ _) _)⟩⟩
end Go.Proofs.Yteghgeanbglmoaa.PFnActs
