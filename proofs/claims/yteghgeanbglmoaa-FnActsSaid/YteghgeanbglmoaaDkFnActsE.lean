/- An act, told once. No condition. -/
import Derived.Test.YteghgeanbglmoaaDkFnActsA
import Derived.Test.YteghgeanbglmoaaDkFnActsT
import Derived.Test.YteghgeanbglmoaaDkFnActsD
import Derived.Test.YteghgeanbglmoaaDkFnActsF
import Derived.Test.YteghgeanbglmoaaDkFnActsW
import Derived.Test.YteghgeanbglmoaaDkFnActsP
import Derived.Test.YteghgeanbglmoaaDkFnActsL
import Derived.Deep.RegionLaw
namespace Go.Proofs.Yteghgeanbglmoaa.PFnActs
open Go.RowKit Go.Proofs.YteghgeanbglmoaaW.PrintWords Go.Proofs.YteghgeanbglmoaaW.PrintLast Go.Proofs.YteghgeanbglmoaaW.PrintMore
attribute [local go_sem] max_two min_two
set_option linter.unusedVariables false
set_option linter.unusedSimpArgs false
/-! ### an act, told once for both texts -/
theorem bl_irr : ∀ a : List UInt8, Op.bytesLess a a = false
 | [] => rfl
 | a :: x => by
  have h : ¬ a < a := UInt8.lt_irrefl a
  simp [Op.bytesLess, h, bl_irr x]
theorem bl_trans : ∀ a b c : List UInt8, Op.bytesLess a b = true → Op.bytesLess b c = true → Op.bytesLess a c = true
 | _, [], _, h, _ => by cases ‹List UInt8› <;> simp [Op.bytesLess] at h
 | _, _ :: _, [], _, h => by simp [Op.bytesLess] at h
 | [], _ :: _, _ :: _, _, _ => rfl
 | a :: x, b :: y, c :: z, h1, h2 => by
  simp only [Op.bytesLess, Bool.or_eq_true, decide_eq_true_eq, Bool.and_eq_true, beq_iff_eq] at h1 h2 ⊢
  rcases h1 with h1 | ⟨rfl, h1⟩
  ·rcases h2 with h2 | ⟨rfl, h2⟩
   ·exact .inl (UInt8.lt_trans h1 h2)
   ·exact .inl h1
  ·rcases h2 with h2 | ⟨rfl, h2⟩
   ·exact .inl h2
   ·exact .inr ⟨rfl, bl_trans x y z h1 h2⟩
theorem bl_asym (a b : List UInt8) (h : Op.bytesLess a b = true) : Op.bytesLess b a = false := by
 cases e : Op.bytesLess b a with
 | false => rfl
 | true => have := bl_trans a b a h e; rw [bl_irr] at this; cases this
theorem bl_ne (a b : List UInt8) (h : Op.bytesLess a b = true) : (a == b) = false := by
 cases e : a == b with
 | false => rfl
 | true => rw [beq_iff_eq.1 e, bl_irr] at h; cases h
theorem bl_cases (a b : List UInt8) : (Op.bytesLess a b = true) ∨ a = b ∨ (Op.bytesLess b a = true) := by
 have h := dk_tri a b
 cases e1 : Op.bytesLess a b with
 | true => exact .inl rfl
 | false =>
  cases e2 : a == b with
  | true => exact .inr (.inl (beq_iff_eq.1 e2))
  | false => rw [e1, e2] at h; exact .inr (.inr h.symm)
def Srt (l : List S67) : Prop := l.Pairwise (fun a b => Op.bytesLess a.f0.toList b.f0.toList = true)
theorem okD_lt (l : List S67) (h : okD l = true) (i : Nat) : ∀ j, i < j → j < l.length → Op.bytesLess (l.getD i z67).f0.toList (l.getD j z67).f0.toList = true
 | 0, hij, _ => by omega
 | j + 1, hij, hj => by
  have h1 := okD_at l h (j + 1) hj
  unfold okAt at h1
  simp only [Nat.add_sub_cancel, Bool.and_eq_true, Bool.or_eq_true, decide_eq_true_eq] at h1
  have h2 : Op.bytesLess (l.getD j z67).f0.toList (l.getD (j + 1) z67).f0.toList = true := by
   rcases h1.2 with h1 | h1
   ·omega
   ·exact h1
  rcases Nat.lt_or_ge i j with c | c
  ·exact bl_trans _ _ _ (okD_lt l h i j c (by omega)) h2
  ·have : i = j := by omega
   subst this
   exact h2
theorem getD_at (l : List S67) (i : Nat) (h : i < l.length) : l.getD i z67 = l[i] := by rw [List.getD_eq_getElem?_getD, List.getElem?_eq_getElem h]; rfl
theorem okD_srt (l : List S67) (h : okD l = true) : Srt l := by
 unfold Srt
 rw [List.pairwise_iff_getElem]
 intro i j hi hj hij
 have := okD_lt l h i j hij hj
 rwa [getD_at l i hi, getD_at l j hj] at this
theorem okD_mem (l : List S67) (h : okD l = true) (x : S67) (hx : x ∈ l) : nameB x.f0 = true := by
 obtain ⟨i, hi, rfl⟩ := List.getElem_of_mem hx
 have h1 := okD_at l h i hi
 unfold okAt okX at h1
 rw [getD_at l i hi] at h1
 simp only [Bool.and_eq_true] at h1
 unfold nameB
 rw [Bool.and_eq_true]
 exact h1.1.1
theorem filter_gt (s : List UInt8) : ∀ (t : List S67), (∀ x ∈ t, Op.bytesLess s x.f0.toList = true) → t.filter (fun x => !(x.f0.toList == s)) = t ∧ t.filter (fun x => Op.bytesLess x.f0.toList s) = [] ∧ t.filter (fun x => Op.bytesLess s x.f0.toList) = t
 | [], _ => ⟨rfl, rfl, rfl⟩
 | x :: t, h => by
  obtain ⟨h1, h2, h3⟩ := filter_gt s t (fun y hy => h y (List.mem_cons_of_mem _ hy))
  have hx := h x List.mem_cons_self
  have e1 : (x.f0.toList == s) = false := by
   cases e : x.f0.toList == s with
   | false => rfl
   | true => rw [beq_iff_eq.1 e, bl_irr] at hx; cases hx
  have e2 := bl_asym _ _ hx
  refine ⟨?_, ?_, ?_⟩
  ·rw [List.filter_cons, e1, h1]; rfl
  ·rw [List.filter_cons, e2, h2]; rfl
  ·rw [List.filter_cons, hx, h3]; rfl
theorem drop_without (s : ByteArray) : ∀ (l : List S67), Srt l → dropD l s = withoutD l s
 | [], _ => rfl
 | x :: t, h => by
  have ht := (List.pairwise_cons.1 h).2
  have hx := (List.pairwise_cons.1 h).1
  have ih := drop_without s t ht
  unfold dropD withoutD at ih ⊢
  rw [List.findIdx?_cons, List.filter_cons]
  cases e : x.f0.toList == s.toList with
  | true =>
   have := (filter_gt s.toList t (fun y hy => by have := hx y hy; rwa [beq_iff_eq.1 e] at this)).1
   simp [this]
  | false =>
   simp only [Bool.false_eq_true, if_false, Bool.not_false, if_true]
   rw [← ih]
   cases t.findIdx? (fun x => x.f0.toList == s.toList) with
   | none => rfl
   | some i => rfl
theorem insD_gt (f : S67) : ∀ (t : List S67), (∀ x ∈ t, Op.bytesLess f.f0.toList x.f0.toList = true) → insD t f = f :: t
 | [], _ => rfl
 | x :: t, h => by
  unfold insD
  rw [if_neg (by rw [bl_asym _ _ (h x List.mem_cons_self)]; exact Bool.false_ne_true)]
theorem ins_put (f : S67) : ∀ (l : List S67), Srt l → insD (withoutD l f.f0) f = putD l f
 | [], _ => rfl
 | x :: t, h => by
  have ht := (List.pairwise_cons.1 h).2
  have hx := (List.pairwise_cons.1 h).1
  have ih := ins_put f t ht
  rcases bl_cases x.f0.toList f.f0.toList with c | c | c
  ·have e1 := bl_ne _ _ c
   have e2 := bl_asym _ _ c
   unfold withoutD putD at ih ⊢
   rw [List.filter_cons, List.filter_cons, List.filter_cons, e1, c, e2]
   simp only [Bool.not_false, if_true, Bool.false_eq_true, if_false]
   unfold insD
   rw [if_pos c, ih]
   rfl
  ·obtain ⟨h1, h2, h3⟩ := filter_gt f.f0.toList t (fun y hy => by have := hx y hy; rwa [c] at this)
   unfold withoutD putD
   rw [List.filter_cons, List.filter_cons, List.filter_cons, c, bl_irr, h1, h2, h3]
   simp only [beq_self_eq_true, Bool.not_true, Bool.false_eq_true, if_false]
   exact insD_gt f t (fun y hy => by have := hx y hy; rwa [c] at this)
  ·obtain ⟨h1, h2, h3⟩ := filter_gt f.f0.toList t (fun y hy => bl_trans _ _ _ c (hx y hy))
   have e1 : (x.f0.toList == f.f0.toList) = false := by
    cases e : x.f0.toList == f.f0.toList with
    | false => rfl
    | true => rw [beq_iff_eq.1 e, bl_irr] at c; cases c
   have e2 := bl_asym _ _ c
   unfold withoutD putD
   rw [List.filter_cons, List.filter_cons, List.filter_cons, e1, e2, c, h1, h2, h3]
   simp only [Bool.not_false, if_true, Bool.false_eq_true, if_false]
   exact insD_gt f (x :: t) (fun y hy => by
    rcases List.mem_cons.1 hy with rfl | hy
    ·exact c
    ·exact bl_trans _ _ _ c (hx y hy))
theorem srt_without (l : List S67) (s : ByteArray) (h : Srt l) : Srt (withoutD l s) := List.Pairwise.filter _ h
def finD (L : List S67) : List S67 × Bool := if okD L = true then (L, true) else ([], false)
/-- What an act leaves of a disk. -/
def doA (l : List S67) (ki : Int) (an at_ ao : ByteArray) : List S67 × Bool :=
 if okD l = true ∧ nameB an = true then
  match l.findIdx? (fun x => x.f0.toList == an.toList) with
  | none => if ki = 1 ∧ ao.toList.isEmpty = true then finD (putD l ⟨an, (⟨#[]⟩ : ByteArray) ++ at_, 0⟩) else ([], false)
  | some j =>
   if ki = 1 then (if ao.toList.isEmpty = true then finD (putD l ⟨(l.getD j z67).f0, (l.getD j z67).f1 ++ at_, (l.getD j z67).f2⟩) else ([], false))
   else if at_.toList.isEmpty = true then
    (if ki = 3 then (if (l.getD j z67).f2 = ((l.getD j z67).f1.size : Int) ∧ (ao.toList == an.toList) = false ∧ nameB ao = true then finD (putD (withoutD l an) ⟨ao, (l.getD j z67).f1, (l.getD j z67).f2⟩) else ([], false))
    else if ao.toList.isEmpty = true then (if ki = 2 then finD (putD l ⟨(l.getD j z67).f0, (l.getD j z67).f1, ((l.getD j z67).f1.size : Int)⟩) else if ki = 4 then finD (withoutD l an) else ([], false)) else ([], false))
   else ([], false)
 else ([], false)
theorem toList_inj {s t : ByteArray} (h : s.toList = t.toList) : s = t := by
 rw [ByteArray.toList_eq, ByteArray.toList_eq] at h
 cases s; cases t
 simp only [ByteArray.mk.injEq]
 exact Array.toList_inj.mp h
theorem find_name {l : List S67} {an : ByteArray} {j : Nat} (h : l.findIdx? (fun x => x.f0.toList == an.toList) = some j) : j < l.length ∧ (l.getD j z67).f0 = an := by
 obtain ⟨hj, h1, _⟩ := List.findIdx?_eq_some_iff_getElem.1 h
 exact ⟨hj, by rw [getD_at l j hj]; exact toList_inj (by simpa using h1)⟩
theorem putD_mem (l : List S67) (f : S67) : f ∈ putD l f := by unfold putD; simp
theorem fin_bad {L : List S67} {x : S67} (hx : x ∈ L) (hn : nameB x.f0 = false) : okD L = false := by
 cases e : okD L with
 | false => rfl
 | true => rw [okD_mem L e x hx] at hn; cases hn
theorem putD_len (l : List S67) (f : S67) : (putD l f).length ≤ 2 * l.length + 1 := by
 unfold putD
 have h1 := dk_flen l (fun x => Op.bytesLess x.f0.toList f.f0.toList)
 have h2 := dk_flen l (fun x => Op.bytesLess f.f0.toList x.f0.toList)
 simp only [List.length_append, List.length_singleton]
 omega
theorem without_len (l : List S67) (s : ByteArray) : (withoutD l s).length ≤ l.length := List.length_filter_le _ l
theorem insD_len (f : S67) : ∀ l : List S67, (insD l f).length = l.length + 1
 | [] => rfl
 | x :: l => by unfold insD; split <;> simp [insD_len f l]
end Go.Proofs.Yteghgeanbglmoaa.PFnActs
