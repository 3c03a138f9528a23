/- The reference's Decimal writes what strconv.Itoa writes. -/
import Derived.Test.YtkdmmaeblknlnaaDoorPDecimalx1
import Derived.Lib.ItoaNum
set_option linter.unusedVariables false
set_option linter.unusedSimpArgs false
namespace Go.Proofs.YtkdmmaeblknlnaaDoor.Pure
open Go.RowKit Go.Proofs.YtkdmmaeblknlnaaDoor.PDecimal Go.Proofs.YtkdmmaeblknlnaaDoorW.PrintWords Go.Proofs.YtkdmmaeblknlnaaDoorW.PrintLast Go.Proofs.YtkdmmaeblknlnaaDoorW.PrintMore

-- snippet plain
/-! bytes as numbers -/
def bl (s : ByteArray) : List Int := s.data.toList.map fun b => (b.toNat : Int)
theorem bl_len (s : ByteArray) : (bl s).length = s.size := by unfold bl; rw [List.length_map, Array.length_toList]; rfl
theorem map_u8_inj : ∀ {a b : List UInt8}, a.map (fun b => (b.toNat : Int)) = b.map (fun b => (b.toNat : Int)) → a = b
  | [], [], _ => rfl
  | [], _ :: _, h => by simp at h
  | _ :: _, [], h => by simp at h
  | x :: a, y :: b, h => by
    simp only [List.map_cons, List.cons.injEq] at h
    have e : x = y := UInt8.toNat_inj.mp (by omega)
    rw [e, map_u8_inj h.2]
theorem bl_inj {s t : ByteArray} (h : bl s = bl t) : s = t := by
  have := map_u8_inj h
  cases s; cases t
  simp only [ByteArray.mk.injEq] at *
  exact Array.toList_inj.mp this
theorem bl_eq {s t : ByteArray} : s = t ↔ bl s = bl t := ⟨fun h => by rw [h], bl_inj⟩
theorem toList_bl {s t : ByteArray} : s.toList = t.toList ↔ bl s = bl t := by
  rw [ByteArray.toList_eq, ByteArray.toList_eq]
  exact ⟨fun h => by unfold bl; rw [h], fun h => by rw [bl_inj h]⟩
theorem bl_range (s : ByteArray) : ∀ x ∈ bl s, 0 ≤ x ∧ x < 256 := by
  intro x hx
  simp only [bl, List.mem_map] at hx
  obtain ⟨b, _, rfl⟩ := hx
  have := b.toNat_lt
  omega
theorem bt_bl (s : ByteArray) (i : Int) : bt s i = (bl s).getD i.toNat 0 := by
  unfold bt bl
  split
  · rename_i h
    have h' : i.toNat < s.data.toList.length := by rw [Array.length_toList]; exact h
    rw [List.getD_eq_getElem?_getD, List.getElem?_map, List.getElem?_eq_getElem h']
    rfl
  · rename_i h
    have h' : s.data.toList.length ≤ i.toNat := by rw [Array.length_toList]; exact Nat.le_of_not_lt h
    rw [List.getD_eq_getElem?_getD, List.getElem?_map, List.getElem?_eq_none h']
    rfl
theorem bl_append (s t : ByteArray) : bl (s ++ t) = bl s ++ bl t := by simp [bl]
theorem bl_extract (s : ByteArray) (a b : Nat) : bl (s.extract a b) = ((bl s).drop a).take (b - a) := by
  simp [bl, List.map_take, List.map_drop]
theorem u8_ofNat (n : Int) (h : 0 ≤ n ∧ n < 256) : ((UInt8.ofNat n.toNat).toNat : Int) = n := by
  rw [UInt8.toNat_ofNat']
  omega
theorem bl_str (xs : List Int) (h : ∀ x ∈ xs, 0 ≤ x ∧ x < 256) : bl (strOfNums xs) = xs := by
  unfold bl
  rw [strOfNums_data, List.map_map]
  conv => rhs; rw [← List.map_id xs]
  exact List.map_congr_left fun x hx => u8_ofNat x (h x hx)
theorem str_bl (s : ByteArray) : strOfNums (bl s) = s := bl_inj (bl_str _ (bl_range s))
theorem str_size (xs : List Int) : (strOfNums xs).size = xs.length := strOfNums_size xs
theorem bl_nil : bl (⟨#[]⟩ : ByteArray) = [] := rfl
theorem bt_lo (s : ByteArray) (i : Int) : 0 ≤ bt s i := (bt_range s i).1
theorem bt_hi (s : ByteArray) (i : Int) : bt s i < 256 := by have := (bt_range s i).2; omega
theorem wr (n : Int) (h : -9223372036854775808 ≤ n) (h' : n ≤ 9223372036854775807) : wrap64 n = n := by unfold wrap64; omega
theorem wrn {z : Int} (n : Nat) (e : z = n) (h : n ≤ 9223372036854775807) : wrap64 z = n := by rw [e]; exact wr _ (by omega) (by omega)
theorem tdiv_pos (a b : Int) (h : 0 ≤ a) : Int.tdiv a b = a / b := Int.tdiv_eq_ediv_of_nonneg h
theorem tmod_pos (a b : Int) (h : 0 ≤ a) : Int.tmod a b = a % b := Int.tmod_eq_emod_of_nonneg h
theorem succ_of {k d : Nat} (h : d < k) : ∃ m, k = m + 1 := ⟨k - 1, by omega⟩
theorem drop_bt (s : ByteArray) (i : Nat) (h : i < s.size) : (bl s).drop i = bt s i :: (bl s).drop (i + 1) := by
  have h' : i < (bl s).length := by rw [bl_len]; exact h
  rw [List.drop_eq_getElem_cons h', bt_bl, Int.toNat_natCast, List.getD_eq_getElem?_getD, List.getElem?_eq_getElem h']
  rfl
theorem drop_end (s : ByteArray) (i : Nat) (h : s.size ≤ i) : (bl s).drop i = [] := List.drop_eq_nil_of_le (by rw [bl_len]; exact h)
theorem take_snoc_cons {α : Type} (p : List α) (b : α) (l : List α) : (p ++ b :: l).take (p.length + 1) = p ++ [b] := by
  rw [List.take_length_add_append]; simp
attribute [local irreducible] bt

-- snippet decimal
/-! the reference's Decimal writes what strconv.Itoa writes -/
def dd (m : Nat) : List UInt8 := if m = 0 then [] else Lib.decDigits m
theorem dd_zero : dd 0 = [] := rfl
theorem dd_pos (m : Nat) (h : 0 < m) : dd m = Lib.decDigits m := by unfold dd; rw [if_neg (by omega)]
theorem ten20 : (10 : Nat) ^ 20 = 100000000000000000000 := by decide
theorem dd_step (m : Nat) (h : 0 < m) : dd m = dd (m / 10) ++ [UInt8.ofNat (48 + m % 10)] := by
  unfold dd
  rw [if_neg (show ¬ m = 0 by omega), Lib.decDigits]
  by_cases c : m < 10
  · rw [dif_pos c, if_pos (by omega), show m % 10 = m by omega]; rfl
  · rw [dif_neg c, if_neg (by omega)]
theorem figure_f (d : Nat) (h : d < 10) : spec_l01Figure.f (d : Int) = some ((48 + d : Nat) : Int) := by
  have h1 : (d : Int) < 10 := by omega
  have e : (wrap64 (48 + (d : Int))) % 256 = ((48 + d : Nat) : Int) := by rw [wrn (48 + d) (by omega) (by omega)]; omega
  unfold spec_l01Figure.f
  rw [if_pos h1, e]
def bs (l : List UInt8) : ByteArray := ⟨l.toArray⟩
theorem bs_append (a b : List UInt8) : bs a ++ bs b = bs (a ++ b) := by
  apply bl_inj
  simp [bs, bl]
theorem bs_size (l : List UInt8) : (bs l).size = l.length := by simp [bs, ByteArray.size]
theorem one_char (n : Nat) (h : n < 256) : strOfNums [(n : Int)] = bs [UInt8.ofNat n] := by
  apply bl_inj
  rw [bl_str _ (by intro x hx; rw [List.mem_singleton] at hx; omega)]
  simp [bs, bl]
  omega
theorem dec_step (b : Bool) (m : Nat) (hm : 0 < m) (hm2 : m ≤ 9223372036854775808) (hb : b = false → m ≤ 9223372036854775807) (s : List UInt8) (hs : s.length ≤ 1000) (K : Nat) :
    spec_Decimal.l0 (K + 1) (if b = true then -(m : Int) else (m : Int)) b (bs s) = spec_Decimal.l0 K (if b = true then -((m / 10 : Nat) : Int) else ((m / 10 : Nat) : Int)) b (bs (UInt8.ofNat (48 + m % 10) :: s)) := by
  have d10 : m % 10 < 10 := by omega
  have fg := figure_f (m % 10) d10
  have oc : strOfNums [((48 + m % 10 : Nat) : Int)] = bs [UInt8.ofNat (48 + m % 10)] := one_char _ (by omega)
  have sz : (bs [UInt8.ofNat (48 + m % 10)]).size + (bs s).size ≤ 9223372036854775807 := by rw [bs_size, bs_size]; simp; omega
  have ap : bs [UInt8.ofNat (48 + m % 10)] ++ bs s = bs (UInt8.ofNat (48 + m % 10) :: s) := bs_append _ _
  cases b
  · have t : Int.tmod (m : Int) 10 = ((m % 10 : Nat) : Int) := by rw [Int.tmod_eq_emod_of_nonneg (by omega)]; omega
    have q : Int.tdiv (m : Int) 10 = ((m / 10 : Nat) : Int) := by rw [Int.tdiv_eq_ediv_of_nonneg (by omega)]; omega
    have n0 : ¬ (m : Int) = 0 := by omega
    have n1 : ¬ ((m % 10 : Nat) : Int) < 0 := by omega
    have w : wrap64 ((m / 10 : Nat) : Int) = ((m / 10 : Nat) : Int) := wrn _ rfl (by omega)
    simp only [Bool.false_eq_true, if_false]
    rw [spec_Decimal.l0, if_neg n0, t, if_neg n1, fg, Option.bind_some, Option.bind_some, oc, if_pos sz, q, w, ap]
  · have t : Int.tmod (-(m : Int)) 10 = -((m % 10 : Nat) : Int) := by rw [Int.neg_tmod, Int.tmod_eq_emod_of_nonneg (by omega)]; omega
    have q : Int.tdiv (-(m : Int)) 10 = -((m / 10 : Nat) : Int) := by rw [Int.neg_tdiv, Int.tdiv_eq_ediv_of_nonneg (by omega)]; omega
    have n0 : ¬ -(m : Int) = 0 := by omega
    have w : wrap64 (-((m / 10 : Nat) : Int)) = -((m / 10 : Nat) : Int) := wr _ (by omega) (by omega)
    simp only [if_true]
    rw [spec_Decimal.l0, if_neg n0, t]
    by_cases c : m % 10 = 0
    · have n1 : ¬ -((m % 10 : Nat) : Int) < 0 := by omega
      have z : -((m % 10 : Nat) : Int) = ((m % 10 : Nat) : Int) := by omega
      rw [if_neg n1, z, fg, Option.bind_some, Option.bind_some, oc, if_pos sz, q, w, ap]
    · have n1 : -((m % 10 : Nat) : Int) < 0 := by omega
      have w2 : wrap64 (-(-((m % 10 : Nat) : Int))) = ((m % 10 : Nat) : Int) := wrn _ (by omega) (by omega)
      rw [if_pos n1, w2, fg, Option.bind_some, Option.bind_some, oc, if_pos sz, q, w, ap]
theorem dec_end (b : Bool) (s : List UInt8) (hs : s.length ≤ 1000) (K : Nat) : spec_Decimal.l0 (K + 1) 0 b (bs s) = some (bs ((if b = true then [45] else []) ++ s)) := by
  have sz : 1 + (bs s).size ≤ 9223372036854775807 := by rw [bs_size]; omega
  rw [spec_Decimal.l0, if_pos rfl]
  cases b
  · rfl
  · rw [if_pos rfl, if_pos sz]
    have : (⟨#[45]⟩ : ByteArray) = bs [45] := rfl
    rw [this, bs_append]
    rfl
theorem dec_l0 (b : Bool) : ∀ (d m : Nat) (s : List UInt8) (K : Nat), m < 10 ^ d → m ≤ 9223372036854775808 → (b = false → m ≤ 9223372036854775807) → s.length + d ≤ 1000 → d < K →
    spec_Decimal.l0 K (if b = true then -(m : Int) else (m : Int)) b (bs s) = some (bs ((if b = true then [45] else []) ++ dd m ++ s)) := by
  intro d
  induction d with
  | zero =>
    intro m s K hm _ _ hs hK
    obtain rfl : m = 0 := by simpa using hm
    obtain ⟨K, rfl⟩ := succ_of hK
    have e : (if b = true then -((0 : Nat) : Int) else ((0 : Nat) : Int)) = 0 := by cases b <;> rfl
    rw [e, dec_end b s (by omega) K, dd_zero, List.append_nil]
  | succ d ih =>
    intro m s K hm h1 h2 hs hK
    obtain ⟨K, rfl⟩ := succ_of hK
    by_cases c : m = 0
    · subst c
      have e : (if b = true then -((0 : Nat) : Int) else ((0 : Nat) : Int)) = 0 := by cases b <;> rfl
      rw [e, dec_end b s (by omega) K, dd_zero, List.append_nil]
    · have hm' : m / 10 < 10 ^ d := by rw [Nat.pow_succ] at hm; omega
      rw [dec_step b m (by omega) h1 h2 s (by omega) K, ih (m / 10) _ K hm' (by omega) (fun q => by have := h2 q; omega) (by simp only [List.length_cons]; omega) (by omega), dd_step m (by omega)]
      congr 2
      simp
theorem Decimal_f (n : Int) (h0 : -9223372036854775808 ≤ n) (h1 : n ≤ 9223372036854775807) (K : Nat) (hK : 21 ≤ K) : spec_Decimal.f K n = some ⟨(Lib.itoa n).toArray⟩ := by
  unfold spec_Decimal.f
  by_cases c : n = 0
  · subst c
    rw [if_pos rfl]
    have : Lib.itoa 0 = [48] := by
      unfold Lib.itoa
      rw [if_neg (by decide), Lib.decDigits, dif_pos (by decide)]
      rfl
    rw [this]
  · rw [if_neg c]
    by_cases s : n < 0
    · have e : n = (if true = true then -((n.natAbs : Nat) : Int) else ((n.natAbs : Nat) : Int)) := by rw [if_pos rfl]; omega
      have q := dec_l0 true 20 n.natAbs [] K (by rw [ten20]; omega) (by omega) (fun q => by cases q) (by decide) (by omega)
      rw [← e] at q
      rw [decide_eq_true s]
      refine q.trans ?_
      unfold Lib.itoa
      rw [if_pos s]
      rw [dd_pos _ (by omega)]
      simp [bs]
    · have e : n = (if false = true then -((n.toNat : Nat) : Int) else ((n.toNat : Nat) : Int)) := by simp; omega
      have q := dec_l0 false 20 n.toNat [] K (by rw [ten20]; omega) (by omega) (fun q => by omega) (by decide) (by omega)
      rw [← e] at q
      rw [decide_eq_false s]
      refine q.trans ?_
      unfold Lib.itoa
      rw [if_neg s]
      rw [dd_pos _ (by omega)]
      simp [bs]



end Go.Proofs.YtkdmmaeblknlnaaDoor.Pure
