/- The reference's ReadDecimal answers what the program's does, in the shelf's words. -/
import Derived.Test.YtkdmmaeblknlnaaDoorPReadDecimalx1
import Derived.Test.YtkdmmaeblknlnaaDoorNumRead
set_option linter.unusedVariables false
set_option linter.unusedSimpArgs false
namespace Go.Proofs.YtkdmmaeblknlnaaDoor.Pure
open Go.RowKit Go.Proofs.YtkdmmaeblknlnaaDoor.PReadDecimal Go.Proofs.YtkdmmaeblknlnaaDoorW.PrintWords Go.Proofs.YtkdmmaeblknlnaaDoorW.PrintLast Go.Proofs.YtkdmmaeblknlnaaDoorW.PrintMore

-- snippet plain
/-! bytes as numbers -/
def bl (s : ByteArray) : List Int := s.data.toList.map fun b => (b.toNat : Int)
theorem bl_len (s : ByteArray) : (bl s).length = s.size := by unfold bl; rw [List.length_map, Array.length_toList]; rfl
theorem map_u8_inj : ∀ {a b : List UInt8}, a.map (fun b => (b.toNat : Int)) = b.map (fun b => (b.toNat : Int)) → a = b
  | [], [], _ => rfl
  | [], _ :: _, h => by simp at h
  | _ :: _, [], h => by simp at h
  | x :: a, y :: b, h => by
    simp only [List.map_cons, List.cons.injEq] at h
    have e : x = y := UInt8.toNat_inj.mp (by omega)
    rw [e, map_u8_inj h.2]
theorem bl_inj {s t : ByteArray} (h : bl s = bl t) : s = t := by
  have := map_u8_inj h
  cases s; cases t
  simp only [ByteArray.mk.injEq] at *
  exact Array.toList_inj.mp this
theorem bl_eq {s t : ByteArray} : s = t ↔ bl s = bl t := ⟨fun h => by rw [h], bl_inj⟩
theorem toList_bl {s t : ByteArray} : s.toList = t.toList ↔ bl s = bl t := by
  rw [ByteArray.toList_eq, ByteArray.toList_eq]
  exact ⟨fun h => by unfold bl; rw [h], fun h => by rw [bl_inj h]⟩
theorem bl_range (s : ByteArray) : ∀ x ∈ bl s, 0 ≤ x ∧ x < 256 := by
  intro x hx
  simp only [bl, List.mem_map] at hx
  obtain ⟨b, _, rfl⟩ := hx
  have := b.toNat_lt
  omega
theorem bt_bl (s : ByteArray) (i : Int) : bt s i = (bl s).getD i.toNat 0 := by
  unfold bt bl
  split
  · rename_i h
    have h' : i.toNat < s.data.toList.length := by rw [Array.length_toList]; exact h
    rw [List.getD_eq_getElem?_getD, List.getElem?_map, List.getElem?_eq_getElem h']
    rfl
  · rename_i h
    have h' : s.data.toList.length ≤ i.toNat := by rw [Array.length_toList]; exact Nat.le_of_not_lt h
    rw [List.getD_eq_getElem?_getD, List.getElem?_map, List.getElem?_eq_none h']
    rfl
theorem bl_append (s t : ByteArray) : bl (s ++ t) = bl s ++ bl t := by simp [bl]
theorem bl_extract (s : ByteArray) (a b : Nat) : bl (s.extract a b) = ((bl s).drop a).take (b - a) := by
  simp [bl, List.map_take, List.map_drop]
theorem u8_ofNat (n : Int) (h : 0 ≤ n ∧ n < 256) : ((UInt8.ofNat n.toNat).toNat : Int) = n := by
  rw [UInt8.toNat_ofNat']
  omega
theorem bl_str (xs : List Int) (h : ∀ x ∈ xs, 0 ≤ x ∧ x < 256) : bl (strOfNums xs) = xs := by
  unfold bl
  rw [strOfNums_data, List.map_map]
  conv => rhs; rw [← List.map_id xs]
  exact List.map_congr_left fun x hx => u8_ofNat x (h x hx)
theorem str_bl (s : ByteArray) : strOfNums (bl s) = s := bl_inj (bl_str _ (bl_range s))
theorem str_size (xs : List Int) : (strOfNums xs).size = xs.length := strOfNums_size xs
theorem bl_nil : bl (⟨#[]⟩ : ByteArray) = [] := rfl
theorem bt_lo (s : ByteArray) (i : Int) : 0 ≤ bt s i := (bt_range s i).1
theorem bt_hi (s : ByteArray) (i : Int) : bt s i < 256 := by have := (bt_range s i).2; omega
theorem wr (n : Int) (h : -9223372036854775808 ≤ n) (h' : n ≤ 9223372036854775807) : wrap64 n = n := by unfold wrap64; omega
theorem wrn {z : Int} (n : Nat) (e : z = n) (h : n ≤ 9223372036854775807) : wrap64 z = n := by rw [e]; exact wr _ (by omega) (by omega)
theorem tdiv_pos (a b : Int) (h : 0 ≤ a) : Int.tdiv a b = a / b := Int.tdiv_eq_ediv_of_nonneg h
theorem tmod_pos (a b : Int) (h : 0 ≤ a) : Int.tmod a b = a % b := Int.tmod_eq_emod_of_nonneg h
theorem succ_of {k d : Nat} (h : d < k) : ∃ m, k = m + 1 := ⟨k - 1, by omega⟩
theorem drop_bt (s : ByteArray) (i : Nat) (h : i < s.size) : (bl s).drop i = bt s i :: (bl s).drop (i + 1) := by
  have h' : i < (bl s).length := by rw [bl_len]; exact h
  rw [List.drop_eq_getElem_cons h', bt_bl, Int.toNat_natCast, List.getD_eq_getElem?_getD, List.getElem?_eq_getElem h']
  rfl
theorem drop_end (s : ByteArray) (i : Nat) (h : s.size ≤ i) : (bl s).drop i = [] := List.drop_eq_nil_of_le (by rw [bl_len]; exact h)
theorem take_snoc_cons {α : Type} (p : List α) (b : α) (l : List α) : (p ++ b :: l).take (p.length + 1) = p ++ [b] := by
  rw [List.take_length_add_append]; simp
attribute [local irreducible] bt

-- snippet decimal
/-! the reference's Decimal writes what strconv.Itoa writes -/
def dd (m : Nat) : List UInt8 := if m = 0 then [] else Lib.decDigits m
theorem dd_zero : dd 0 = [] := rfl
theorem dd_pos (m : Nat) (h : 0 < m) : dd m = Lib.decDigits m := by unfold dd; rw [if_neg (by omega)]
theorem ten20 : (10 : Nat) ^ 20 = 100000000000000000000 := by decide
theorem dd_step (m : Nat) (h : 0 < m) : dd m = dd (m / 10) ++ [UInt8.ofNat (48 + m % 10)] := by
  unfold dd
  rw [if_neg (show ¬ m = 0 by omega), Lib.decDigits]
  by_cases c : m < 10
  · rw [dif_pos c, if_pos (by omega), show m % 10 = m by omega]; rfl
  · rw [dif_neg c, if_neg (by omega)]
theorem figure_f (d : Nat) (h : d < 10) : spec_l01Figure.f (d : Int) = some ((48 + d : Nat) : Int) := by
  have h1 : (d : Int) < 10 := by omega
  have e : (wrap64 (48 + (d : Int))) % 256 = ((48 + d : Nat) : Int) := by rw [wrn (48 + d) (by omega) (by omega)]; omega
  unfold spec_l01Figure.f
  rw [if_pos h1, e]
def bs (l : List UInt8) : ByteArray := ⟨l.toArray⟩
theorem bs_append (a b : List UInt8) : bs a ++ bs b = bs (a ++ b) := by
  apply bl_inj
  simp [bs, bl]
theorem bs_size (l : List UInt8) : (bs l).size = l.length := by simp [bs, ByteArray.size]
theorem one_char (n : Nat) (h : n < 256) : strOfNums [(n : Int)] = bs [UInt8.ofNat n] := by
  apply bl_inj
  rw [bl_str _ (by intro x hx; rw [List.mem_singleton] at hx; omega)]
  simp [bs, bl]
  omega
theorem dec_step (b : Bool) (m : Nat) (hm : 0 < m) (hm2 : m ≤ 9223372036854775808) (hb : b = false → m ≤ 9223372036854775807) (s : List UInt8) (hs : s.length ≤ 1000) (K : Nat) :
    spec_Decimal.l0 (K + 1) (if b = true then -(m : Int) else (m : Int)) b (bs s) = spec_Decimal.l0 K (if b = true then -((m / 10 : Nat) : Int) else ((m / 10 : Nat) : Int)) b (bs (UInt8.ofNat (48 + m % 10) :: s)) := by
  have d10 : m % 10 < 10 := by omega
  have fg := figure_f (m % 10) d10
  have oc : strOfNums [((48 + m % 10 : Nat) : Int)] = bs [UInt8.ofNat (48 + m % 10)] := one_char _ (by omega)
  have sz : (bs [UInt8.ofNat (48 + m % 10)]).size + (bs s).size ≤ 9223372036854775807 := by rw [bs_size, bs_size]; simp; omega
  have ap : bs [UInt8.ofNat (48 + m % 10)] ++ bs s = bs (UInt8.ofNat (48 + m % 10) :: s) := bs_append _ _
  cases b
  · have t : Int.tmod (m : Int) 10 = ((m % 10 : Nat) : Int) := by rw [Int.tmod_eq_emod_of_nonneg (by omega)]; omega
    have q : Int.tdiv (m : Int) 10 = ((m / 10 : Nat) : Int) := by rw [Int.tdiv_eq_ediv_of_nonneg (by omega)]; omega
    have n0 : ¬ (m : Int) = 0 := by omega
    have n1 : ¬ ((m % 10 : Nat) : Int) < 0 := by omega
    have w : wrap64 ((m / 10 : Nat) : Int) = ((m / 10 : Nat) : Int) := wrn _ rfl (by omega)
    simp only [Bool.false_eq_true, if_false]
    rw [spec_Decimal.l0, if_neg n0, t, if_neg n1, fg, Option.bind_some, Option.bind_some, oc, if_pos sz, q, w, ap]
  · have t : Int.tmod (-(m : Int)) 10 = -((m % 10 : Nat) : Int) := by rw [Int.neg_tmod, Int.tmod_eq_emod_of_nonneg (by omega)]; omega
    have q : Int.tdiv (-(m : Int)) 10 = -((m / 10 : Nat) : Int) := by rw [Int.neg_tdiv, Int.tdiv_eq_ediv_of_nonneg (by omega)]; omega
    have n0 : ¬ -(m : Int) = 0 := by omega
    have w : wrap64 (-((m / 10 : Nat) : Int)) = -((m / 10 : Nat) : Int) := wr _ (by omega) (by omega)
    simp only [if_true]
    rw [spec_Decimal.l0, if_neg n0, t]
    by_cases c : m % 10 = 0
    · have n1 : ¬ -((m % 10 : Nat) : Int) < 0 := by omega
      have z : -((m % 10 : Nat) : Int) = ((m % 10 : Nat) : Int) := by omega
      rw [if_neg n1, z, fg, Option.bind_some, Option.bind_some, oc, if_pos sz, q, w, ap]
    · have n1 : -((m % 10 : Nat) : Int) < 0 := by omega
      have w2 : wrap64 (-(-((m % 10 : Nat) : Int))) = ((m % 10 : Nat) : Int) := wrn _ (by omega) (by omega)
      rw [if_pos n1, w2, fg, Option.bind_some, Option.bind_some, oc, if_pos sz, q, w, ap]
theorem dec_end (b : Bool) (s : List UInt8) (hs : s.length ≤ 1000) (K : Nat) : spec_Decimal.l0 (K + 1) 0 b (bs s) = some (bs ((if b = true then [45] else []) ++ s)) := by
  have sz : 1 + (bs s).size ≤ 9223372036854775807 := by rw [bs_size]; omega
  rw [spec_Decimal.l0, if_pos rfl]
  cases b
  · rfl
  · rw [if_pos rfl, if_pos sz]
    have : (⟨#[45]⟩ : ByteArray) = bs [45] := rfl
    rw [this, bs_append]
    rfl
theorem dec_l0 (b : Bool) : ∀ (d m : Nat) (s : List UInt8) (K : Nat), m < 10 ^ d → m ≤ 9223372036854775808 → (b = false → m ≤ 9223372036854775807) → s.length + d ≤ 1000 → d < K →
    spec_Decimal.l0 K (if b = true then -(m : Int) else (m : Int)) b (bs s) = some (bs ((if b = true then [45] else []) ++ dd m ++ s)) := by
  intro d
  induction d with
  | zero =>
    intro m s K hm _ _ hs hK
    obtain rfl : m = 0 := by simpa using hm
    obtain ⟨K, rfl⟩ := succ_of hK
    have e : (if b = true then -((0 : Nat) : Int) else ((0 : Nat) : Int)) = 0 := by cases b <;> rfl
    rw [e, dec_end b s (by omega) K, dd_zero, List.append_nil]
  | succ d ih =>
    intro m s K hm h1 h2 hs hK
    obtain ⟨K, rfl⟩ := succ_of hK
    by_cases c : m = 0
    · subst c
      have e : (if b = true then -((0 : Nat) : Int) else ((0 : Nat) : Int)) = 0 := by cases b <;> rfl
      rw [e, dec_end b s (by omega) K, dd_zero, List.append_nil]
    · have hm' : m / 10 < 10 ^ d := by rw [Nat.pow_succ] at hm; omega
      rw [dec_step b m (by omega) h1 h2 s (by omega) K, ih (m / 10) _ K hm' (by omega) (fun q => by have := h2 q; omega) (by simp only [List.length_cons]; omega) (by omega), dd_step m (by omega)]
      congr 2
      simp
theorem Decimal_f (n : Int) (h0 : -9223372036854775808 ≤ n) (h1 : n ≤ 9223372036854775807) (K : Nat) (hK : 21 ≤ K) : spec_Decimal.f K n = some ⟨(Lib.itoa n).toArray⟩ := by
  unfold spec_Decimal.f
  by_cases c : n = 0
  · subst c
    rw [if_pos rfl]
    have : Lib.itoa 0 = [48] := by
      unfold Lib.itoa
      rw [if_neg (by decide), Lib.decDigits, dif_pos (by decide)]
      rfl
    rw [this]
  · rw [if_neg c]
    by_cases s : n < 0
    · have e : n = (if true = true then -((n.natAbs : Nat) : Int) else ((n.natAbs : Nat) : Int)) := by rw [if_pos rfl]; omega
      have q := dec_l0 true 20 n.natAbs [] K (by rw [ten20]; omega) (by omega) (fun q => by cases q) (by decide) (by omega)
      rw [← e] at q
      rw [decide_eq_true s]
      refine q.trans ?_
      unfold Lib.itoa
      rw [if_pos s]
      rw [dd_pos _ (by omega)]
      simp [bs]
    · have e : n = (if false = true then -((n.toNat : Nat) : Int) else ((n.toNat : Nat) : Int)) := by simp; omega
      have q := dec_l0 false 20 n.toNat [] K (by rw [ten20]; omega) (by omega) (fun q => by omega) (by decide) (by omega)
      rw [← e] at q
      rw [decide_eq_false s]
      refine q.trans ?_
      unfold Lib.itoa
      rw [if_neg s]
      rw [dd_pos _ (by omega)]
      simp [bs]

theorem sdl (s : ByteArray) : s.toList = s.data.toList := by rw [ByteArray.toList_eq]
def F (l : List UInt8) : Option Nat → Int × Bool
  | none => (0, false)
  | some v => if (v : Int) > 1000000000 then (0, false) else if Lib.decDigits v = l then ((v : Int), true) else (0, false)
theorem bt_get (s : ByteArray) (i : Nat) (h : i < s.data.toList.length) : bt s (i : Int) = ((s.data.toList[i].toNat : Nat) : Int) := by
  rw [bt_bl, Int.toNat_natCast]
  unfold bl
  rw [List.getD_eq_getElem?_getD, List.getElem?_map, List.getElem?_eq_getElem h]
  rfl
theorem rd_end (s : ByteArray) (n i : Nat) (hi : i = s.data.toList.length) (hn : n < 10000000000) (K : Nat) (hK : 30 ≤ K) (hs : s.data.toList.length = s.size) :
    spec_ReadDecimal.l0 (K + 1) s n i = some (F s.data.toList (Lib.decFrom n (s.data.toList.drop i))) := by
  have e : Lib.decFrom n (s.data.toList.drop i) = some n := by rw [List.drop_eq_nil_of_le (by omega)]; rfl
  have df := Decimal_f (n : Int) (by omega) (by omega) K (by omega)
  rw [Lib.itoa_nonneg] at df
  rw [spec_ReadDecimal.l0, if_neg (by omega), e]
  unfold F
  by_cases c : (n : Int) > 1000000000
  · rw [if_pos c]; simp only; rw [if_pos c]
  · rw [if_neg c, df, Option.bind_some, sdl, sdl]
    simp only
    rw [if_neg c]
    by_cases d : Lib.decDigits n = s.data.toList
    · rw [if_pos d, if_pos d]
    · rw [if_neg d, if_neg d]
theorem rd_step (s : ByteArray) (n i : Nat) (h : i < s.data.toList.length) (hn : n < 1000000000) (hs : s.data.toList.length = s.size) (hs10 : s.size ≤ 10) (K : Nat) :
    spec_ReadDecimal.l0 (K + 1) s n i = match Lib.digitVal s.data.toList[i] with
      | some d => spec_ReadDecimal.l0 K s ((n * 10 + d : Nat) : Int) ((i + 1 : Nat) : Int)
      | none => some (0, false) := by
  have b := bt_get s i h
  generalize s.data.toList[i] = x at b
  have xl := x.toNat_lt
  have c1 : (i : Int) < (s.size : Int) := by omega
  have c2 : 0 ≤ (i : Int) := by omega
  rw [spec_ReadDecimal.l0, if_pos c1, if_pos c2, b]
  unfold Lib.digitVal
  by_cases l : (x.toNat : Int) < 48
  · rw [if_pos l, if_neg (by omega)]
  · rw [if_neg l]
    by_cases g : (x.toNat : Int) > 57
    · rw [if_pos g, if_neg (by omega)]
    · have w1 : wrap64 (10 * (n : Int)) = ((10 * n : Nat) : Int) := wrn _ (by omega) (by omega)
      have w2 : wrap64 ((x.toNat : Nat) : Int) = ((x.toNat : Nat) : Int) := wrn _ rfl (by omega)
      have w3 : wrap64 (((10 * n : Nat) : Int) + ((x.toNat : Nat) : Int)) = ((10 * n + x.toNat : Nat) : Int) := wrn _ (by omega) (by omega)
      have w4 : wrap64 (((10 * n + x.toNat : Nat) : Int) - 48) = ((n * 10 + (x.toNat - 48) : Nat) : Int) := wrn _ (by omega) (by omega)
      have w5 : wrap64 ((i : Int) + 1) = ((i + 1 : Nat) : Int) := wrn _ (by omega) (by omega)
      rw [if_neg g, w1, w2, w3, w4, w5, if_pos (by omega)]
theorem rd_l0 (s : ByteArray) (hs : s.data.toList.length = s.size) (hs10 : s.size ≤ 10) : ∀ (d i n K : Nat), i + d = s.size → n < 10 ^ i → d + 31 ≤ K →
    spec_ReadDecimal.l0 K s n i = some (F s.data.toList (Lib.decFrom n (s.data.toList.drop i))) := by
  intro d
  induction d with
  | zero =>
    intro i n K hi hn hK
    obtain ⟨K, rfl⟩ : ∃ m, K = m + 1 := ⟨K - 1, by omega⟩
    have : 10 ^ i ≤ 10 ^ 10 := Nat.pow_le_pow_right (by omega) (by omega)
    have t : (10 : Nat) ^ 10 = 10000000000 := by decide
    rw [t] at this
    exact rd_end s n i (by omega) (by omega) K (by omega) hs
  | succ d ih =>
    intro i n K hi hn hK
    obtain ⟨K, rfl⟩ : ∃ m, K = m + 1 := ⟨K - 1, by omega⟩
    have il : i < s.data.toList.length := by omega
    have : 10 ^ i ≤ 10 ^ 9 := Nat.pow_le_pow_right (by omega) (by omega)
    have t : (10 : Nat) ^ 9 = 1000000000 := by decide
    rw [t] at this
    rw [rd_step s n i il (by omega) hs hs10 K, List.drop_eq_getElem_cons il]
    show _ = some (F s.data.toList (match Lib.digitVal s.data.toList[i] with | some d => Lib.decFrom (n * 10 + d) (s.data.toList.drop (i + 1)) | none => none))
    cases q : Lib.digitVal s.data.toList[i] with
    | none => rfl
    | some v =>
      have v9 : v ≤ 9 := by
        unfold Lib.digitVal at q
        split at q
        · rename_i h
          have := Option.some.inj q
          omega
        · cases q
      exact ih (i + 1) (n * 10 + v) K (by omega) (by rw [Nat.pow_succ]; omega) (by omega)
theorem decDigits_range : ∀ (m : Nat), ∀ b ∈ Lib.decDigits m, 48 ≤ b.toNat ∧ b.toNat ≤ 57 := by
  intro m
  induction m using Nat.strongRecOn with
  | _ m ih =>
    intro b hb
    rw [Lib.decDigits] at hb
    have one : ∀ d, d < 10 → b = UInt8.ofNat (48 + d) → 48 ≤ b.toNat ∧ b.toNat ≤ 57 := by
      intro d hd e
      have : b.toNat = 48 + d := by rw [e, UInt8.toNat_ofNat']; omega
      omega
    split at hb
    · rename_i h
      rw [List.mem_singleton] at hb
      exact one m h hb
    · rename_i h
      rcases List.mem_append.1 hb with h1 | h1
      · exact ih (m / 10) (by omega) b h1
      · rw [List.mem_singleton] at h1
        exact one (m % 10) (by omega) h1
theorem readR_F (l : List UInt8) (hl : l.length ≤ 10) : F l (Lib.decFrom 0 l) = Num.readR l := by
  unfold Num.readR
  cases l with
  | nil =>
    rw [if_neg (by simp)]
    show F [] (some 0) = _
    unfold F
    simp only
    rw [if_neg (by decide), if_neg (by rw [Lib.decDigits, dif_pos (by decide)]; simp)]
  | cons b r =>
    have h1 : 1 ≤ (b :: r).length ∧ (b :: r).length ≤ 10 := ⟨by simp, hl⟩
    rw [if_pos h1]
    have ea : Lib.atoi (b :: r) = if (b == 45) = true then (Lib.decNat r).map fun (m : Nat) => -(m : Int) else if (b == 43) = true then (Lib.decNat r).map fun (m : Nat) => (m : Int) else (Lib.decNat (b :: r)).map fun (m : Nat) => (m : Int) := rfl
    rw [ea]
    have head : ∀ m, Lib.decDigits m = b :: r → 48 ≤ b.toNat ∧ b.toNat ≤ 57 := fun m e => decDigits_range m b (by rw [e]; simp)
    by_cases c45 : b = 45
    · subst c45
      have dn : Lib.decFrom 0 (45 :: r) = none := by simp [Lib.decFrom, Lib.digitVal]
      rw [dn, if_pos (by decide)]
      cases Lib.decNat r with
      | none => rfl
      | some m =>
        simp only [Option.map_some]
        rw [if_neg]
        · rfl
        · rintro ⟨q0, q1, q2⟩
          have : m = 0 := by omega
          subst this
          have := head 0 (by rw [← q2]; exact (Lib.itoa_nonneg 0).symm)
          exact absurd this (by decide)
    · have n45 : (b == 45) = false := by simpa using c45
      rw [n45]
      by_cases c43 : b = 43
      · subst c43
        have dn : Lib.decFrom 0 (43 :: r) = none := by simp [Lib.decFrom, Lib.digitVal]
        rw [dn, if_neg (by decide), if_pos (by decide)]
        cases Lib.decNat r with
        | none => rfl
        | some m =>
          simp only [Option.map_some]
          rw [if_neg]
          · rfl
          · rintro ⟨q0, q1, q2⟩
            rw [Lib.itoa_nonneg] at q2
            exact absurd (head m q2) (by decide)
      · have n43 : (b == 43) = false := by simpa using c43
        rw [n43, if_neg (by decide), if_neg (by decide)]
        have dn : Lib.decNat (b :: r) = Lib.decFrom 0 (b :: r) := rfl
        rw [dn]
        cases Lib.decFrom 0 (b :: r) with
        | none => rfl
        | some m =>
          simp only [Option.map_some]
          unfold F
          simp only
          rw [Lib.itoa_nonneg]
          by_cases g : (m : Int) > 1000000000
          · rw [if_pos g, if_neg (fun q => by omega)]
          · rw [if_neg g]
            by_cases e : Lib.decDigits m = b :: r
            · rw [if_pos e, if_pos ⟨by omega, by omega, e⟩]
            · rw [if_neg e, if_neg (fun q => e q.2.2)]
theorem ReadDecimal_f (s : ByteArray) (hs : s.size ≤ 9223372036854775807) (K : Nat) (hK : 100 ≤ K) : spec_ReadDecimal.f K s = some (Num.readR s.data.toList) := by
  have hsz : s.data.toList.length = s.size := by rw [Array.length_toList]; rfl
  unfold spec_ReadDecimal.f
  by_cases c : (s.size : Int) > 10
  · rw [if_pos c]
    unfold Num.readR
    rw [if_neg (by omega)]
  · rw [if_neg c, ← readR_F _ (by omega)]
    have := rd_l0 s hsz (by omega) s.size 0 0 K (by omega) (by decide) (by omega)
    rw [List.drop_zero] at this
    exact this

end Go.Proofs.YtkdmmaeblknlnaaDoor.Pure
