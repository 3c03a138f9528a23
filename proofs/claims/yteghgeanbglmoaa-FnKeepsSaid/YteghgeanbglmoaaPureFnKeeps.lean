/- Of a drawn right disk what is kept is never lost; of what is not kept a beginning is left; lost again, nothing more is lost. -/
import Derived.Test.YteghgeanbglmoaaPFnKeepsx4
set_option linter.unusedVariables false
set_option linter.unusedSimpArgs false
namespace Go.Proofs.Yteghgeanbglmoaa.Pure
open Go.RowKit Go.Proofs.Yteghgeanbglmoaa.PFnKeeps Go.Proofs.YteghgeanbglmoaaW.PrintWords Go.Proofs.YteghgeanbglmoaaW.PrintLast Go.Proofs.YteghgeanbglmoaaW.PrintMore

-- snippet plain
/-! bytes as numbers -/
def bl (s : ByteArray) : List Int := s.data.toList.map fun b => (b.toNat : Int)
theorem bl_len (s : ByteArray) : (bl s).length = s.size := by unfold bl; rw [List.length_map, Array.length_toList]; rfl
theorem map_u8_inj : ∀ {a b : List UInt8}, a.map (fun b => (b.toNat : Int)) = b.map (fun b => (b.toNat : Int)) → a = b
  | [], [], _ => rfl
  | [], _ :: _, h => by simp at h
  | _ :: _, [], h => by simp at h
  | x :: a, y :: b, h => by
    simp only [List.map_cons, List.cons.injEq] at h
    have e : x = y := UInt8.toNat_inj.mp (by omega)
    rw [e, map_u8_inj h.2]
theorem bl_inj {s t : ByteArray} (h : bl s = bl t) : s = t := by
  have := map_u8_inj h
  cases s; cases t
  simp only [ByteArray.mk.injEq] at *
  exact Array.toList_inj.mp this
theorem bl_eq {s t : ByteArray} : s = t ↔ bl s = bl t := ⟨fun h => by rw [h], bl_inj⟩
theorem toList_bl {s t : ByteArray} : s.toList = t.toList ↔ bl s = bl t := by
  rw [ByteArray.toList_eq, ByteArray.toList_eq]
  exact ⟨fun h => by unfold bl; rw [h], fun h => by rw [bl_inj h]⟩
theorem bl_range (s : ByteArray) : ∀ x ∈ bl s, 0 ≤ x ∧ x < 256 := by
  intro x hx
  simp only [bl, List.mem_map] at hx
  obtain ⟨b, _, rfl⟩ := hx
  have := b.toNat_lt
  omega
theorem bt_bl (s : ByteArray) (i : Int) : bt s i = (bl s).getD i.toNat 0 := by
  unfold bt bl
  split
  · rename_i h
    have h' : i.toNat < s.data.toList.length := by rw [Array.length_toList]; exact h
    rw [List.getD_eq_getElem?_getD, List.getElem?_map, List.getElem?_eq_getElem h']
    rfl
  · rename_i h
    have h' : s.data.toList.length ≤ i.toNat := by rw [Array.length_toList]; exact Nat.le_of_not_lt h
    rw [List.getD_eq_getElem?_getD, List.getElem?_map, List.getElem?_eq_none h']
    rfl
theorem bl_append (s t : ByteArray) : bl (s ++ t) = bl s ++ bl t := by simp [bl]
theorem bl_extract (s : ByteArray) (a b : Nat) : bl (s.extract a b) = ((bl s).drop a).take (b - a) := by
  simp [bl, List.map_take, List.map_drop]
theorem u8_ofNat (n : Int) (h : 0 ≤ n ∧ n < 256) : ((UInt8.ofNat n.toNat).toNat : Int) = n := by
  rw [UInt8.toNat_ofNat']
  omega
theorem bl_str (xs : List Int) (h : ∀ x ∈ xs, 0 ≤ x ∧ x < 256) : bl (strOfNums xs) = xs := by
  unfold bl
  rw [strOfNums_data, List.map_map]
  conv => rhs; rw [← List.map_id xs]
  exact List.map_congr_left fun x hx => u8_ofNat x (h x hx)
theorem str_bl (s : ByteArray) : strOfNums (bl s) = s := bl_inj (bl_str _ (bl_range s))
theorem str_size (xs : List Int) : (strOfNums xs).size = xs.length := strOfNums_size xs
theorem bl_nil : bl (⟨#[]⟩ : ByteArray) = [] := rfl
theorem bt_lo (s : ByteArray) (i : Int) : 0 ≤ bt s i := (bt_range s i).1
theorem bt_hi (s : ByteArray) (i : Int) : bt s i < 256 := by have := (bt_range s i).2; omega
theorem wr (n : Int) (h : -9223372036854775808 ≤ n) (h' : n ≤ 9223372036854775807) : wrap64 n = n := by unfold wrap64; omega
theorem wrn {z : Int} (n : Nat) (e : z = n) (h : n ≤ 9223372036854775807) : wrap64 z = n := by rw [e]; exact wr _ (by omega) (by omega)
theorem tdiv_pos (a b : Int) (h : 0 ≤ a) : Int.tdiv a b = a / b := Int.tdiv_eq_ediv_of_nonneg h
theorem tmod_pos (a b : Int) (h : 0 ≤ a) : Int.tmod a b = a % b := Int.tmod_eq_emod_of_nonneg h
theorem succ_of {k d : Nat} (h : d < k) : ∃ m, k = m + 1 := ⟨k - 1, by omega⟩
theorem drop_bt (s : ByteArray) (i : Nat) (h : i < s.size) : (bl s).drop i = bt s i :: (bl s).drop (i + 1) := by
  have h' : i < (bl s).length := by rw [bl_len]; exact h
  rw [List.drop_eq_getElem_cons h', bt_bl, Int.toNat_natCast, List.getD_eq_getElem?_getD, List.getElem?_eq_getElem h']
  rfl
theorem drop_end (s : ByteArray) (i : Nat) (h : s.size ≤ i) : (bl s).drop i = [] := List.drop_eq_nil_of_le (by rw [bl_len]; exact h)
theorem take_snoc_cons {α : Type} (p : List α) (b : α) (l : List α) : (p ++ b :: l).take (p.length + 1) = p ++ [b] := by
  rw [List.take_length_add_append]; simp
attribute [local irreducible] bt

-- snippet draw
/-! draws -/
theorem mask_range (x : Int) : 0 ≤ Go.bits .and .i64 x 255 ∧ Go.bits .and .i64 x 255 ≤ 255 := by
  unfold Go.bits
  have h : (BitVec.ofInt IntKind.i64.bits x &&& BitVec.ofInt IntKind.i64.bits 255).toNat ≤ 255 := by
    rw [BitVec.toNat_and]
    exact Nat.le_trans Nat.and_le_right (by decide)
  simp only [IntKind.wrap_i64]
  generalize (BitVec.ofInt IntKind.i64.bits x &&& BitVec.ofInt IntKind.i64.bits 255).toNat = n at h
  omega
def curOk (b : List Int) (i : Int) : Prop := 0 ≤ i ∧ i ≤ b.length
theorem byte_ok (b : List Int) (hb : b.length ≤ 1048576) (i h : Int) (hi : curOk b i) : ∃ x i' h', spec_l01Byte.f b i h = some (x, i', h') ∧ 0 ≤ x ∧ x ≤ 255 ∧ curOk b i' := by
  obtain ⟨h0, h1⟩ := hi
  unfold spec_l01Byte.f
  by_cases c : i < (b.length : Int)
  · rw [if_pos c, if_pos h0, wr (i + 1) (by omega) (by omega)]
    exact ⟨_, _, _, rfl, (mask_range _).1, (mask_range _).2, by unfold curOk; omega⟩
  · rw [if_neg c]
    exact ⟨_, _, _, rfl, (mask_range _).1, (mask_range _).2, ⟨h0, h1⟩⟩
theorem below_ok (b : List Int) (hb : b.length ≤ 1048576) (i h n : Int) (hi : curOk b i) (hn : 0 < n) : ∃ x i' h', spec_l01Below.f b i h n = some (x, i', h') ∧ 0 ≤ x ∧ x < n ∧ curOk b i' := by
  unfold spec_l01Below.f
  rw [if_neg (show ¬ n ≤ 0 by omega)]
  obtain ⟨x1, i1, h1, e1, l1, u1, c1⟩ := byte_ok b hb i h hi
  by_cases c : n ≤ 256
  · rw [if_pos c, e1, Option.bind_some, if_neg (show ¬ n = 0 by omega)]
    exact ⟨_, _, _, rfl, Int.tmod_nonneg _ l1, Int.tmod_lt_of_pos _ hn, c1⟩
  · obtain ⟨x2, i2, h2, e2, l2, u2, c2⟩ := byte_ok b hb i1 h1 c1
    obtain ⟨x3, i3, h3, e3, l3, u3, c3⟩ := byte_ok b hb i2 h2 c2
    obtain ⟨x4, i4, h4, e4, l4, u4, c4⟩ := byte_ok b hb i3 h3 c3
    rw [if_neg c, e1, Option.bind_some]
    simp only
    rw [e2, Option.bind_some]
    simp only
    rw [e3, Option.bind_some]
    simp only
    rw [e4, Option.bind_some]
    simp only
    rw [if_neg (show ¬ n = 0 by omega), wr (x1 * 16777216) (by omega) (by omega), wr (x2 * 65536) (by omega) (by omega), wr (x3 * 256) (by omega) (by omega), wr (x1 * 16777216 + x2 * 65536) (by omega) (by omega), wr (x1 * 16777216 + x2 * 65536 + x3 * 256) (by omega) (by omega), wr (x1 * 16777216 + x2 * 65536 + x3 * 256 + x4) (by omega) (by omega)]
    exact ⟨_, _, _, rfl, Int.tmod_nonneg _ (by omega), Int.tmod_lt_of_pos _ hn, c4⟩
theorem new_l0 (b : List Int) (hb : b.length ≤ 1048576) : ∀ (d : Nat) (i : Nat) (h : Int), i + d = 4000 → ∃ h', ∀ K, d < K → spec_l01New.l0 K b h i = some (b, 0, h') := by
  intro d
  induction d with
  | zero =>
    intro i h hi
    refine ⟨h, fun K hK => ?_⟩
    obtain ⟨K, rfl⟩ := succ_of hK
    simp only [spec_l01New.l0]
    by_cases c : (i : Int) < (b.length : Int)
    · rw [if_pos c, if_neg (show ¬ (i : Int) < 4000 by omega)]
    · rw [if_neg c]
  | succ d ih =>
    intro i h hi
    by_cases c : (i : Int) < (b.length : Int)
    · obtain ⟨h', e⟩ := ih (i + 1) (Go.bits .and .i64 (wrap64 ((wrap64 ((wrap64 (h * 131)) + (wrap64 (rd b i)))) + 7)) 1073741823) (by omega)
      refine ⟨h', fun K hK => ?_⟩
      obtain ⟨K, rfl⟩ := succ_of hK
      simp only [spec_l01New.l0]
      rw [if_pos c, if_pos (show (i : Int) < 4000 by omega), if_pos (show 0 ≤ (i : Int) by omega), wr ((i : Int) + 1) (by omega) (by omega), show ((i : Int) + 1) = ((i + 1 : Nat) : Int) by omega]
      exact e K (by omega)
    · refine ⟨h, fun K hK => ?_⟩
      obtain ⟨K, rfl⟩ := succ_of hK
      simp only [spec_l01New.l0]
      rw [if_neg c]
theorem new_ok (b : List Int) (hb : b.length ≤ 1048576) : ∃ h', ∀ K, 4001 ≤ K → spec_l01New.f K b = some (b, 0, h') := by
  obtain ⟨h', e⟩ := new_l0 b hb 4000 0 (wrap64 (27401 + (b.length : Int))) (by omega)
  exact ⟨h', fun K hK => e K (by omega)⟩

-- snippet textcore
theorem text_l0 (b : List Int) (hb : b.length ≤ 1048576) (n : Int) : ∀ (d : Nat) (j : Nat) (acc : List Int) (i h : Int), (n : Int) ≤ j + d → j + d ≤ 5000 → acc.length + d ≤ 5000 → curOk b i → (∀ x ∈ acc, 0 ≤ x ∧ x < 256) → ∃ t i' h', t.size ≤ acc.length + d ∧ curOk b i' ∧ ∀ K, d < K → spec_l01Text.l0 K n acc j b i h = some (t, i', h') := by
  intro d
  induction d with
  | zero =>
    intro j acc i h hn hj hl hi hx
    refine ⟨strOfNums acc, i, h, by rw [str_size acc]; omega, hi, fun K hK => ?_⟩
    obtain ⟨K, rfl⟩ := succ_of hK
    simp only [spec_l01Text.l0]
    rw [if_neg (show ¬ (j : Int) < n by omega)]
  | succ d ih =>
    intro j acc i h hn hj hl hi hx
    by_cases c : (j : Int) < n
    · obtain ⟨x, i', h', e, l, u, c'⟩ := byte_ok b hb i h hi
      obtain ⟨t, i2, h2, ht, c2, et⟩ := ih (j + 1) (acc ++ [x % 256]) i' h' (by omega) (by omega) (by simp; omega) c' (by
        intro y hy
        rcases List.mem_append.mp hy with hy | hy
        · exact hx y hy
        · rw [List.mem_singleton] at hy; omega)
      refine ⟨t, i2, h2, by simp at ht; omega, c2, fun K hK => ?_⟩
      obtain ⟨K, rfl⟩ := succ_of hK
      simp only [spec_l01Text.l0]
      rw [if_pos c, e, Option.bind_some, if_pos (show acc.length < 140737488355328 by omega), wr ((j : Int) + 1) (by omega) (by omega), show ((j : Int) + 1) = ((j + 1 : Nat) : Int) by omega]
      exact et K (by omega)
    · refine ⟨strOfNums acc, i, h, by rw [str_size acc]; omega, hi, fun K hK => ?_⟩
      obtain ⟨K, rfl⟩ := succ_of hK
      simp only [spec_l01Text.l0]
      rw [if_neg c]
theorem text_ok (b : List Int) (hb : b.length ≤ 1048576) (i h n : Int) (hi : curOk b i) (hn : 0 ≤ n) : ∃ t i' h', t.size ≤ 5000 ∧ (t.size : Int) ≤ n ∧ curOk b i' ∧ ∀ K, 6000 ≤ K → spec_l01Text.f K b i h n = some (t, i', h') := by
  by_cases c : n > 5000
  · obtain ⟨t, i', h', ht, c', e⟩ := text_l0 b hb 5000 5000 0 [] i h (by omega) (by omega) (by simp) hi (by simp)
    refine ⟨t, i', h', by simpa using ht, by simp at ht; omega, c', fun K hK => ?_⟩
    obtain ⟨K, rfl⟩ : ∃ m, K = m + 1 := ⟨K - 1, by omega⟩
    unfold spec_l01Text.f
    rw [if_pos c]
    simp only [spec_l01Text.j0]
    exact e K (by omega)
  · obtain ⟨m, rfl⟩ := Int.eq_ofNat_of_zero_le hn
    obtain ⟨t, i', h', ht, c', e⟩ := text_l0 b hb m m 0 [] i h (by omega) (by omega) (by simp; omega) hi (by simp)
    refine ⟨t, i', h', by simp at ht; omega, by simp at ht; omega, c', fun K hK => ?_⟩
    obtain ⟨K, rfl⟩ : ∃ m, K = m + 1 := ⟨K - 1, by omega⟩
    unfold spec_l01Text.f
    rw [if_neg c]
    simp only [spec_l01Text.j0]
    exact e K (by omega)

-- snippet places
theorem places_l0 (b : List Int) (hb : b.length ≤ 1048576) : ∀ (d : Nat) (acc : List Int) (i h : Int), acc.length + d = 12 → curOk b i → (∀ x ∈ acc, 0 ≤ x ∧ x < 10000) → ∃ p : List Int, p.length = 12 ∧ (∀ x ∈ p, 0 ≤ x ∧ x < 10000) ∧ ∀ K, d < K → spec_DrawPlaces.l0 K acc (acc.length : Int) b i h = some p := by
  intro d
  induction d with
  | zero =>
    intro acc i h hl hi hx
    refine ⟨acc, by omega, hx, fun K hK => ?_⟩
    obtain ⟨K, rfl⟩ := succ_of hK
    simp only [spec_DrawPlaces.l0]
    rw [if_neg (show ¬ (acc.length : Int) < 12 by omega)]
  | succ d ih =>
    intro acc i h hl hi hx
    obtain ⟨x, i', h', e, l, u, c⟩ := below_ok b hb i h 10000 hi (by decide)
    obtain ⟨p, hp, hpx, ep⟩ := ih (acc ++ [x]) i' h' (by simp; omega) c (by
      intro y hy
      rcases List.mem_append.mp hy with hy | hy
      · exact hx y hy
      · rw [List.mem_singleton] at hy; omega)
    refine ⟨p, hp, hpx, fun K hK => ?_⟩
    obtain ⟨K, rfl⟩ := succ_of hK
    simp only [spec_DrawPlaces.l0]
    rw [if_pos (show (acc.length : Int) < 12 by omega), e, Option.bind_some, if_pos (show acc.length < 17592186044416 by omega), wr ((acc.length : Int) + 1) (by omega) (by omega)]
    have := ep K (by omega)
    rw [List.length_append, List.length_singleton] at this
    exact this
theorem places_ok (b : List Int) (hb : b.length ≤ 1048576) : ∃ p : List Int, p.length = 12 ∧ (∀ x ∈ p, 0 ≤ x ∧ x < 10000) ∧ ∀ K, 5000 ≤ K → spec_DrawPlaces.f K b = some p := by
  obtain ⟨h, e⟩ := new_ok b hb
  obtain ⟨x, i, h', e2, _, _, c⟩ := byte_ok b hb 0 h ⟨by omega, by omega⟩
  obtain ⟨p, hp, hx, e3⟩ := places_l0 b hb 12 [] i h' rfl c (by simp)
  refine ⟨p, hp, hx, fun K hK => ?_⟩
  unfold spec_DrawPlaces.f
  rw [e K (by omega), Option.bind_some]
  simp only
  rw [e2, Option.bind_some]
  exact e3 K (by omega)

-- snippet blsrt
theorem bl_irr : ∀ a : List UInt8, Op.bytesLess a a = false
  | [] => rfl
  | a :: x => by
    have h : ¬ a < a := UInt8.lt_irrefl a
    simp [Op.bytesLess, h, bl_irr x]
theorem bl_trans : ∀ a b c : List UInt8, Op.bytesLess a b = true → Op.bytesLess b c = true → Op.bytesLess a c = true
  | _, [], _, h, _ => by cases ‹List UInt8› <;> simp [Op.bytesLess] at h
  | _, _ :: _, [], _, h => by simp [Op.bytesLess] at h
  | [], _ :: _, _ :: _, _, _ => rfl
  | a :: x, b :: y, c :: z, h1, h2 => by
    simp only [Op.bytesLess, Bool.or_eq_true, decide_eq_true_eq, Bool.and_eq_true, beq_iff_eq] at h1 h2 ⊢
    rcases h1 with h1 | ⟨rfl, h1⟩
    · rcases h2 with h2 | ⟨rfl, h2⟩
      · exact .inl (UInt8.lt_trans h1 h2)
      · exact .inl h1
    · rcases h2 with h2 | ⟨rfl, h2⟩
      · exact .inl h2
      · exact .inr ⟨rfl, bl_trans x y z h1 h2⟩
theorem bl_asym (a b : List UInt8) (h : Op.bytesLess a b = true) : Op.bytesLess b a = false := by
  cases e : Op.bytesLess b a with
  | false => rfl
  | true => have := bl_trans a b a h e; rw [bl_irr] at this; cases this
theorem bl_ne (a b : List UInt8) (h : Op.bytesLess a b = true) : (a == b) = false := by
  cases e : a == b with
  | false => rfl
  | true => rw [beq_iff_eq.1 e, bl_irr] at h; cases h
theorem bl_cases (a b : List UInt8) : (Op.bytesLess a b = true) ∨ a = b ∨ (Op.bytesLess b a = true) := by
  have h := dk_tri a b
  cases e1 : Op.bytesLess a b with
  | true => exact .inl rfl
  | false =>
    cases e2 : a == b with
    | true => exact .inr (.inl (beq_iff_eq.1 e2))
    | false => rw [e1, e2] at h; exact .inr (.inr h.symm)
def Srt (l : List S67) : Prop := l.Pairwise (fun a b => Op.bytesLess a.f0.toList b.f0.toList = true)

-- snippet losed
/-! what is left of a disk, by the reference -/
def lsUp (l1 : List Int) (xs : List S67) (i : Nat) : List S67 := (List.range i).map (fun j => ls1 l1 j (xs.getD j z67))
theorem lsUp_succ (l1 : List Int) (xs : List S67) (i : Nat) : lsUp l1 xs (i + 1) = lsUp l1 xs i ++ [ls1 l1 i (xs.getD i z67)] := by unfold lsUp; rw [List.range_succ, List.map_append]; rfl
theorem lsUp_len (l1 : List Int) (xs : List S67) (i : Nat) : (lsUp l1 xs i).length = i := by unfold lsUp; rw [List.length_map, List.length_range]
theorem lsTo_up (l1 : List Int) (xs : List S67) : ∀ i, i ≤ xs.length → lsTo l1 xs i = lsUp l1 xs i ++ xs.drop i
  | 0, _ => rfl
  | i + 1, h => by
    show (lsTo l1 xs i).set i _ = _
    rw [lsTo_up l1 xs i (by omega), lsUp_succ, List.drop_eq_getElem_cons (show i < xs.length by omega), List.set_append_right _ _ (by rw [lsUp_len]; exact Nat.le_refl _), lsUp_len, Nat.sub_self, List.set_cons_zero, List.append_assoc]
    rfl
theorem loseD_up (l1 : List Int) (xs : List S67) : loseD xs l1 = lsUp l1 xs xs.length := by
  unfold loseD
  rw [lsTo_up l1 xs _ (Nat.le_refl _), List.drop_eq_nil_of_le (Nat.le_refl _), List.append_nil]
theorem loseD_len (l1 : List Int) (xs : List S67) : (loseD xs l1).length = xs.length := by rw [loseD_up, lsUp_len]
theorem extract_all (s : ByteArray) : s.extract 0 s.size = s := by simp
theorem impl_lose_f (l : List S67) (l1 : List Int) (hl : l.length ≤ 1000000000) : impl_LoseDisk.f l l1 = some (if okD l = true then loseD l l1 else [], okD l) := by
  unfold impl_LoseDisk.f
  rw [if_pos hl]

/-! a drawn disk is right -/
theorem two_filters {α : Type} (p q : α → Bool) (h : ∀ x, p x = true → q x = true → False) : ∀ l : List α, (l.filter p).length + (l.filter q).length ≤ l.length
  | [] => by simp
  | x :: l => by
    have ih := two_filters p q h l
    have hx := h x
    rw [List.filter_cons, List.filter_cons]
    cases hp : p x with
    | true =>
      cases hq : q x with
      | true => exact (hx hp hq).elim
      | false => simp; omega
    | false =>
      cases hq : q x with
      | true => simp; omega
      | false => simp; omega
theorem put_len (l : List S67) (f : S67) : (putD l f).length ≤ l.length + 1 := by
  have := two_filters (fun x : S67 => Op.bytesLess x.f0.toList f.f0.toList) (fun x : S67 => Op.bytesLess f.f0.toList x.f0.toList) (fun x h1 h2 => by have := bl_asym _ _ h1; rw [h2] at this; cases this) l
  unfold putD
  simp only [List.length_append, List.length_cons, List.length_nil]
  omega
theorem put_srt (l : List S67) (f : S67) (h : Srt l) : Srt (putD l f) := by
  unfold putD Srt
  rw [List.append_assoc, List.pairwise_append]
  refine ⟨List.Pairwise.filter _ h, ?_, ?_⟩
  · rw [List.singleton_append, List.pairwise_cons]
    refine ⟨fun x hx => (List.mem_filter.1 hx).2, List.Pairwise.filter _ h⟩
  · intro a ha b hb
    have h1 : Op.bytesLess a.f0.toList f.f0.toList = true := (List.mem_filter.1 ha).2
    rw [List.singleton_append, List.mem_cons] at hb
    rcases hb with rfl | hb
    · exact h1
    · exact bl_trans _ _ _ h1 (List.mem_filter.1 hb).2
theorem put_okX (l : List S67) (f : S67) (hf : okX f = true) (h : ∀ x ∈ l, okX x = true) : ∀ x ∈ putD l f, okX x = true := by
  intro x hx
  unfold putD at hx
  rw [List.mem_append, List.mem_append, List.mem_singleton] at hx
  rcases hx with (hx | rfl) | hx
  · exact h x (List.mem_filter.1 hx).1
  · exact hf
  · exact h x (List.mem_filter.1 hx).1
theorem getD_get (l : List S67) (i : Nat) (h : i < l.length) : l.getD i z67 = l[i] := by rw [List.getD_eq_getElem?_getD, List.getElem?_eq_getElem h]; rfl
theorem okD_mk (l : List S67) (h : l.length ≤ 30) (ha : ∀ i, i < l.length → okAt l i = true) : okD l = true := by
  unfold okD okTo
  rw [Bool.and_eq_true, List.all_eq_true]
  exact ⟨decide_eq_true h, fun i hi => ha i (List.mem_range.1 hi)⟩
theorem okD_of (l : List S67) (h : l.length ≤ 30) (hs : Srt l) (hx : ∀ x ∈ l, okX x = true) : okD l = true := by
  refine okD_mk l h fun i hi => ?_
  unfold okAt
  rw [Bool.and_eq_true]
  refine ⟨by rw [getD_get l i hi]; exact hx _ (List.getElem_mem _), ?_⟩
  by_cases c : i = 0
  · rw [decide_eq_true c]; rfl
  · rw [getD_get l i hi, getD_get l (i - 1) (by omega), List.pairwise_iff_getElem.1 hs (i - 1) i (by omega) hi (by omega), Bool.or_true]
theorem okX_mk (n t : ByteArray) (k : Int) (h1 : 1 ≤ n.size) (h2 : n.size ≤ 8) (h3 : t.size ≤ 20000) (h4 : 0 ≤ k) (h5 : k ≤ (t.size : Int)) : okX ⟨n, t, k⟩ = true := by
  unfold okX
  simp only [Bool.and_eq_true, decide_eq_true_eq, Bool.not_eq_true', decide_eq_false_iff_not]
  omega
theorem named_ok (b : List Int) (hb : b.length ≤ 1048576) (i h : Int) (hi : curOk b i) : ∃ n i' h', spec_l03Named.f b i h = some (n, i', h') ∧ 1 ≤ n.size ∧ n.size ≤ 8 ∧ curOk b i' := by
  obtain ⟨x, i', h', e, l0, u, c⟩ := below_ok b hb i h 8 hi (by decide)
  unfold spec_l03Named.f spec_l01Pick.f
  rw [show (((([(⟨#[97]⟩ : ByteArray), (⟨#[98]⟩ : ByteArray), (⟨#[99]⟩ : ByteArray), (⟨#[98, 111, 111, 107]⟩ : ByteArray), (⟨#[98, 111, 111, 107, 43]⟩ : ByteArray), (⟨#[120]⟩ : ByteArray), (⟨#[121]⟩ : ByteArray), (⟨#[122]⟩ : ByteArray)] : List ByteArray)).length : Nat) : Int) = 8 from rfl, e, Option.bind_some]
  simp only []
  rw [if_pos l0, if_pos u, Option.bind_some]
  refine ⟨_, _, _, rfl, ?_⟩
  dsimp only
  clear e
  obtain ⟨m, rfl⟩ : ∃ m : Nat, x = (m : Int) := ⟨x.toNat, by omega⟩
  have hm : m = 0 ∨ m = 1 ∨ m = 2 ∨ m = 3 ∨ m = 4 ∨ m = 5 ∨ m = 6 ∨ m = 7 := by omega
  refine ⟨?_, ?_, c⟩
  · rcases hm with rfl | rfl | rfl | rfl | rfl | rfl | rfl | rfl <;> decide
  · rcases hm with rfl | rfl | rfl | rfl | rfl | rfl | rfl | rfl <;> decide
theorem drd_l0 (b : List Int) (hb : b.length ≤ 1048576) : ∀ (d n : Nat) (L : List S67) (i h : Int), n + d = 5 → curOk b i → L.length ≤ n → Srt L → (∀ x ∈ L, okX x = true) → ∃ R, okD R = true ∧ ∀ K, 7000 + d < K → spec_DrawRightDisk.l0 K n b i h L = some R := by
  intro d
  induction d with
  | zero =>
    intro n L i h hn hi hL hs hx
    obtain ⟨x, i1, h1, e, l0, u, c⟩ := below_ok b hb i h 6 hi (by decide)
    refine ⟨L, okD_of L (by omega) hs hx, fun K hK => ?_⟩
    obtain ⟨K, rfl⟩ : ∃ m, K = m + 1 := ⟨K - 1, by omega⟩
    simp only [spec_DrawRightDisk.l0]
    rw [e, Option.bind_some]
    simp only []
    rw [if_neg (by omega)]
  | succ d ih =>
    intro n L i h hn hi hL hs hx
    obtain ⟨x, i1, h1, e1, l1, u1, c1⟩ := below_ok b hb i h 6 hi (by decide)
    by_cases cx : (n : Int) < x
    · obtain ⟨m, i2, h2, e2, l2, u2, c2⟩ := below_ok b hb i1 h1 30 c1 (by decide)
      obtain ⟨t, i3, h3, t1, t2, c3, e3⟩ := text_ok b hb i2 h2 m c2 l2
      obtain ⟨nm, i4, h4, e4, m1, m2, c4⟩ := named_ok b hb i3 h3 c3
      have w : wrap64 ((t.size : Int) + 1) = (t.size : Int) + 1 := wr _ (by omega) (by omega)
      obtain ⟨kp, i5, h5, e5, l5, u5, c5⟩ := below_ok b hb i4 h4 ((t.size : Int) + 1) c4 (by omega)
      have hf : okX ⟨nm, t, kp⟩ = true := okX_mk nm t kp m1 m2 (by omega) l5 (by omega)
      obtain ⟨R, hR, eR⟩ := ih (n + 1) (putD L ⟨nm, t, kp⟩) i5 h5 (by omega) c5 (by have := put_len L ⟨nm, t, kp⟩; omega) (put_srt _ _ hs) (put_okX _ _ hf hx)
      refine ⟨R, hR, fun K hK => ?_⟩
      obtain ⟨K, rfl⟩ : ∃ m, K = m + 1 := ⟨K - 1, by omega⟩
      simp only [spec_DrawRightDisk.l0]
      rw [e1, Option.bind_some]
      simp only []
      rw [if_pos cx, e2, Option.bind_some]
      simp only []
      rw [e3 K (by omega), Option.bind_some]
      simp only []
      rw [e4, Option.bind_some]
      simp only []
      rw [w, e5, Option.bind_some]
      simp only []
      unfold spec_l03Put.f
      rw [if_pos (by omega), Option.bind_some, wrn (n + 1) (by omega) (by omega)]
      exact eR K (by omega)
    · refine ⟨L, okD_of L (by omega) hs hx, fun K hK => ?_⟩
      obtain ⟨K, rfl⟩ : ∃ m, K = m + 1 := ⟨K - 1, by omega⟩
      simp only [spec_DrawRightDisk.l0]
      rw [e1, Option.bind_some]
      simp only []
      rw [if_neg cx]
theorem drd_ok (b : List Int) (hb : b.length ≤ 1048576) : ∃ R, okD R = true ∧ ∀ K, 10000 ≤ K → spec_DrawRightDisk.f K b = some R := by
  obtain ⟨h, e⟩ := new_ok b hb
  obtain ⟨R, hR, eR⟩ := drd_l0 b hb 5 0 [] 0 h rfl ⟨by omega, by omega⟩ (by simp) List.Pairwise.nil (by simp)
  refine ⟨R, hR, fun K hK => ?_⟩
  unfold spec_DrawRightDisk.f
  rw [e K (by omega), Option.bind_some]
  exact eR K (by omega)
theorem lefts_l0 (p : List Int) (hp : p.length = 12) : ∀ (d : Nat) (acc : List Int) (j : Nat), j + d = 6 → acc.length = j → ∃ q : List Int, ∀ K, d < K → laws_lefts.l0 K p acc j = some q := by
  intro d
  induction d with
  | zero =>
    intro acc j hj ha
    refine ⟨acc, fun K hK => ?_⟩
    obtain ⟨K, rfl⟩ := succ_of hK
    simp only [laws_lefts.l0]
    rw [if_neg (by omega)]
  | succ d ih =>
    intro acc j hj ha
    obtain ⟨q, e⟩ := ih (acc ++ [Int.tmod (rd p j) 300]) (j + 1) (by omega) (by simp; omega)
    refine ⟨q, fun K hK => ?_⟩
    obtain ⟨K, rfl⟩ := succ_of hK
    simp only [laws_lefts.l0]
    rw [if_pos (by omega), if_pos (by omega), if_pos (by omega), if_pos (by omega), wrn (j + 1) (by omega) (by omega)]
    exact e K (by omega)
theorem lefts_ok (p : List Int) (hp : p.length = 12) : ∃ q : List Int, ∀ K, 10 ≤ K → laws_lefts.f K p = some q := by
  obtain ⟨q, e⟩ := lefts_l0 p hp 6 [] 0 rfl rfl
  exact ⟨q, fun K hK => by unfold laws_lefts.f; exact e K (by omega)⟩
/-! what is left -/
theorem lsN_in (l1 : List Int) (i : Nat) (x : S67) (h0 : 0 ≤ x.f2) (h1 : x.f2 ≤ (x.f1.size : Int)) : x.f2 ≤ lsN l1 i x ∧ lsN l1 i x ≤ (x.f1.size : Int) := by
  unfold lsN mx mn
  (repeat' split) <;> omega
theorem ext_size (s : ByteArray) (n : Nat) (h : n ≤ s.size) : (s.extract 0 n).size = n := by simp; omega
theorem ext_ext (s : ByteArray) (n m : Nat) (h : m ≤ n) : (s.extract 0 n).extract 0 m = s.extract 0 m := by
  refine bl_inj ?_
  rw [bl_extract, bl_extract, bl_extract]
  simp only [List.drop_zero, Nat.sub_zero, List.take_take]
  rw [Nat.min_eq_left h]
theorem lose_get (l1 : List Int) (xs : List S67) (j : Nat) (hj : j < xs.length) : (loseD xs l1).getD j z67 = ls1 l1 j (xs.getD j z67) := by
  rw [loseD_up]
  unfold lsUp
  rw [List.getD_eq_getElem?_getD, List.getElem?_map, List.getElem?_range hj]
  rfl
theorem ls1_at (l1 : List Int) (i : Nat) (x : S67) (h0 : 0 ≤ x.f2) (h1 : x.f2 ≤ (x.f1.size : Int)) : (ls1 l1 i x).f2 = ((ls1 l1 i x).f1.size : Int) ∧ x.f2 ≤ (ls1 l1 i x).f2 ∧ (ls1 l1 i x).f2 ≤ (x.f1.size : Int) := by
  obtain ⟨a, c⟩ := lsN_in l1 i x h0 h1
  refine ⟨?_, a, c⟩
  show lsN l1 i x = ((x.f1.extract 0 (lsN l1 i x).toNat).size : Int)
  rw [ext_size _ _ (by omega)]
  omega
theorem lose_okD (l1 : List Int) (xs : List S67) (h : okD xs = true) : okD (loseD xs l1) = true := by
  have hl := okD_len xs h
  refine okD_mk _ (by rw [loseD_len]; exact hl) fun i hi => ?_
  rw [loseD_len] at hi
  have ha := okD_at xs h i hi
  obtain ⟨g0, g1, g2⟩ := okD_get xs h i hi
  obtain ⟨b1, b2, b3⟩ := ls1_at l1 i (xs.getD i z67) g0 g1
  unfold okAt at ha ⊢
  rw [Bool.and_eq_true] at ha ⊢
  rw [lose_get l1 xs i hi]
  refine ⟨?_, ?_⟩
  · have hX := ha.1
    unfold okX at hX ⊢
    simp only [Bool.and_eq_true, decide_eq_true_eq, Bool.not_eq_true', decide_eq_false_iff_not] at hX ⊢
    have hn : (ls1 l1 i (xs.getD i z67)).f0 = (xs.getD i z67).f0 := rfl
    rw [hn]
    omega
  · by_cases c : i = 0
    · rw [decide_eq_true c]; rfl
    · rw [lose_get l1 xs (i - 1) (by omega)]
      exact ha.2
theorem lose_full (l1 : List Int) (xs : List S67) (h : okD xs = true) (i : Nat) (hi : i < xs.length) : ((loseD xs l1).getD i z67).f2 = (((loseD xs l1).getD i z67).f1.size : Int) := by
  obtain ⟨g0, g1, g2⟩ := okD_get xs h i hi
  rw [lose_get l1 xs i hi]
  exact (ls1_at l1 i _ g0 g1).1
theorem lose_again (xs : List S67) (h : ∀ i, i < xs.length → (xs.getD i z67).f2 = ((xs.getD i z67).f1.size : Int)) : loseD xs [] = xs := by
  refine List.ext_getElem (loseD_len [] xs) fun i h1 h2 => ?_
  have e := lose_get [] xs i h2
  rw [getD_get _ i h1] at e
  rw [e]
  have hh := h i h2
  rw [getD_get xs i h2] at hh ⊢
  have hN : lsN [] i xs[i] = xs[i].f2 := by
    unfold lsN mx
    simp only [List.length_nil, Nat.not_lt_zero, if_false]
    split <;> omega
  unfold ls1
  rw [hN, hh, Int.toNat_natCast, extract_all, ← hh]
theorem rd_get (l : List S67) (i : Nat) : rd_T67 l (i : Int) = l.getD i z67 := by unfold rd_T67; rw [Int.toNat_natCast]
theorem same_l0 (l : List S67) (hl : l.length < 1000000000) : ∀ (d i K : Nat), i + d = l.length → d < K → laws_sameDisk.l0 K i l l = some true := by
  intro d
  induction d with
  | zero =>
    intro i K hi hK
    obtain ⟨K, rfl⟩ := succ_of hK
    simp only [laws_sameDisk.l0]
    rw [if_neg (by omega)]
  | succ d ih =>
    intro i K hi hK
    obtain ⟨K, rfl⟩ := succ_of hK
    simp only [laws_sameDisk.l0]
    rw [if_pos (by omega), if_pos (by omega), if_pos (by omega), if_neg (by simp), wrn (i + 1) (by omega) (by omega)]
    exact ih (i + 1) K (by omega) (by omega)
theorem kept_l0 (l L : List S67) (hl : l.length < 1000000000) (hL : okD L = true) (h : ∀ i, i < l.length → (l.getD i z67).f2 = ((l.getD i z67).f1.size : Int)) : ∀ (d i K : Nat), i + d = l.length → d < K → impl_AllKept.l0 K l (l.length : Int) i L = some true := by
  intro d
  induction d with
  | zero =>
    intro i K hi hK
    obtain ⟨K, rfl⟩ := succ_of hK
    have := okD_len L hL
    simp only [impl_AllKept.l0]
    unfold impl_DiskOk.f
    rw [if_neg (by omega), if_pos (by omega), Option.bind_some, hL]
  | succ d ih =>
    intro i K hi hK
    obtain ⟨K, rfl⟩ := succ_of hK
    simp only [impl_AllKept.l0]
    rw [if_pos (by omega), if_pos (by omega), if_pos (by omega), rd_get, if_pos (h i (by omega)), wrn (i + 1) (by omega) (by omega)]
    exact ih (i + 1) K (by omega) (by omega)
theorem keeps_l0 (q : List Int) (xs : List S67) (hok : okD xs = true) : ∀ (d i K : Nat), i + d = xs.length → d < K → laws_FnKeeps.l0 K i xs (loseD xs q) = some true := by
  have hl := okD_len xs hok
  intro d
  induction d with
  | zero =>
    intro i K hi hK
    obtain ⟨K, rfl⟩ := succ_of hK
    simp only [laws_FnKeeps.l0]
    rw [if_neg (by omega)]
  | succ d ih =>
    intro i K hi hK
    obtain ⟨K, rfl⟩ := succ_of hK
    have hi' : i < xs.length := by omega
    obtain ⟨g0, g1, g2⟩ := okD_get xs hok i hi'
    obtain ⟨b1, b2, b3⟩ := ls1_at q i (xs.getD i z67) g0 g1
    have hc := ih (i + 1) K (by omega) (by omega)
    have e1 : laws_begins.f (ls1 q i (xs.getD i z67)).f1 (xs.getD i z67).f1 = some true := by
      unfold laws_begins.f
      rw [if_pos (by omega), if_pos (by omega), Int.toNat_natCast]
      show some (((xs.getD i z67).f1.extract 0 ((xs.getD i z67).f1.extract 0 (lsN q i (xs.getD i z67)).toNat).size).toList == ((xs.getD i z67).f1.extract 0 (lsN q i (xs.getD i z67)).toNat).toList) = some true
      have := (lsN_in q i (xs.getD i z67) g0 g1).2
      rw [ext_size _ (lsN q i (xs.getD i z67)).toNat (by omega)]
      simp
    have e2 : laws_begins.f ((xs.getD i z67).f1.extract 0 (xs.getD i z67).f2.toNat) (ls1 q i (xs.getD i z67)).f1 = some true := by
      unfold laws_begins.f
      rw [ext_size _ (xs.getD i z67).f2.toNat (by omega), if_pos (by omega), if_pos (by omega), Int.toNat_natCast]
      show some ((((xs.getD i z67).f1.extract 0 (lsN q i (xs.getD i z67)).toNat).extract 0 (xs.getD i z67).f2.toNat).toList == ((xs.getD i z67).f1.extract 0 (xs.getD i z67).f2.toNat).toList) = some true
      have := (lsN_in q i (xs.getD i z67) g0 g1).1
      rw [ext_ext _ _ _ (by omega)]
      simp
    simp only [laws_FnKeeps.l0]
    rw [if_pos (by omega), if_pos (by omega), if_pos (by rw [loseD_len]; omega), rd_get, rd_get, lose_get q xs i hi', if_pos (show (ls1 q i (xs.getD i z67)).f0.toList = (xs.getD i z67).f0.toList from rfl), e1, Option.bind_some, if_pos rfl, if_pos g0, if_pos g1, e2, Option.bind_some, if_pos rfl, wrn (i + 1) (by omega) (by omega)]
    exact hc
theorem FnKeeps : laws_FnKeeps.Pure := by
  intro l0 hl hm hw
  obtain ⟨K, hK⟩ : ∃ K : Nat, K = 100000000 := ⟨_, rfl⟩
  refine ⟨K + 4, ?_⟩
  unfold laws_FnKeeps.f laws_big.f
  rw [Option.bind_some]
  by_cases c : (l0.length : Int) > 1048576
  · rw [decide_eq_true c, if_pos rfl]
  · rw [decide_eq_false c, if_neg (by decide)]
    obtain ⟨D, hD, eD⟩ := drd_ok l0 (by omega)
    obtain ⟨p, hp, hpx, eP⟩ := places_ok l0 (by omega)
    obtain ⟨q, eQ⟩ := lefts_ok p hp
    have hl30 := okD_len D hD
    have h2 := lose_okD q D hD
    have hln := loseD_len q D
    have hfull := fun i hi => lose_full q D hD i hi
    have hagain := lose_again (loseD D q) (fun i hi => hfull i (by rw [← hln]; exact hi))
    rw [eD _ (by omega), Option.bind_some, eP _ (by omega), Option.bind_some, eQ _ (by omega), Option.bind_some, impl_lose_f D q (by omega), Option.bind_some]
    simp only [hD, if_true]
    rw [impl_lose_f _ [] (by omega), Option.bind_some, h2]
    simp only [if_true]
    rw [hagain, if_pos (by omega)]
    unfold laws_sameDisk.f impl_AllKept.f impl_DiskOk.f
    rw [if_pos rfl, show (0 : Int) = ((0 : Nat) : Int) from rfl, same_l0 (loseD D q) (by omega) (loseD D q).length 0 _ (by omega) (by omega), Option.bind_some, if_pos rfl, kept_l0 (loseD D q) (loseD D q) (by omega) h2 (fun i hi => hfull i (by omega)) (loseD D q).length 0 _ (by omega) (by omega), Option.bind_some, if_pos rfl, if_pos (by omega), Option.bind_some, hD]
    simp only [laws_FnKeeps.j0, Bool.not_true, Bool.false_eq_true, if_false]
    rw [show (0 : Int) = ((0 : Nat) : Int) from rfl]
    exact keeps_l0 q D hD D.length 0 _ (by omega) (by omega)

end Go.Proofs.Yteghgeanbglmoaa.Pure
