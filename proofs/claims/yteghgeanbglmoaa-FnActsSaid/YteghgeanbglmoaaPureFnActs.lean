/- Drawn acts, done one by one, leave what they leave all at once; what is added stands behind, what is dropped is gone; cut anywhere, both texts leave the same. -/
import Derived.Test.YteghgeanbglmoaaActsW
set_option linter.unusedVariables false
set_option linter.unusedSimpArgs false
namespace Go.Proofs.Yteghgeanbglmoaa.Pure
open Go.RowKit Go.Proofs.Yteghgeanbglmoaa.PFnActs Go.Proofs.YteghgeanbglmoaaW.PrintWords Go.Proofs.YteghgeanbglmoaaW.PrintLast Go.Proofs.YteghgeanbglmoaaW.PrintMore

-- snippet plain
/-! bytes as numbers -/
def bl (s : ByteArray) : List Int := s.data.toList.map fun b => (b.toNat : Int)
theorem bl_len (s : ByteArray) : (bl s).length = s.size := by unfold bl; rw [List.length_map, Array.length_toList]; rfl
theorem map_u8_inj : ∀ {a b : List UInt8}, a.map (fun b => (b.toNat : Int)) = b.map (fun b => (b.toNat : Int)) → a = b
  | [], [], _ => rfl
  | [], _ :: _, h => by simp at h
  | _ :: _, [], h => by simp at h
  | x :: a, y :: b, h => by
    simp only [List.map_cons, List.cons.injEq] at h
    have e : x = y := UInt8.toNat_inj.mp (by omega)
    rw [e, map_u8_inj h.2]
theorem bl_inj {s t : ByteArray} (h : bl s = bl t) : s = t := by
  have := map_u8_inj h
  cases s; cases t
  simp only [ByteArray.mk.injEq] at *
  exact Array.toList_inj.mp this
theorem bl_eq {s t : ByteArray} : s = t ↔ bl s = bl t := ⟨fun h => by rw [h], bl_inj⟩
theorem toList_bl {s t : ByteArray} : s.toList = t.toList ↔ bl s = bl t := by
  rw [ByteArray.toList_eq, ByteArray.toList_eq]
  exact ⟨fun h => by unfold bl; rw [h], fun h => by rw [bl_inj h]⟩
theorem bl_range (s : ByteArray) : ∀ x ∈ bl s, 0 ≤ x ∧ x < 256 := by
  intro x hx
  simp only [bl, List.mem_map] at hx
  obtain ⟨b, _, rfl⟩ := hx
  have := b.toNat_lt
  omega
theorem bt_bl (s : ByteArray) (i : Int) : bt s i = (bl s).getD i.toNat 0 := by
  unfold bt bl
  split
  · rename_i h
    have h' : i.toNat < s.data.toList.length := by rw [Array.length_toList]; exact h
    rw [List.getD_eq_getElem?_getD, List.getElem?_map, List.getElem?_eq_getElem h']
    rfl
  · rename_i h
    have h' : s.data.toList.length ≤ i.toNat := by rw [Array.length_toList]; exact Nat.le_of_not_lt h
    rw [List.getD_eq_getElem?_getD, List.getElem?_map, List.getElem?_eq_none h']
    rfl
theorem bl_append (s t : ByteArray) : bl (s ++ t) = bl s ++ bl t := by simp [bl]
theorem bl_extract (s : ByteArray) (a b : Nat) : bl (s.extract a b) = ((bl s).drop a).take (b - a) := by
  simp [bl, List.map_take, List.map_drop]
theorem u8_ofNat (n : Int) (h : 0 ≤ n ∧ n < 256) : ((UInt8.ofNat n.toNat).toNat : Int) = n := by
  rw [UInt8.toNat_ofNat']
  omega
theorem bl_str (xs : List Int) (h : ∀ x ∈ xs, 0 ≤ x ∧ x < 256) : bl (strOfNums xs) = xs := by
  unfold bl
  rw [strOfNums_data, List.map_map]
  conv => rhs; rw [← List.map_id xs]
  exact List.map_congr_left fun x hx => u8_ofNat x (h x hx)
theorem str_bl (s : ByteArray) : strOfNums (bl s) = s := bl_inj (bl_str _ (bl_range s))
theorem str_size (xs : List Int) : (strOfNums xs).size = xs.length := strOfNums_size xs
theorem bl_nil : bl (⟨#[]⟩ : ByteArray) = [] := rfl
theorem bt_lo (s : ByteArray) (i : Int) : 0 ≤ bt s i := (bt_range s i).1
theorem bt_hi (s : ByteArray) (i : Int) : bt s i < 256 := by have := (bt_range s i).2; omega
theorem wr (n : Int) (h : -9223372036854775808 ≤ n) (h' : n ≤ 9223372036854775807) : wrap64 n = n := by unfold wrap64; omega
theorem wrn {z : Int} (n : Nat) (e : z = n) (h : n ≤ 9223372036854775807) : wrap64 z = n := by rw [e]; exact wr _ (by omega) (by omega)
theorem tdiv_pos (a b : Int) (h : 0 ≤ a) : Int.tdiv a b = a / b := Int.tdiv_eq_ediv_of_nonneg h
theorem tmod_pos (a b : Int) (h : 0 ≤ a) : Int.tmod a b = a % b := Int.tmod_eq_emod_of_nonneg h
theorem succ_of {k d : Nat} (h : d < k) : ∃ m, k = m + 1 := ⟨k - 1, by omega⟩
theorem drop_bt (s : ByteArray) (i : Nat) (h : i < s.size) : (bl s).drop i = bt s i :: (bl s).drop (i + 1) := by
  have h' : i < (bl s).length := by rw [bl_len]; exact h
  rw [List.drop_eq_getElem_cons h', bt_bl, Int.toNat_natCast, List.getD_eq_getElem?_getD, List.getElem?_eq_getElem h']
  rfl
theorem drop_end (s : ByteArray) (i : Nat) (h : s.size ≤ i) : (bl s).drop i = [] := List.drop_eq_nil_of_le (by rw [bl_len]; exact h)
theorem take_snoc_cons {α : Type} (p : List α) (b : α) (l : List α) : (p ++ b :: l).take (p.length + 1) = p ++ [b] := by
  rw [List.take_length_add_append]; simp
attribute [local irreducible] bt

-- snippet acts_one
/-! acts done one by one -/
theorem rd41 (l : List S41) (j : Nat) (h : j < l.length) : rd_T41 l (j : Int) = l[j] := by unfold rd_T41; rw [Int.toNat_natCast, List.getD_eq_getElem?_getD, List.getElem?_eq_getElem h]; rfl
theorem fin_len (L : List S67) (h : (finD L).2 = true) : (finD L).1.length ≤ 30 := by
  unfold finD at h ⊢
  split at h
  · rename_i c
    rw [if_pos c]
    exact okD_len L c
  · cases h
theorem doA_or (l : List S67) (ki : Int) (an at_ ao : ByteArray) : doA l ki an at_ ao = ([], false) ∨ ∃ L, doA l ki an at_ ao = finD L := by
  unfold doA
  repeat' split
  all_goals first | exact Or.inl rfl | exact Or.inr ⟨_, rfl⟩
theorem doA_len (l : List S67) (ki : Int) (an at_ ao : ByteArray) (h : (doA l ki an at_ ao).2 = true) : (doA l ki an at_ ao).1.length ≤ 30 := by
  rcases doA_or l ki an at_ ao with e | ⟨L, e⟩
  · rw [e] at h; cases h
  · rw [e] at h ⊢; exact fin_len L h
def doAs (l : List S41) : Nat → Nat → List S67 → List S67 × Int
  | 0, _, xs => (xs, (l.length : Int))
  | d + 1, i, xs => if (doA xs (rd_T41 l i).f0 (rd_T41 l i).f1 (rd_T41 l i).f2 (rd_T41 l i).f3).2 = true then doAs l d (i + 1) (doA xs (rd_T41 l i).f0 (rd_T41 l i).f1 (rd_T41 l i).f2 (rd_T41 l i).f3).1 else (xs, (i : Int))
theorem doAs_len (l : List S41) (M : Nat) (hM : 30 ≤ M) : ∀ (d i : Nat) (xs : List S67), xs.length ≤ M → (doAs l d i xs).1.length ≤ M
  | 0, _, xs, h => h
  | d + 1, i, xs, h => by
    unfold doAs
    split
    · rename_i c
      exact doAs_len l M hM d (i + 1) _ (Nat.le_trans (doA_len _ _ _ _ _ c) hM)
    · exact h
theorem sdo_l0 (l : List S41) (hl : l.length < 1000000000) (hs : ∀ x ∈ l, x.f2.size ≤ 1048576) : ∀ (d i K : Nat) (xs : List S67), i + d = l.length → d < K → xs.length ≤ 2000000 → spec_DoActs.l0 K l i xs = some (doAs l d i xs) := by
  intro d
  induction d with
  | zero =>
    intro i K xs hi hK hx
    obtain ⟨K, rfl⟩ := succ_of hK
    simp only [spec_DoActs.l0, doAs]
    rw [if_neg (by omega)]
  | succ d ih =>
    intro i K xs hi hK hx
    obtain ⟨K, rfl⟩ := succ_of hK
    have il : i < l.length := by omega
    have w : wrap64 ((i : Int) + 1) = ((i + 1 : Nat) : Int) := wrn _ (by omega) (by omega)
    have hz : (rd_T41 l i).f2.size ≤ 1048576 := by rw [rd41 l i il]; exact hs _ (List.getElem_mem _)
    simp only [spec_DoActs.l0, doAs]
    rw [if_pos (by omega), if_pos (by omega), w]
    unfold spec_DoAct.f
    rw [if_pos ⟨hx, by omega⟩, Option.bind_some]
    by_cases c : (doA xs (rd_T41 l i).f0 (rd_T41 l i).f1 (rd_T41 l i).f2 (rd_T41 l i).f3).2 = true
    · rw [if_pos c, if_pos c]
      exact ih (i + 1) K _ (by omega) (by omega) (by have := doA_len _ _ _ _ _ c; omega)
    · rw [if_neg c, if_neg c]
theorem sdo_f (l0 : List S67) (l : List S41) (h0 : l0.length ≤ 1048576) (hl : l.length ≤ 1048576) (hs : ∀ x ∈ l, x.f2.size ≤ 1048576) (K : Nat) (hK : 1048577 ≤ K) : spec_DoActs.f K l0 l = some (doAs l l.length 0 l0) := by
  unfold spec_DoActs.f
  rw [Option.bind_some, if_pos (by simp only [List.length_nil]; omega), List.nil_append, show (0 : Int) = ((0 : Nat) : Int) from rfl]
  exact sdo_l0 l (by omega) hs l.length 0 K l0 (by omega) (by omega) (by omega)
theorem ido_l0 (l : List S41) (hl : l.length < 1000000000) (hs : ∀ x ∈ l, x.f2.size ≤ 1048576) : ∀ (d i K : Nat) (xs : List S67), i + d = l.length → d < K → xs.length ≤ 2000000 → impl_DoActs.l0 K l l (l.length : Int) i xs = some (doAs l d i xs) := by
  intro d
  induction d with
  | zero =>
    intro i K xs hi hK hx
    obtain ⟨K, rfl⟩ := succ_of hK
    simp only [impl_DoActs.l0, doAs]
    rw [if_neg (by omega)]
  | succ d ih =>
    intro i K xs hi hK hx
    obtain ⟨K, rfl⟩ := succ_of hK
    have il : i < l.length := by omega
    have w : wrap64 ((i : Int) + 1) = ((i + 1 : Nat) : Int) := wrn _ (by omega) (by omega)
    have hz : (rd_T41 l i).f2.size ≤ 1048576 := by rw [rd41 l i il]; exact hs _ (List.getElem_mem _)
    simp only [impl_DoActs.l0, doAs]
    rw [if_pos (by omega), if_pos (by omega), if_pos (by omega), w]
    unfold impl_DoAct.f
    rw [if_pos ⟨hx, by omega⟩, Option.bind_some]
    by_cases c : (doA xs (rd_T41 l i).f0 (rd_T41 l i).f1 (rd_T41 l i).f2 (rd_T41 l i).f3).2 = true
    · rw [if_pos c, if_pos c]
      exact ih (i + 1) K _ (by omega) (by omega) (by have := doA_len _ _ _ _ _ c; omega)
    · rw [if_neg c, if_neg c]
theorem ido_f (l0 : List S67) (l : List S41) (h0 : l0.length ≤ 1048576) (hl : l.length ≤ 1048576) (hs : ∀ x ∈ l, x.f2.size ≤ 1048576) (K : Nat) (hK : 1048577 ≤ K) : impl_DoActs.f K l0 l = some (doAs l l.length 0 l0) := by
  unfold impl_DoActs.f impl_copyDisk.f
  rw [if_pos (by omega), Option.bind_some, show (0 : Int) = ((0 : Nat) : Int) from rfl]
  exact ido_l0 l (by omega) hs l.length 0 K l0 (by omega) (by omega) (by omega)

-- snippet draw
/-! draws -/
theorem mask_range (x : Int) : 0 ≤ Go.bits .and .i64 x 255 ∧ Go.bits .and .i64 x 255 ≤ 255 := by
  unfold Go.bits
  have h : (BitVec.ofInt IntKind.i64.bits x &&& BitVec.ofInt IntKind.i64.bits 255).toNat ≤ 255 := by
    rw [BitVec.toNat_and]
    exact Nat.le_trans Nat.and_le_right (by decide)
  simp only [IntKind.wrap_i64]
  generalize (BitVec.ofInt IntKind.i64.bits x &&& BitVec.ofInt IntKind.i64.bits 255).toNat = n at h
  omega
def curOk (b : List Int) (i : Int) : Prop := 0 ≤ i ∧ i ≤ b.length
theorem byte_ok (b : List Int) (hb : b.length ≤ 1048576) (i h : Int) (hi : curOk b i) : ∃ x i' h', spec_l01Byte.f b i h = some (x, i', h') ∧ 0 ≤ x ∧ x ≤ 255 ∧ curOk b i' := by
  obtain ⟨h0, h1⟩ := hi
  unfold spec_l01Byte.f
  by_cases c : i < (b.length : Int)
  · rw [if_pos c, if_pos h0, wr (i + 1) (by omega) (by omega)]
    exact ⟨_, _, _, rfl, (mask_range _).1, (mask_range _).2, by unfold curOk; omega⟩
  · rw [if_neg c]
    exact ⟨_, _, _, rfl, (mask_range _).1, (mask_range _).2, ⟨h0, h1⟩⟩
theorem below_ok (b : List Int) (hb : b.length ≤ 1048576) (i h n : Int) (hi : curOk b i) (hn : 0 < n) : ∃ x i' h', spec_l01Below.f b i h n = some (x, i', h') ∧ 0 ≤ x ∧ x < n ∧ curOk b i' := by
  unfold spec_l01Below.f
  rw [if_neg (show ¬ n ≤ 0 by omega)]
  obtain ⟨x1, i1, h1, e1, l1, u1, c1⟩ := byte_ok b hb i h hi
  by_cases c : n ≤ 256
  · rw [if_pos c, e1, Option.bind_some, if_neg (show ¬ n = 0 by omega)]
    exact ⟨_, _, _, rfl, Int.tmod_nonneg _ l1, Int.tmod_lt_of_pos _ hn, c1⟩
  · obtain ⟨x2, i2, h2, e2, l2, u2, c2⟩ := byte_ok b hb i1 h1 c1
    obtain ⟨x3, i3, h3, e3, l3, u3, c3⟩ := byte_ok b hb i2 h2 c2
    obtain ⟨x4, i4, h4, e4, l4, u4, c4⟩ := byte_ok b hb i3 h3 c3
    rw [if_neg c, e1, Option.bind_some]
    simp only
    rw [e2, Option.bind_some]
    simp only
    rw [e3, Option.bind_some]
    simp only
    rw [e4, Option.bind_some]
    simp only
    rw [if_neg (show ¬ n = 0 by omega), wr (x1 * 16777216) (by omega) (by omega), wr (x2 * 65536) (by omega) (by omega), wr (x3 * 256) (by omega) (by omega), wr (x1 * 16777216 + x2 * 65536) (by omega) (by omega), wr (x1 * 16777216 + x2 * 65536 + x3 * 256) (by omega) (by omega), wr (x1 * 16777216 + x2 * 65536 + x3 * 256 + x4) (by omega) (by omega)]
    exact ⟨_, _, _, rfl, Int.tmod_nonneg _ (by omega), Int.tmod_lt_of_pos _ hn, c4⟩
theorem new_l0 (b : List Int) (hb : b.length ≤ 1048576) : ∀ (d : Nat) (i : Nat) (h : Int), i + d = 4000 → ∃ h', ∀ K, d < K → spec_l01New.l0 K b h i = some (b, 0, h') := by
  intro d
  induction d with
  | zero =>
    intro i h hi
    refine ⟨h, fun K hK => ?_⟩
    obtain ⟨K, rfl⟩ := succ_of hK
    simp only [spec_l01New.l0]
    by_cases c : (i : Int) < (b.length : Int)
    · rw [if_pos c, if_neg (show ¬ (i : Int) < 4000 by omega)]
    · rw [if_neg c]
  | succ d ih =>
    intro i h hi
    by_cases c : (i : Int) < (b.length : Int)
    · obtain ⟨h', e⟩ := ih (i + 1) (Go.bits .and .i64 (wrap64 ((wrap64 ((wrap64 (h * 131)) + (wrap64 (rd b i)))) + 7)) 1073741823) (by omega)
      refine ⟨h', fun K hK => ?_⟩
      obtain ⟨K, rfl⟩ := succ_of hK
      simp only [spec_l01New.l0]
      rw [if_pos c, if_pos (show (i : Int) < 4000 by omega), if_pos (show 0 ≤ (i : Int) by omega), wr ((i : Int) + 1) (by omega) (by omega), show ((i : Int) + 1) = ((i + 1 : Nat) : Int) by omega]
      exact e K (by omega)
    · refine ⟨h, fun K hK => ?_⟩
      obtain ⟨K, rfl⟩ := succ_of hK
      simp only [spec_l01New.l0]
      rw [if_neg c]
theorem new_ok (b : List Int) (hb : b.length ≤ 1048576) : ∃ h', ∀ K, 4001 ≤ K → spec_l01New.f K b = some (b, 0, h') := by
  obtain ⟨h', e⟩ := new_l0 b hb 4000 0 (wrap64 (27401 + (b.length : Int))) (by omega)
  exact ⟨h', fun K hK => e K (by omega)⟩

-- snippet long
theorem long_l0 (n x : Int) : ∀ (d j K : Nat) (l : List Int), (n : Int) = j + d → j + d < 1000000000 → d < K → l.length = j + d → spec_l01Long.l0 K n x l j = some (strOfNums (l.take j ++ List.replicate d x)) := by
  intro d
  induction d with
  | zero =>
    intro j K l hn hj hK hl
    obtain ⟨K, rfl⟩ := succ_of hK
    simp only [spec_l01Long.l0]
    rw [if_neg (show ¬ (j : Int) < n by omega), List.take_of_length_le (by omega)]
    simp
  | succ d ih =>
    intro j K l hn hj hK hl
    obtain ⟨K, rfl⟩ := succ_of hK
    simp only [spec_l01Long.l0]
    rw [if_pos (show (j : Int) < n by omega), if_pos (show 0 ≤ (j : Int) by omega), if_pos (show (j : Int) < (l.length : Int) by omega), wr ((j : Int) + 1) (by omega) (by omega), show ((j : Int) + 1) = ((j + 1 : Nat) : Int) by omega, Int.toNat_natCast, ih (j + 1) K _ (by omega) (by omega) (by omega) (by simp; omega)]
    congr 2
    rw [List.take_set, List.replicate_succ]
    have : (l.take (j + 1)).set j x = l.take j ++ [x] := by
      rw [List.take_succ_eq_append_getElem (show j < l.length by omega), List.set_append_right _ _ (by simp; omega)]
      simp [show min j l.length = j by omega]
    rw [this]
    simp
theorem long_ok (n x : Int) (h0 : 0 ≤ n) (h1 : n < 1000000000) (K : Nat) (hK : n < K) : spec_l01Long.f K n x = some (strOfNums (List.replicate n.toNat x)) := by
  obtain ⟨m, rfl⟩ := Int.eq_ofNat_of_zero_le h0
  unfold spec_l01Long.f
  rw [if_pos h0, if_pos (by simp; omega)]
  have := long_l0 m x m 0 K (List.replicate m 0) (by omega) (by omega) (by omega) (by simp)
  simpa using this

-- snippet drawlong


-- snippet textcore
theorem text_l0 (b : List Int) (hb : b.length ≤ 1048576) (n : Int) : ∀ (d : Nat) (j : Nat) (acc : List Int) (i h : Int), (n : Int) ≤ j + d → j + d ≤ 5000 → acc.length + d ≤ 5000 → curOk b i → (∀ x ∈ acc, 0 ≤ x ∧ x < 256) → ∃ t i' h', t.size ≤ acc.length + d ∧ curOk b i' ∧ ∀ K, d < K → spec_l01Text.l0 K n acc j b i h = some (t, i', h') := by
  intro d
  induction d with
  | zero =>
    intro j acc i h hn hj hl hi hx
    refine ⟨strOfNums acc, i, h, by rw [str_size acc]; omega, hi, fun K hK => ?_⟩
    obtain ⟨K, rfl⟩ := succ_of hK
    simp only [spec_l01Text.l0]
    rw [if_neg (show ¬ (j : Int) < n by omega)]
  | succ d ih =>
    intro j acc i h hn hj hl hi hx
    by_cases c : (j : Int) < n
    · obtain ⟨x, i', h', e, l, u, c'⟩ := byte_ok b hb i h hi
      obtain ⟨t, i2, h2, ht, c2, et⟩ := ih (j + 1) (acc ++ [x % 256]) i' h' (by omega) (by omega) (by simp; omega) c' (by
        intro y hy
        rcases List.mem_append.mp hy with hy | hy
        · exact hx y hy
        · rw [List.mem_singleton] at hy; omega)
      refine ⟨t, i2, h2, by simp at ht; omega, c2, fun K hK => ?_⟩
      obtain ⟨K, rfl⟩ := succ_of hK
      simp only [spec_l01Text.l0]
      rw [if_pos c, e, Option.bind_some, if_pos (show acc.length < 140737488355328 by omega), wr ((j : Int) + 1) (by omega) (by omega), show ((j : Int) + 1) = ((j + 1 : Nat) : Int) by omega]
      exact et K (by omega)
    · refine ⟨strOfNums acc, i, h, by rw [str_size acc]; omega, hi, fun K hK => ?_⟩
      obtain ⟨K, rfl⟩ := succ_of hK
      simp only [spec_l01Text.l0]
      rw [if_neg c]
theorem text_ok (b : List Int) (hb : b.length ≤ 1048576) (i h n : Int) (hi : curOk b i) (hn : 0 ≤ n) : ∃ t i' h', t.size ≤ 5000 ∧ (t.size : Int) ≤ n ∧ curOk b i' ∧ ∀ K, 6000 ≤ K → spec_l01Text.f K b i h n = some (t, i', h') := by
  by_cases c : n > 5000
  · obtain ⟨t, i', h', ht, c', e⟩ := text_l0 b hb 5000 5000 0 [] i h (by omega) (by omega) (by simp) hi (by simp)
    refine ⟨t, i', h', by simpa using ht, by simp at ht; omega, c', fun K hK => ?_⟩
    obtain ⟨K, rfl⟩ : ∃ m, K = m + 1 := ⟨K - 1, by omega⟩
    unfold spec_l01Text.f
    rw [if_pos c]
    simp only [spec_l01Text.j0]
    exact e K (by omega)
  · obtain ⟨m, rfl⟩ := Int.eq_ofNat_of_zero_le hn
    obtain ⟨t, i', h', ht, c', e⟩ := text_l0 b hb m m 0 [] i h (by omega) (by omega) (by simp; omega) hi (by simp)
    refine ⟨t, i', h', by simp at ht; omega, by simp at ht; omega, c', fun K hK => ?_⟩
    obtain ⟨K, rfl⟩ : ∃ m, K = m + 1 := ⟨K - 1, by omega⟩
    unfold spec_l01Text.f
    rw [if_neg c]
    simp only [spec_l01Text.j0]
    exact e K (by omega)

-- snippet pick
theorem pick_ok (b : List Int) (hb : b.length ≤ 1048576) (i h : Int) (hi : curOk b i) (l : List Int) (hl : 0 < l.length) : ∃ x i' h', spec_l01PickInt.f b i h l = some (x, i', h') ∧ x ∈ l ∧ curOk b i' := by
  obtain ⟨x, i', h', e, l0, u, c⟩ := below_ok b hb i h (l.length : Int) hi (by omega)
  unfold spec_l01PickInt.f
  rw [e, Option.bind_some, if_pos l0, if_pos u]
  refine ⟨_, _, _, rfl, ?_, c⟩
  unfold rd
  rw [List.getD_eq_getElem?_getD, List.getElem?_eq_getElem (show x.toNat < l.length by omega), Option.getD_some]
  exact List.getElem_mem _

-- snippet once
theorem once_ok (b : List Int) (hb : b.length ≤ 1048576) (i h n : Int) (hi : curOk b i) (hn : 0 < n) : ∃ x i' h', spec_l01Once.f b i h n = some (x, i', h') ∧ curOk b i' := by
  obtain ⟨x, i', h', e, _, _, c⟩ := below_ok b hb i h n hi hn
  unfold spec_l01Once.f
  rw [e]
  exact ⟨_, _, _, rfl, c⟩

-- snippet actsdraw
/-! a drawn disk, drawn acts, drawn numbers: that they come, and how long they are -/
theorem spick_ok (b : List Int) (hb : b.length ≤ 1048576) (i h : Int) (hi : curOk b i) (l : List ByteArray) (hl : 0 < l.length) : ∃ x i' h', spec_l01Pick.f b i h l = some (x, i', h') ∧ curOk b i' := by
  obtain ⟨x, i', h', e, l0, u, c⟩ := below_ok b hb i h (l.length : Int) hi (by omega)
  unfold spec_l01Pick.f
  rw [e, Option.bind_some, if_pos l0, if_pos u]
  exact ⟨_, _, _, rfl, c⟩
theorem name_ok (b : List Int) (hb : b.length ≤ 1048576) (i h : Int) (hi : curOk b i) : ∃ x i' h', spec_l03Named.f b i h = some (x, i', h') ∧ curOk b i' := by
  unfold spec_l03Named.f
  obtain ⟨x, i', h', e, c⟩ := spick_ok b hb i h hi [(⟨#[97]⟩ : ByteArray), (⟨#[98]⟩ : ByteArray), (⟨#[99]⟩ : ByteArray), (⟨#[98, 111, 111, 107]⟩ : ByteArray), (⟨#[98, 111, 111, 107, 43]⟩ : ByteArray), (⟨#[120]⟩ : ByteArray), (⟨#[121]⟩ : ByteArray), (⟨#[122]⟩ : ByteArray)] (by decide)
  rw [e]
  exact ⟨_, _, _, rfl, c⟩
theorem dec_some : ∀ (d m : Nat) (s : ByteArray), m < 10 ^ d → d ≤ 9 → m < 1000000000 → s.size + d ≤ 1000 → ∃ t : ByteArray, t.size ≤ s.size + d ∧ ∀ K, d < K → spec_Decimal.l0 K (m : Int) false s = some t := by
  intro d
  induction d with
  | zero =>
    intro m s hm hd h9 hs
    obtain rfl : m = 0 := by simpa using hm
    refine ⟨s, by omega, fun K hK => ?_⟩
    obtain ⟨K, rfl⟩ := succ_of hK
    rw [spec_Decimal.l0, if_pos (by omega), if_neg (by decide)]
  | succ d ih =>
    intro m s hm hd h9 hs
    by_cases c : m = 0
    · subst c
      refine ⟨s, by omega, fun K hK => ?_⟩
      obtain ⟨K, rfl⟩ := succ_of hK
      rw [spec_Decimal.l0, if_pos (by omega), if_neg (by decide)]
    · have t : Int.tmod (m : Int) 10 = ((m % 10 : Nat) : Int) := by rw [Int.tmod_eq_emod_of_nonneg (by omega)]; omega
      have q : wrap64 (Int.tdiv (m : Int) 10) = ((m / 10 : Nat) : Int) := by rw [Int.tdiv_eq_ediv_of_nonneg (by omega)]; exact wrn _ (by omega) (by omega)
      obtain ⟨f, hf⟩ : ∃ f, spec_l01Figure.f ((m % 10 : Nat) : Int) = some f := by unfold spec_l01Figure.f; rw [if_pos (by omega)]; exact ⟨_, rfl⟩
      have hz : (strOfNums [f]).size = 1 := by rw [str_size]; rfl
      obtain ⟨r, hr, er⟩ := ih (m / 10) (strOfNums [f] ++ s) (by rw [Nat.pow_succ] at hm; omega) (by omega) (by omega) (by rw [ByteArray.size_append]; omega)
      refine ⟨r, by rw [ByteArray.size_append] at hr; omega, fun K hK => ?_⟩
      obtain ⟨K, rfl⟩ := succ_of hK
      rw [spec_Decimal.l0, if_neg (by omega), t, if_neg (by omega), hf, Option.bind_some, Option.bind_some, if_pos (by omega), q]
      exact er K (by omega)
theorem dec_ok (m : Nat) (h : m < 1000) : ∃ t : ByteArray, t.size ≤ 3 ∧ ∀ K, 4 ≤ K → spec_Decimal.f K (m : Int) = some t := by
  unfold spec_Decimal.f
  by_cases c : (m : Int) = 0
  · exact ⟨(⟨#[48]⟩ : ByteArray), by decide, fun K hK => by rw [if_pos c]⟩
  · obtain ⟨t, h1, h2⟩ := dec_some 3 m (⟨#[]⟩ : ByteArray) h (by omega) (by omega) (by decide)
    refine ⟨t, h1, fun K hK => ?_⟩
    rw [if_neg c, decide_eq_false (by omega)]
    exact h2 K hK
theorem disk_l1 (b : List Int) (hb : b.length ≤ 1048576) : ∀ (d n : Nat) (L : List S67) (i h : Int), n + d = 31 → curOk b i → L.length = n → ∃ R i' h', List.length R ≤ 31 ∧ curOk b i' ∧ ∀ K, 50 + d < K → spec_l03Disk.l1 K n b i h L = some (R, i', h') := by
  intro d
  induction d with
  | zero =>
    intro n L i h hn hi hL
    obtain ⟨x, i1, h1, e, l0, u, c⟩ := below_ok b hb i h 2 hi (by decide)
    refine ⟨L, i1, h1, by omega, c, fun K hK => ?_⟩
    obtain ⟨K, rfl⟩ : ∃ m, K = m + 1 := ⟨K - 1, by omega⟩
    rw [spec_l03Disk.l1, e, Option.bind_some]
    simp only []
    rw [wr _ (by omega) (by omega), if_neg (by omega)]
  | succ d ih =>
    intro n L i h hn hi hL
    obtain ⟨x, i1, h1, e, l0, u, c⟩ := below_ok b hb i h 2 hi (by decide)
    by_cases cx : (n : Int) < 30 + x
    · obtain ⟨t, t1, t2⟩ := dec_ok (100 + n) (by omega)
      obtain ⟨R, i2, h2, r1, r2, r3⟩ := ih (n + 1) (L ++ [⟨(⟨#[102]⟩ : ByteArray) ++ t, (⟨#[]⟩ : ByteArray), 0⟩]) i1 h1 (by omega) c (by rw [List.length_append, List.length_singleton, hL])
      refine ⟨R, i2, h2, r1, r2, fun K hK => ?_⟩
      obtain ⟨K, rfl⟩ : ∃ m, K = m + 1 := ⟨K - 1, by omega⟩
      rw [spec_l03Disk.l1, e, Option.bind_some]
      simp only []
      rw [wr (30 + x) (by omega) (by omega), if_pos cx, wrn (100 + n) (by omega) (by omega), t2 K (by omega), Option.bind_some, if_pos (by omega), if_pos (by omega), wrn (n + 1) (by omega) (by omega)]
      exact r3 K (by omega)
    · refine ⟨L, i1, h1, by omega, c, fun K hK => ?_⟩
      obtain ⟨K, rfl⟩ : ∃ m, K = m + 1 := ⟨K - 1, by omega⟩
      rw [spec_l03Disk.l1, e, Option.bind_some]
      simp only []
      rw [wr (30 + x) (by omega) (by omega), if_neg cx]
theorem disk_end (b : List Int) (hb : b.length ≤ 1048576) (n : Nat) (L : List S67) (i h : Int) (hi : curOk b i) (hL : L.length ≤ 40) (x i1 h1 : Int) (e : spec_l01Below.f b i h 6 = some (x, i1, h1)) (c : curOk b i1) (hx : ¬ (n : Int) < x) (K : Nat) (hK : 30000 ≤ K) : ∃ R i' h', List.length R ≤ 41 ∧ curOk b i' ∧ spec_l03Disk.l0 (K + 1) n b i h L = some (R, i', h') := by
  rw [spec_l03Disk.l0, e, Option.bind_some]
  simp only []
  rw [if_neg hx]
  by_cases hl0 : (L.length : Int) = 0
  · rw [if_pos hl0]
    exact ⟨L, i1, h1, by omega, c, rfl⟩
  · obtain ⟨j, i2, h2, e2, j0, j1, c2⟩ := below_ok b hb i1 h1 (L.length : Int) c (by omega)
    obtain ⟨z, i3, h3, e3, z0, z1, c3⟩ := below_ok b hb i2 h2 40 c2 (by decide)
    have hset : ∀ u : S67, (L.set j.toNat u).length ≤ 41 := fun u => by rw [List.length_set]; omega
    rw [if_neg hl0, e2, Option.bind_some]
    simp only []
    rw [e3, Option.bind_some]
    simp only []
    by_cases z_0 : z = 0
    · obtain ⟨v, i4, h4, e4, _, c4⟩ := pick_ok b hb i3 h3 c3 [(-1), wrap64 ((((rd_T67 L j).f1).size : Int) + 1)] (by simp)
      rw [if_pos z_0, if_pos j0, if_pos j1, e4, Option.bind_some]
      exact ⟨_, _, _, hset _, c4, rfl⟩
    · rw [if_neg z_0]
      by_cases z_1 : z = 1
      · rw [if_pos z_1, if_pos j0, if_pos j1, if_pos (by omega)]
        exact ⟨_, _, _, by rw [List.length_append, List.length_singleton]; omega, c3, rfl⟩
      · rw [if_neg z_1]
        by_cases z_2 : z = 2
        · obtain ⟨v, i4, h4, e4, c4⟩ := spick_ok b hb i3 h3 c3 [(⟨#[]⟩ : ByteArray), (⟨#[49, 50, 51, 52, 53, 54, 55, 56]⟩ : ByteArray), (⟨#[49, 50, 51, 52, 53, 54, 55, 56, 57]⟩ : ByteArray)] (by decide)
          rw [if_pos z_2, e4, Option.bind_some, if_pos j0, if_pos j1]
          exact ⟨_, _, _, hset _, c4, rfl⟩
        · rw [if_neg z_2]
          by_cases z_3 : z = 3
          · obtain ⟨R, i4, h4, r1, r2, r3⟩ := disk_l1 b hb 31 0 [] i3 h3 rfl c3 rfl
            rw [if_pos z_3]
            exact ⟨R, i4, h4, by omega, r2, r3 K (by omega)⟩
          · rw [if_neg z_3]
            by_cases z_4 : z = 4
            · obtain ⟨v, i4, h4, e4, v0, v1, c4⟩ := below_ok b hb i3 h3 3 c3 (by decide)
              rw [if_pos z_4, e4, Option.bind_some]
              simp only []
              rw [wr (19999 + v) (by omega) (by omega), long_ok _ _ (by omega) (by omega) K (by omega), Option.bind_some, if_pos j0, if_pos j1]
              exact ⟨_, _, _, hset _, c4, rfl⟩
            · rw [if_neg z_4]
              exact ⟨L, i3, h3, by omega, c3, rfl⟩
theorem disk_l0 (b : List Int) (hb : b.length ≤ 1048576) (K0 : Nat) (hK0 : 30000 ≤ K0) : ∀ (d n : Nat) (L : List S67) (i h : Int), n + d = 5 → curOk b i → L.length + 1 ≤ 2 ^ n → ∃ R i' h', List.length R ≤ 41 ∧ curOk b i' ∧ spec_l03Disk.l0 (K0 + d + 1) n b i h L = some (R, i', h') := by
  intro d
  induction d with
  | zero =>
    intro n L i h hn hi hL
    obtain rfl : n = 5 := by omega
    obtain ⟨x, i1, h1, e, l0, u, c⟩ := below_ok b hb i h 6 hi (by decide)
    exact disk_end b hb 5 L i h hi (by omega) x i1 h1 e c (by omega) _ hK0
  | succ d ih =>
    intro n L i h hn hi hL
    obtain ⟨x, i1, h1, e, l0, u, c⟩ := below_ok b hb i h 6 hi (by decide)
    have hp : 2 ^ n ≤ 32 := Nat.pow_le_pow_right (by decide) (show n ≤ 5 by omega)
    by_cases cx : (n : Int) < x
    · obtain ⟨m, i2, h2, e2, l2, u2, c2⟩ := below_ok b hb i1 h1 9 c (by decide)
      obtain ⟨t, i3, h3, t1, t2, c3, e3⟩ := text_ok b hb i2 h2 m c2 l2
      obtain ⟨nm, i4, h4, e4, c4⟩ := name_ok b hb i3 h3 c3
      have w : wrap64 ((t.size : Int) + 1) = (t.size : Int) + 1 := wr _ (by omega) (by omega)
      obtain ⟨kp, i5, h5, e5, l5, u5, c5⟩ := below_ok b hb i4 h4 ((t.size : Int) + 1) c4 (by omega)
      have hr := ih (n + 1) (putD L ⟨nm, t, kp⟩) i5 h5 (by omega) c5 (by have := putD_len L ⟨nm, t, kp⟩; rw [Nat.pow_succ]; omega)
      rw [spec_l03Disk.l0, e, Option.bind_some]
      simp only []
      rw [if_pos cx, e2, Option.bind_some]
      simp only []
      rw [e3 _ (by omega), Option.bind_some]
      simp only []
      rw [e4, Option.bind_some]
      simp only []
      rw [w, e5, Option.bind_some]
      simp only []
      unfold spec_l03Put.f
      rw [if_pos (by omega), Option.bind_some, wrn (n + 1) (by omega) (by omega)]
      exact hr
    · exact disk_end b hb n L i h hi (by omega) x i1 h1 e c cx _ (by omega)
theorem disk_ok (b : List Int) (hb : b.length ≤ 1048576) (i h : Int) (hi : curOk b i) (K : Nat) (hK : 40000 ≤ K) : ∃ R i' h', List.length R ≤ 41 ∧ curOk b i' ∧ spec_l03Disk.f K b i h = some (R, i', h') := by
  have := disk_l0 b hb (K - 6) (by omega) 5 0 [] i h rfl hi (by decide)
  rw [show K - 6 + 5 + 1 = K by omega] at this
  exact this
theorem act_j0 (b : List Int) (hb : b.length ≤ 1048576) (i h : Int) (hi : curOk b i) (ki : Int) (an at_ ao : ByteArray) (ht : at_.size ≤ 5000) (K : Nat) : ∃ ki' an' at' ao' i' h', spec_l03Act.j0 (K + 1) b i h ki an at_ ao = some (ki', an', at', ao', i', h') ∧ ByteArray.size at' ≤ 5000 ∧ curOk b i' := by
  obtain ⟨z, i1, h1, e, z0, z1, c⟩ := below_ok b hb i h 40 hi (by decide)
  rw [spec_l03Act.j0, e, Option.bind_some]
  simp only []
  by_cases z_0 : z = 0
  · obtain ⟨v, i4, h4, e4, _, c4⟩ := pick_ok b hb i1 h1 c [0, 5] (by decide)
    rw [if_pos z_0, e4]
    exact ⟨_, _, _, _, _, _, rfl, ht, c4⟩
  · rw [if_neg z_0]
    by_cases z_1 : z = 1
    · obtain ⟨v, i4, h4, e4, c4⟩ := spick_ok b hb i1 h1 c [(⟨#[]⟩ : ByteArray), (⟨#[49, 50, 51, 52, 53, 54, 55, 56, 57]⟩ : ByteArray), (⟨#[110, 101, 119]⟩ : ByteArray)] (by decide)
      rw [if_pos z_1, e4]
      exact ⟨_, _, _, _, _, _, rfl, ht, c4⟩
    · rw [if_neg z_1]
      by_cases z_2 : z = 2
      · rw [if_pos z_2]; exact ⟨_, _, _, _, _, _, rfl, ht, c⟩
      · rw [if_neg z_2]
        by_cases z_3 : z = 3
        · rw [if_pos z_3]; exact ⟨_, _, _, _, _, _, rfl, by decide, c⟩
        · rw [if_neg z_3]; exact ⟨_, _, _, _, _, _, rfl, ht, c⟩
theorem act_ok (b : List Int) (hb : b.length ≤ 1048576) (i h : Int) (hi : curOk b i) (K : Nat) (hK : 7000 ≤ K) : ∃ ki an at_ ao i' h', spec_l03Act.f K b i h = some (ki, an, at_, ao, i', h') ∧ ByteArray.size at_ ≤ 5000 ∧ curOk b i' := by
  obtain ⟨K, rfl⟩ : ∃ m, K = m + 1 := ⟨K - 1, by omega⟩
  obtain ⟨x, i1, h1, e1, x0, x1, c1⟩ := below_ok b hb i h 4 hi (by decide)
  obtain ⟨nm, i2, h2, e2, c2⟩ := name_ok b hb i1 h1 c1
  have w : wrap64 (1 + x) = 1 + x := wr _ (by omega) (by omega)
  unfold spec_l03Act.f
  rw [e1, Option.bind_some]
  simp only []
  rw [e2, Option.bind_some]
  simp only []
  rw [w]
  by_cases k1 : 1 + x = 1
  · obtain ⟨m, i3, h3, e3, m0, m1, c3⟩ := below_ok b hb i2 h2 6 c2 (by decide)
    obtain ⟨t, i4, h4, t1, t2, c4, e4⟩ := text_ok b hb i3 h3 m c3 m0
    rw [if_pos k1, e3, Option.bind_some]
    simp only []
    rw [e4 _ (by omega), Option.bind_some]
    exact act_j0 b hb i4 h4 c4 _ _ _ _ t1 K
  · rw [if_neg k1]
    by_cases k3 : 1 + x = 3
    · obtain ⟨t, i4, h4, e4, c4⟩ := name_ok b hb i2 h2 c2
      rw [if_pos k3, e4, Option.bind_some]
      exact act_j0 b hb i4 h4 c4 _ _ _ _ (by decide) K
    · rw [if_neg k3]
      exact act_j0 b hb i2 h2 c2 _ _ _ _ (by decide) K
theorem doA_short (l : List S67) (ki : Int) (an at_ ao : ByteArray) : (doA l ki an at_ ao).1.length ≤ 30 := by
  rcases doA_or l ki an at_ ao with e | ⟨L, e⟩
  · rw [e]; decide
  · rw [e]
    unfold finD
    split
    · rename_i c; exact okD_len L c
    · decide
theorem acts_l0 (b : List Int) (hb : b.length ≤ 1048576) (K0 : Nat) (hK0 : 8000 ≤ K0) : ∀ (d n : Nat) (acc : List S41) (l : List S67) (i h : Int), n + d = 8 → acc.length ≤ n → (∀ x ∈ acc, x.f2.size ≤ 5000) → l.length ≤ 41 → curOk b i → ∃ R i' h', List.length R ≤ 8 ∧ (∀ x ∈ R, x.f2.size ≤ 5000) ∧ curOk b i' ∧ spec_l03Acts.l0 (K0 + d + 1) acc n b i h l = some (R, i', h') := by
  intro d
  induction d with
  | zero =>
    intro n acc l i h hn ha hs hl hi
    obtain ⟨x, i1, h1, e, l0, u, c⟩ := below_ok b hb i h 9 hi (by decide)
    refine ⟨acc, i1, h1, by omega, hs, c, ?_⟩
    rw [spec_l03Acts.l0, e, Option.bind_some]
    simp only []
    rw [if_neg (by omega)]
  | succ d ih =>
    intro n acc l i h hn ha hs hl hi
    obtain ⟨x, i1, h1, e, l0, u, c⟩ := below_ok b hb i h 9 hi (by decide)
    have w : wrap64 ((n : Int) + 1) = ((n + 1 : Nat) : Int) := wrn _ (by omega) (by omega)
    rw [spec_l03Acts.l0, e, Option.bind_some]
    simp only []
    rw [w]
    by_cases cx : (n : Int) < x
    · obtain ⟨ki, an, at_, ao, i2, h2, e2, s2, c2⟩ := act_ok b hb i1 h1 c (K0 + (d + 1)) (by omega)
      have hs2 : ∀ y ∈ acc ++ [(⟨ki, an, at_, ao⟩ : S41)], y.f2.size ≤ 5000 := fun y hy => by
        rcases List.mem_append.1 hy with hy | hy
        · exact hs y hy
        · rw [List.mem_singleton.1 hy]; exact s2
      have ha2 : (acc ++ [(⟨ki, an, at_, ao⟩ : S41)]).length ≤ n + 1 := by rw [List.length_append, List.length_singleton]; omega
      rw [if_pos cx, e2, Option.bind_some]
      simp only []
      unfold spec_DoAct.f
      rw [if_pos ⟨by omega, by omega⟩, Option.bind_some]
      have hd := doA_short l ki an at_ ao
      by_cases cd : (doA l ki an at_ ao).2 = true
      · rw [if_pos cd, if_pos (by omega)]
        exact ih (n + 1) _ _ i2 h2 (by omega) ha2 hs2 (by omega) c2
      · obtain ⟨o, i3, h3, e3, c3⟩ := once_ok b hb i2 h2 20 c2 (by decide)
        rw [if_neg cd, e3, Option.bind_some]
        simp only []
        by_cases co : o = true
        · rw [if_pos co, if_pos (by omega)]
          exact ih (n + 1) _ _ i3 h3 (by omega) ha2 hs2 (by omega) c3
        · rw [if_neg co]
          exact ih (n + 1) acc l i3 h3 (by omega) (by omega) hs hl c3
    · rw [if_neg cx]
      exact ⟨acc, i1, h1, by omega, hs, c, rfl⟩
theorem left_l0 (b : List Int) (hb : b.length ≤ 1048576) (K0 : Nat) : ∀ (d n : Nat) (acc : List Int) (i h : Int), n + d = 5 → acc.length ≤ n → curOk b i → ∃ q i' h', spec_l03Left.l0 (K0 + d + 1) acc n b i h = some (q, i', h') := by
  intro d
  induction d with
  | zero =>
    intro n acc i h hn ha hi
    obtain ⟨x, i1, h1, e, l0, u, c⟩ := below_ok b hb i h 6 hi (by decide)
    rw [spec_l03Left.l0, e, Option.bind_some]
    simp only []
    rw [if_neg (by omega)]
    exact ⟨_, _, _, rfl⟩
  | succ d ih =>
    intro n acc i h hn ha hi
    obtain ⟨x, i1, h1, e, l0, u, c⟩ := below_ok b hb i h 6 hi (by decide)
    have w : wrap64 ((n : Int) + 1) = ((n + 1 : Nat) : Int) := wrn _ (by omega) (by omega)
    rw [spec_l03Left.l0, e, Option.bind_some]
    simp only []
    rw [w]
    by_cases cx : (n : Int) < x
    · obtain ⟨v, i2, h2, e2, _, c2⟩ := pick_ok b hb i1 h1 c [0, 1, 2, 3, 5, 9, 40, 200, (-1), 9223372036854775807] (by decide)
      rw [if_pos cx, e2, Option.bind_some]
      simp only []
      rw [if_pos (by omega)]
      exact ih (n + 1) _ i2 h2 (by omega) (by rw [List.length_append, List.length_singleton]; omega) c2
    · rw [if_neg cx]
      exact ⟨_, _, _, rfl⟩
theorem place_ok (b : List Int) (hb : b.length ≤ 1048576) (i h n : Int) (hi : curOk b i) (hn : 0 < n) : ∃ x i' h', spec_l01Place.f b i h n = some (x, i', h') ∧ curOk b i' := by
  obtain ⟨o, i1, h1, e1, c1⟩ := once_ok b hb i h 15 hi (by decide)
  unfold spec_l01Place.f
  rw [e1, Option.bind_some]
  simp only []
  by_cases co : o = true
  · obtain ⟨v, i2, h2, e2, _, c2⟩ := pick_ok b hb i1 h1 c1 [(-1), n, wrap64 (n + 1), 9223372036854775807, (-9223372036854775808)] (by simp)
    rw [if_pos co, e2]
    exact ⟨_, _, _, rfl, c2⟩
  · obtain ⟨v, i2, h2, e2, _, _, c2⟩ := below_ok b hb i1 h1 n c1 hn
    rw [if_neg co, e2]
    exact ⟨_, _, _, rfl, c2⟩
/-- A drawn disk, drawn acts, a drawn place and drawn numbers: they come, and are short. -/
theorem draw_acts (b : List Int) (hb : b.length ≤ 1048576) (K : Nat) (hK : 50000 ≤ K) : ∃ D L wh q, spec_DrawCutActs.f K b = some (D, L, wh, q) ∧ List.length D ≤ 41 ∧ List.length L ≤ 8 ∧ ∀ x ∈ L, ByteArray.size x.f2 ≤ 5000 := by
  obtain ⟨h, e⟩ := new_ok b hb
  obtain ⟨D, i1, h1, d1, c1, e1⟩ := disk_ok b hb 0 h ⟨by omega, by omega⟩ K (by omega)
  obtain ⟨L, i2, h2, l1, l2, c2, e2⟩ := acts_l0 b hb (K - 9) (by omega) 8 0 [] D i1 h1 rfl (by decide) (by simp) d1 c1
  have w : wrap64 ((L.length : Int) + 1) = (L.length : Int) + 1 := wr _ (by omega) (by omega)
  obtain ⟨wh, i3, h3, e3, c3⟩ := place_ok b hb i2 h2 ((L.length : Int) + 1) c2 (by omega)
  obtain ⟨q, i4, h4, e4⟩ := left_l0 b hb (K - 6) 5 0 [] i3 h3 rfl (by decide) c3
  rw [show K - 9 + 8 + 1 = K by omega] at e2
  rw [show K - 6 + 5 + 1 = K by omega] at e4
  refine ⟨D, L, wh, q, ?_, d1, l1, l2⟩
  unfold spec_DrawCutActs.f spec_l03Acts.f spec_l03Left.f
  rw [e K (by omega), Option.bind_some]
  simp only []
  rw [e1, Option.bind_some]
  simp only []
  rw [show (0 : Int) = ((0 : Nat) : Int) from rfl, e2, Option.bind_some]
  simp only []
  rw [w, e3, Option.bind_some]
  simp only []
  rw [e4, Option.bind_some]

-- snippet fileat
/-! the text of a name behind an act -/
theorem find_mid {α : Type} (p : α → Bool) (x : α) (B : List α) (hx : p x = true) : ∀ A : List α, (∀ a ∈ A, p a = false) → (A ++ [x] ++ B).findIdx? p = some A.length
  | [], _ => by simp [List.findIdx?_cons, hx]
  | a :: A, h => by
    have ih := find_mid p x B hx A (fun b hb => h b (List.mem_cons_of_mem _ hb))
    have ha := h a List.mem_cons_self
    rw [List.cons_append, List.cons_append, List.findIdx?_cons, ha, ih]
    simp
theorem put_find (l : List S67) (f : S67) : (putD l f).findIdx? (fun x => x.f0.toList == f.f0.toList) = some (l.filter (fun x => Op.bytesLess x.f0.toList f.f0.toList)).length ∧ (putD l f).getD (l.filter (fun x => Op.bytesLess x.f0.toList f.f0.toList)).length z67 = f := by
  refine ⟨?_, ?_⟩
  · unfold putD
    exact find_mid (fun x : S67 => x.f0.toList == f.f0.toList) f _ (by simp) _ (fun a ha => bl_ne _ _ (List.mem_filter.1 ha).2)
  · unfold putD
    rw [List.append_assoc, List.getD_eq_getElem?_getD, List.getElem?_append_right (Nat.le_refl _), Nat.sub_self]
    rfl
theorem put_at (l : List S67) (f : S67) : ∃ i : Nat, atD (putD l f) f.f0 = (i : Int) ∧ i < (putD l f).length ∧ (putD l f).getD i z67 = f := by
  obtain ⟨h1, h2⟩ := put_find l f
  exact ⟨_, atD_yes _ _ _ h1, (find_name h1).1, h2⟩
theorem without_at (l : List S67) (s : ByteArray) : atD (withoutD l s) s = -1 := by
  refine atD_no _ _ (List.findIdx?_eq_none_iff.2 fun x hx => ?_)
  unfold withoutD at hx
  have := (List.mem_filter.1 hx).2
  simpa using this
theorem fin_of {L : List S67} (h : (finD L).2 = true) : (finD L).1 = L := by
  unfold finD at h ⊢
  split at h
  · rename_i c; rw [if_pos c]
  · cases h
/-- An act of kind 1 that is done: the name has its old text with the new behind. -/
theorem doA_add (l : List S67) (an at_ ao : ByteArray) (h : (doA l 1 an at_ ao).2 = true) : ∃ i : Nat, atD (doA l 1 an at_ ao).1 an = (i : Int) ∧ i < (doA l 1 an at_ ao).1.length ∧ ((doA l 1 an at_ ao).1.getD i z67).f1 = (match l.findIdx? (fun x => x.f0.toList == an.toList) with | none => (⟨#[]⟩ : ByteArray) | some j => (l.getD j z67).f1) ++ at_ := by
  by_cases c : okD l = true ∧ nameB an = true
  · cases e : l.findIdx? (fun x => x.f0.toList == an.toList) with
    | none =>
      by_cases d : ao.toList.isEmpty = true
      · have hd : doA l 1 an at_ ao = finD (putD l ⟨an, (⟨#[]⟩ : ByteArray) ++ at_, 0⟩) := by unfold doA; rw [if_pos c, e]; simp [d]
        rw [hd] at h ⊢
        rw [fin_of h]
        obtain ⟨i, h1, h2, h3⟩ := put_at l ⟨an, (⟨#[]⟩ : ByteArray) ++ at_, 0⟩
        exact ⟨i, h1, h2, by rw [h3]⟩
      · have hd : doA l 1 an at_ ao = ([], false) := by unfold doA; rw [if_pos c, e]; simp [d]
        rw [hd] at h; cases h
    | some j =>
      by_cases d : ao.toList.isEmpty = true
      · have hd : doA l 1 an at_ ao = finD (putD l ⟨(l.getD j z67).f0, (l.getD j z67).f1 ++ at_, (l.getD j z67).f2⟩) := by unfold doA; rw [if_pos c, e]; simp [d]
        rw [hd] at h ⊢
        rw [fin_of h]
        obtain ⟨i, h1, h2, h3⟩ := put_at l ⟨(l.getD j z67).f0, (l.getD j z67).f1 ++ at_, (l.getD j z67).f2⟩
        have hn : (l.getD j z67).f0 = an := (find_name e).2
        rw [hn] at h1 h2 h3 ⊢
        exact ⟨i, h1, h2, by rw [h3]⟩
      · have hd : doA l 1 an at_ ao = ([], false) := by unfold doA; rw [if_pos c, e]; simp [d]
        rw [hd] at h; cases h
  · have hd : doA l 1 an at_ ao = ([], false) := by unfold doA; rw [if_neg c]
    rw [hd] at h; cases h
/-- An act of kind 4 that is done: the name is gone. -/
theorem doA_gone (l : List S67) (an at_ ao : ByteArray) (h : (doA l 4 an at_ ao).2 = true) : atD (doA l 4 an at_ ao).1 an = -1 := by
  by_cases c : okD l = true ∧ nameB an = true
  · cases e : l.findIdx? (fun x => x.f0.toList == an.toList) with
    | none =>
      have hd : doA l 4 an at_ ao = ([], false) := by unfold doA; rw [if_pos c, e]; simp
      rw [hd] at h; cases h
    | some j =>
      by_cases d : at_.toList.isEmpty = true ∧ ao.toList.isEmpty = true
      · have hd : doA l 4 an at_ ao = finD (withoutD l an) := by unfold doA; rw [if_pos c, e]; simp [d.1, d.2]
        rw [hd] at h ⊢
        rw [fin_of h]
        exact without_at l an
      · have hd : doA l 4 an at_ ao = ([], false) := by
          unfold doA; rw [if_pos c, e]
          by_cases d1 : at_.toList.isEmpty = true
          · have d2 : ¬ ao.toList.isEmpty = true := fun q => d ⟨d1, q⟩
            simp [d1, d2]
          · simp [d1]
        rw [hd] at h; cases h
  · have hd : doA l 4 an at_ ao = ([], false) := by unfold doA; rw [if_neg c]
    rw [hd] at h; cases h

-- snippet losed
/-! what is left of a disk, by the reference -/
def lsUp (l1 : List Int) (xs : List S67) (i : Nat) : List S67 := (List.range i).map (fun j => ls1 l1 j (xs.getD j z67))
theorem lsUp_succ (l1 : List Int) (xs : List S67) (i : Nat) : lsUp l1 xs (i + 1) = lsUp l1 xs i ++ [ls1 l1 i (xs.getD i z67)] := by unfold lsUp; rw [List.range_succ, List.map_append]; rfl
theorem lsUp_len (l1 : List Int) (xs : List S67) (i : Nat) : (lsUp l1 xs i).length = i := by unfold lsUp; rw [List.length_map, List.length_range]
theorem lsTo_up (l1 : List Int) (xs : List S67) : ∀ i, i ≤ xs.length → lsTo l1 xs i = lsUp l1 xs i ++ xs.drop i
  | 0, _ => rfl
  | i + 1, h => by
    show (lsTo l1 xs i).set i _ = _
    rw [lsTo_up l1 xs i (by omega), lsUp_succ, List.drop_eq_getElem_cons (show i < xs.length by omega), List.set_append_right _ _ (by rw [lsUp_len]; exact Nat.le_refl _), lsUp_len, Nat.sub_self, List.set_cons_zero, List.append_assoc]
    rfl
theorem loseD_up (l1 : List Int) (xs : List S67) : loseD xs l1 = lsUp l1 xs xs.length := by
  unfold loseD
  rw [lsTo_up l1 xs _ (Nat.le_refl _), List.drop_eq_nil_of_le (Nat.le_refl _), List.append_nil]
theorem loseD_len (l1 : List Int) (xs : List S67) : (loseD xs l1).length = xs.length := by rw [loseD_up, lsUp_len]
theorem extract_all (s : ByteArray) : s.extract 0 s.size = s := by simp
theorem lose_j1 (l1 : List Int) (l out : List S67) (i : Nat) (q : Int) (x : S67) (K : Nat) (h0 : 0 ≤ x.f2) (h1 : x.f2 ≤ (x.f1.size : Int)) (ho : out.length < 3518437208883) (hi : i < 1000000000) (hq : ls1 l1 i x = ⟨x.f0, x.f1.extract 0 (if q > (x.f1.size : Int) then (x.f1.size : Int) else if q < x.f2 then x.f2 else q).toNat, (if q > (x.f1.size : Int) then (x.f1.size : Int) else if q < x.f2 then x.f2 else q)⟩) :
    spec_LoseDisk.j1 (K + 1) l1 (i : Int) q l out x.f0 x.f1 x.f2 = spec_LoseDisk.l0 K l1 ((i + 1 : Nat) : Int) l (out ++ [ls1 l1 i x]) := by
  have w : wrap64 ((i : Int) + 1) = ((i + 1 : Nat) : Int) := wrn _ (by omega) (by omega)
  simp only [spec_LoseDisk.j1]
  rw [w]
  by_cases c : q > (x.f1.size : Int)
  · rw [if_pos c] at hq ⊢
    rw [if_neg (show ¬ (x.f1.size : Int) < x.f2 by omega), if_pos (by omega), if_pos (by omega), if_pos ho, hq, Int.toNat_natCast, extract_all]
  · rw [if_neg c] at hq ⊢
    by_cases d : q < x.f2
    · rw [if_pos d] at hq ⊢
      rw [if_pos h0, if_pos h1, if_pos ho, hq]
    · rw [if_neg d] at hq ⊢
      rw [if_pos (by omega), if_pos (by omega), if_pos ho, hq]
theorem lose_l0 (l : List S67) (l1 : List Int) (hok : okD l = true) : ∀ (d i K : Nat), i + d = l.length → 2 * d < K → spec_LoseDisk.l0 K l1 (i : Int) l (lsUp l1 l i) = some (lsUp l1 l l.length, true) := by
  have hl := okD_len l hok
  intro d
  induction d with
  | zero =>
    intro i K hi hK
    obtain ⟨K, rfl⟩ : ∃ m, K = m + 1 := ⟨K - 1, by omega⟩
    simp only [spec_LoseDisk.l0]
    rw [if_neg (by omega), show i = l.length by omega]
  | succ d ih =>
    intro i K hi hK
    obtain ⟨K, rfl⟩ : ∃ m, K = m + 2 := ⟨K - 2, by omega⟩
    obtain ⟨h0, h1, h2⟩ := okD_get l hok i (by omega)
    have hrd : rd_T67 l (i : Int) = l.getD i z67 := by unfold rd_T67; rw [Int.toNat_natCast]
    simp only [spec_LoseDisk.l0]
    rw [if_pos (by omega), if_pos (by omega), hrd]
    have hup := lsUp_succ l1 l i
    have hn : ∀ q : Int, lsN l1 i (l.getD i z67) = (if q > ((l.getD i z67).f1.size : Int) then ((l.getD i z67).f1.size : Int) else if q < (l.getD i z67).f2 then (l.getD i z67).f2 else q) → spec_LoseDisk.j1 (K + 1) l1 (i : Int) q l (lsUp l1 l i) (l.getD i z67).f0 (l.getD i z67).f1 (l.getD i z67).f2 = some (lsUp l1 l l.length, true) := fun q hq => by
      rw [lose_j1 l1 l _ i q (l.getD i z67) K h0 h1 (by rw [lsUp_len]; omega) (by omega) (by unfold ls1; rw [hq]), ← hup]
      exact ih (i + 1) K (by omega) (by omega)
    by_cases c : (i : Int) < (l1.length : Int)
    · rw [if_pos c]
      refine hn _ ?_
      unfold lsN rd
      rw [if_pos (by omega), Int.toNat_natCast]
      generalize l1.getD i 0 = q
      unfold mx mn
      (repeat' split) <;> omega
    · rw [if_neg c]
      refine hn _ ?_
      unfold lsN
      rw [if_neg (by omega)]
      unfold mx
      (repeat' split) <;> omega
theorem spec_lose_f (l : List S67) (l1 : List Int) (K : Nat) (hl : l.length ≤ 1000000000) (hK : 100 ≤ K) : spec_LoseDisk.f K l l1 = some (if okD l = true then loseD l l1 else [], okD l) := by
  unfold spec_LoseDisk.f spec_DiskOk.f
  rw [if_pos hl, Option.bind_some]
  by_cases c : okD l = true
  · rw [if_pos c, if_pos c]
    have h30 := okD_len l c
    have := lose_l0 l l1 c l.length 0 K (by omega) (by omega)
    rw [show (0 : Int) = ((0 : Nat) : Int) from rfl, loseD_up, c]
    exact this
  · rw [if_neg c, if_neg c]
    rw [Bool.not_eq_true] at c
    rw [c]
theorem impl_lose_f (l : List S67) (l1 : List Int) (hl : l.length ≤ 1000000000) : impl_LoseDisk.f l l1 = some (if okD l = true then loseD l l1 else [], okD l) := by
  unfold impl_LoseDisk.f
  rw [if_pos hl]

/-! the acts one by one -/
def stX (L : List S41) (D : List S67) : Nat → List S67
  | 0 => D
  | i + 1 => (doA (stX L D i) (rd_T41 L i).f0 (rd_T41 L i).f1 (rd_T41 L i).f2 (rd_T41 L i).f3).1
theorem doAs_st (L : List S41) (D : List S67) : ∀ d i, i + d = L.length → ∃ n, i ≤ n ∧ n ≤ L.length ∧ doAs L d i (stX L D i) = (stX L D n, (n : Int)) ∧ ∀ j, i ≤ j → j < n → (doA (stX L D j) (rd_T41 L j).f0 (rd_T41 L j).f1 (rd_T41 L j).f2 (rd_T41 L j).f3).2 = true
  | 0, i, h => ⟨i, Nat.le_refl _, by omega, by rw [doAs, show i = L.length by omega], fun j h1 h2 => by omega⟩
  | d + 1, i, h => by
    rw [doAs]
    by_cases c : (doA (stX L D i) (rd_T41 L i).f0 (rd_T41 L i).f1 (rd_T41 L i).f2 (rd_T41 L i).f3).2 = true
    · obtain ⟨n, h1, h2, h3, h4⟩ := doAs_st L D d (i + 1) (by omega)
      rw [if_pos c]
      refine ⟨n, by omega, h2, h3, fun j j1 j2 => ?_⟩
      by_cases e : j = i
      · rw [e]; exact c
      · exact h4 j (by omega) j2
    · rw [if_neg c]
      exact ⟨i, Nat.le_refl _, by omega, rfl, fun j h1 h2 => by omega⟩
theorem stX_len (L : List S41) (D : List S67) (h : D.length ≤ 41) : ∀ i, (stX L D i).length ≤ 41
  | 0 => h
  | i + 1 => Nat.le_trans (doA_short _ _ _ _ _) (by decide)
/-- What FileAt tells. -/
def fA (l : List S67) (s : ByteArray) : ByteArray × Bool := match l.findIdx? (fun x => x.f0.toList == s.toList) with | none => ((⟨#[]⟩ : ByteArray), false) | some j => ((l.getD j z67).f1, true)
theorem fA_ok (l : List S67) (s : ByteArray) (h : l.length ≤ 1000000000) : impl_FileAt.f l s = some (fA l s) := by
  unfold impl_FileAt.f impl_fileAt.f fA
  rw [if_pos h, Option.bind_some]
  cases e : l.findIdx? (fun x => x.f0.toList == s.toList) with
  | none => rw [atD_no _ _ e, if_pos (by decide)]
  | some j =>
    have hj := (find_name e).1
    rw [atD_yes _ _ _ e, if_neg (by omega), if_pos (by omega), if_pos (by omega)]
    unfold rd_T67
    rw [Int.toNat_natCast]
theorem fA_at (l : List S67) (s : ByteArray) (i : Nat) (h : atD l s = (i : Int)) : fA l s = ((l.getD i z67).f1, true) := by
  unfold fA
  cases e : l.findIdx? (fun x => x.f0.toList == s.toList) with
  | none => rw [atD_no _ _ e] at h; omega
  | some j =>
    rw [atD_yes _ _ _ e] at h
    obtain rfl : j = i := by omega
    rfl
theorem fA_no (l : List S67) (s : ByteArray) (h : atD l s = -1) : fA l s = ((⟨#[]⟩ : ByteArray), false) := by
  unfold fA
  cases e : l.findIdx? (fun x => x.f0.toList == s.toList) with
  | none => rfl
  | some j => rw [atD_yes _ _ _ e] at h; omega
theorem doA_ok (l : List S67) (ki : Int) (an at_ ao : ByteArray) (h : (doA l ki an at_ ao).2 = true) : okD (doA l ki an at_ ao).1 = true := by
  rcases doA_or l ki an at_ ao with e | ⟨L, e⟩
  · rw [e] at h; cases h
  · rw [e] at h ⊢
    rw [fin_of h]
    unfold finD at h
    split at h
    · assumption
    · cases h
theorem add_ok (l : List S67) (an at_ ao : ByteArray) (h : (doA l 1 an at_ ao).2 = true) : (fA (doA l 1 an at_ ao).1 an).2 = true ∧ (fA l an).1.size + at_.size ≤ 9223372036854775807 ∧ (fA (doA l 1 an at_ ao).1 an).1 = (fA l an).1 ++ at_ := by
  obtain ⟨i, h1, h2, h3⟩ := doA_add l an at_ ao h
  have h4 := fA_at _ _ _ h1
  have h5 : (fA l an).1 = (match l.findIdx? (fun x => x.f0.toList == an.toList) with | none => (⟨#[]⟩ : ByteArray) | some j => (l.getD j z67).f1) := by
    unfold fA
    cases l.findIdx? (fun x => x.f0.toList == an.toList) <;> rfl
  rw [← h5] at h3
  have h6 := (okD_get _ (doA_ok l 1 an at_ ao h) i h2).2.2
  rw [h3, ByteArray.size_append] at h6
  rw [h4]
  exact ⟨rfl, by omega, h3⟩
theorem gone_ok (l : List S67) (an at_ ao : ByteArray) (h : (doA l 4 an at_ ao).2 = true) : (fA (doA l 4 an at_ ao).1 an).2 = false := by
  rw [fA_no _ _ (doA_gone l an at_ ao h)]
/-! cut -/
def cutA (l0 : List S67) (l1 : List S41) (a2 : Int) (l3 : List Int) : List S67 × Bool :=
  if 0 ≤ a2 ∧ a2 ≤ (l1.length : Int) then
    (if (doAs (l1.take a2.toNat) (l1.take a2.toNat).length 0 l0).2 < a2 then ([], false)
     else (if okD (doAs (l1.take a2.toNat) (l1.take a2.toNat).length 0 l0).1 = true then loseD (doAs (l1.take a2.toNat) (l1.take a2.toNat).length 0 l0).1 l3 else [], okD (doAs (l1.take a2.toNat) (l1.take a2.toNat).length 0 l0).1))
  else ([], false)
theorem take_s (l : List S41) (n : Nat) (h : l.length ≤ 1048576) (hs : ∀ x ∈ l, x.f2.size ≤ 1048576) : (l.take n).length ≤ 1048576 ∧ ∀ x ∈ l.take n, x.f2.size ≤ 1048576 :=
  ⟨by rw [List.length_take]; omega, fun x hx => hs x (List.mem_of_mem_take hx)⟩
theorem scut_f (l0 : List S67) (l1 : List S41) (a2 : Int) (l3 : List Int) (h0 : l0.length ≤ 1048576) (h1 : l1.length ≤ 1048576) (hs : ∀ x ∈ l1, x.f2.size ≤ 1048576) (K : Nat) (hK : 1048577 ≤ K) : spec_CutActs.f K l0 l1 a2 l3 = some (cutA l0 l1 a2 l3) := by
  obtain ⟨t1, t2⟩ := take_s l1 a2.toNat h1 hs
  have lr := doAs_len (l1.take a2.toNat) 1048576 (by omega) (l1.take a2.toNat).length 0 l0 h0
  unfold spec_CutActs.f spec_l01In.f cutA
  by_cases c : a2 ≥ 0
  · rw [if_pos c, Option.bind_some]
    by_cases d : a2 ≤ (l1.length : Int)
    · rw [decide_eq_true d, if_pos rfl, if_pos (show 0 ≤ a2 from c), if_pos d, if_pos ⟨c, d⟩, sdo_f l0 _ h0 t1 t2 K hK, Option.bind_some]
      generalize doAs (l1.take a2.toNat) (l1.take a2.toNat).length 0 l0 = Q at lr ⊢
      by_cases e : Q.2 < a2
      · rw [if_pos e, if_pos e]
      · rw [if_neg e, if_neg e, spec_lose_f Q.1 l3 K (by omega) (by omega), Option.bind_some]
    · rw [decide_eq_false d, if_neg (by decide), if_neg (fun h => d h.2)]
  · rw [if_neg c, Option.bind_some, if_neg (by decide), if_neg (fun h => c h.1)]
theorem icut_f (l0 : List S67) (l1 : List S41) (a2 : Int) (l3 : List Int) (h0 : l0.length ≤ 1048576) (h1 : l1.length ≤ 1048576) (hs : ∀ x ∈ l1, x.f2.size ≤ 1048576) (K : Nat) (hK : 1048577 ≤ K) : impl_CutActs.f K l0 l1 a2 l3 = some (cutA l0 l1 a2 l3) := by
  obtain ⟨t1, t2⟩ := take_s l1 a2.toNat h1 hs
  have lr := doAs_len (l1.take a2.toNat) 1048576 (by omega) (l1.take a2.toNat).length 0 l0 h0
  unfold impl_CutActs.f impl_in.f cutA
  by_cases c : a2 ≥ 0
  · rw [if_pos c, Option.bind_some]
    by_cases d : a2 ≤ (l1.length : Int)
    · rw [decide_eq_true d, if_pos rfl, if_pos (show 0 ≤ a2 from c), if_pos d, if_pos ⟨c, d⟩, ido_f l0 _ h0 t1 t2 K hK, Option.bind_some]
      generalize doAs (l1.take a2.toNat) (l1.take a2.toNat).length 0 l0 = Q at lr ⊢
      by_cases e : Q.2 < a2
      · rw [if_pos e, if_pos e]
      · rw [if_neg e, if_neg e, impl_lose_f Q.1 l3 (by omega), Option.bind_some]
    · rw [decide_eq_false d, if_neg (by decide), if_neg (fun h => d h.2)]
  · rw [if_neg c, Option.bind_some, if_neg (by decide), if_neg (fun h => c h.1)]
theorem cutA_len (l0 : List S67) (l1 : List S41) (a2 : Int) (l3 : List Int) (h0 : l0.length ≤ 1048576) : (cutA l0 l1 a2 l3).1.length ≤ 1048576 := by
  have lr := doAs_len (l1.take a2.toNat) 1048576 (by omega) (l1.take a2.toNat).length 0 l0 h0
  unfold cutA
  split
  · split
    · simp
    · show (if okD _ = true then loseD _ l3 else []).length ≤ 1048576
      split
      · rw [loseD_len]; exact lr
      · simp
  · simp
theorem same_l0 (l : List S67) (hl : l.length < 1000000000) : ∀ (d i K : Nat), i + d = l.length → d < K → laws_sameDisk.l0 K i l l = some true := by
  intro d
  induction d with
  | zero =>
    intro i K hi hK
    obtain ⟨K, rfl⟩ := succ_of hK
    simp only [laws_sameDisk.l0]
    rw [if_neg (by omega)]
  | succ d ih =>
    intro i K hi hK
    obtain ⟨K, rfl⟩ := succ_of hK
    simp only [laws_sameDisk.l0]
    rw [if_pos (by omega), if_pos (by omega), if_pos (by omega), if_neg (by simp), wrn (i + 1) (by omega) (by omega)]
    exact ih (i + 1) K (by omega) (by omega)
theorem same_f (l : List S67) (hl : l.length ≤ 1048576) (K : Nat) (hK : 1048577 ≤ K) : laws_sameDisk.f K l l = some true := by
  unfold laws_sameDisk.f
  rw [if_pos rfl, show (0 : Int) = ((0 : Nat) : Int) from rfl]
  exact same_l0 l (by omega) l.length 0 K (by omega) (by omega)
theorem FnActs : laws_FnActs.Pure := by
  intro l0 hl hm hw
  obtain ⟨K, hK⟩ : ∃ K : Nat, K = 100000000 := ⟨_, rfl⟩
  refine ⟨K, ?_⟩
  unfold laws_FnActs.Ok laws_big.f
  by_cases c : (l0.length : Int) > 1048576
  · left
    rw [decide_eq_true c]
  · right
    obtain ⟨D, L, wh, q, e, d1, l1, l2⟩ := draw_acts l0 (by omega) K (by omega)
    have hs : ∀ x ∈ L, x.f2.size ≤ 1048576 := fun x hx => Nat.le_trans (l2 x hx) (by decide)
    obtain ⟨n, n1, n2, n3, n4⟩ := doAs_st L D L.length 0 (by omega)
    have hD := ido_f D L (by omega) (by omega) hs K (by omega)
    have hS := sdo_f D L (by omega) (by omega) hs K (by omega)
    have hst := fun i => stX_len L D d1 i
    rw [show D = stX L D 0 from rfl, n3] at hD hS
    refine ⟨by rw [decide_eq_false c], D, stX L D n, (cutA D L wh q).1, L, wh, q, n, (cutA D L wh q).2, stX L D, fun i => (fA (stX L D i) (rd_T41 L i).f1).1, fun i => (fA (stX L D (i + 1)) (rd_T41 L i).f1).1, fun i => (fA (stX L D i) (rd_T41 L i).f1).2, fun i => (fA (stX L D (i + 1)) (rd_T41 L i).f1).2, e, hD, hS, same_f _ (by have := hst n; omega) K (by omega), n2, rfl, rfl, fun i hi => ?_, fun i hi => ?_, fun i hi => ?_, fun i hi hk => ?_, fun i hi hk => ?_, icut_f D L wh q (by omega) (by omega) hs K (by omega), scut_f D L wh q (by omega) (by omega) hs K (by omega), same_f _ (cutA_len D L wh q (by omega)) K (by omega)⟩
    · have hz : (rd_T41 L i).f2.size ≤ 5000 := by rw [rd41 L i (by omega)]; exact l2 _ (List.getElem_mem _)
      have h2 := n4 i (by omega) hi
      have h3 := hst i
      unfold impl_DoAct.f
      rw [if_pos ⟨by omega, by omega⟩]
      exact congrArg some (Prod.ext rfl h2)
    · have h3 := hst i
      exact fA_ok _ _ (by omega)
    · have h3 := hst (i + 1)
      exact fA_ok _ _ (by omega)
    · have h2 := n4 i (by omega) hi
      have h4 := add_ok (stX L D i) (rd_T41 L i).f1 (rd_T41 L i).f2 (rd_T41 L i).f3 (by rw [hk] at h2; exact h2)
      have h5 : stX L D (i + 1) = (doA (stX L D i) 1 (rd_T41 L i).f1 (rd_T41 L i).f2 (rd_T41 L i).f3).1 := by rw [← hk]; rfl
      dsimp only
      rw [h5]
      exact h4
    · have h2 := n4 i (by omega) hi
      have h4 := gone_ok (stX L D i) (rd_T41 L i).f1 (rd_T41 L i).f2 (rd_T41 L i).f3 (by rw [hk] at h2; exact h2)
      have h5 : stX L D (i + 1) = (doA (stX L D i) 4 (rd_T41 L i).f1 (rd_T41 L i).f2 (rd_T41 L i).f3).1 := by rw [← hk]; rfl
      dsimp only
      rw [h5]
      exact h4

end Go.Proofs.Yteghgeanbglmoaa.Pure
