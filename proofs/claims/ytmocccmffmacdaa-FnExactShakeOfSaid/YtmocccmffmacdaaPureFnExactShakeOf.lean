/- Of every text of up to 1048576 bytes and every number the program's many bytes are the reference's. No condition. -/
import Derived.Test.YtmocccmffmacdaaPFnExactShakeOfx1
set_option linter.unusedVariables false
set_option linter.unusedSimpArgs false
namespace Go.Proofs.Ytmocccmffmacdaa.Pure
open Go.RowKit Go.Proofs.Ytmocccmffmacdaa.PFnExactShakeOf Go.Proofs.YtmocccmffmacdaaW.PrintWords Go.Proofs.YtmocccmffmacdaaW.PrintLast Go.Proofs.YtmocccmffmacdaaW.PrintMore

-- snippet plain
/-! bytes as numbers -/
def bl (s : ByteArray) : List Int := s.data.toList.map fun b => (b.toNat : Int)
theorem bl_len (s : ByteArray) : (bl s).length = s.size := by unfold bl; rw [List.length_map, Array.length_toList]; rfl
theorem map_u8_inj : ∀ {a b : List UInt8}, a.map (fun b => (b.toNat : Int)) = b.map (fun b => (b.toNat : Int)) → a = b
  | [], [], _ => rfl
  | [], _ :: _, h => by simp at h
  | _ :: _, [], h => by simp at h
  | x :: a, y :: b, h => by
    simp only [List.map_cons, List.cons.injEq] at h
    have e : x = y := UInt8.toNat_inj.mp (by omega)
    rw [e, map_u8_inj h.2]
theorem bl_inj {s t : ByteArray} (h : bl s = bl t) : s = t := by
  have := map_u8_inj h
  cases s; cases t
  simp only [ByteArray.mk.injEq] at *
  exact Array.toList_inj.mp this
theorem bl_eq {s t : ByteArray} : s = t ↔ bl s = bl t := ⟨fun h => by rw [h], bl_inj⟩
theorem toList_bl {s t : ByteArray} : s.toList = t.toList ↔ bl s = bl t := by
  rw [ByteArray.toList_eq, ByteArray.toList_eq]
  exact ⟨fun h => by unfold bl; rw [h], fun h => by rw [bl_inj h]⟩
theorem bl_range (s : ByteArray) : ∀ x ∈ bl s, 0 ≤ x ∧ x < 256 := by
  intro x hx
  simp only [bl, List.mem_map] at hx
  obtain ⟨b, _, rfl⟩ := hx
  have := b.toNat_lt
  omega
theorem bt_bl (s : ByteArray) (i : Int) : bt s i = (bl s).getD i.toNat 0 := by
  unfold bt bl
  split
  · rename_i h
    have h' : i.toNat < s.data.toList.length := by rw [Array.length_toList]; exact h
    rw [List.getD_eq_getElem?_getD, List.getElem?_map, List.getElem?_eq_getElem h']
    rfl
  · rename_i h
    have h' : s.data.toList.length ≤ i.toNat := by rw [Array.length_toList]; exact Nat.le_of_not_lt h
    rw [List.getD_eq_getElem?_getD, List.getElem?_map, List.getElem?_eq_none h']
    rfl
theorem bl_append (s t : ByteArray) : bl (s ++ t) = bl s ++ bl t := by simp [bl]
theorem bl_extract (s : ByteArray) (a b : Nat) : bl (s.extract a b) = ((bl s).drop a).take (b - a) := by
  simp [bl, List.map_take, List.map_drop]
theorem u8_ofNat (n : Int) (h : 0 ≤ n ∧ n < 256) : ((UInt8.ofNat n.toNat).toNat : Int) = n := by
  rw [UInt8.toNat_ofNat']
  omega
theorem bl_str (xs : List Int) (h : ∀ x ∈ xs, 0 ≤ x ∧ x < 256) : bl (strOfNums xs) = xs := by
  unfold bl
  rw [strOfNums_data, List.map_map]
  conv => rhs; rw [← List.map_id xs]
  exact List.map_congr_left fun x hx => u8_ofNat x (h x hx)
theorem str_bl (s : ByteArray) : strOfNums (bl s) = s := bl_inj (bl_str _ (bl_range s))
theorem str_size (xs : List Int) : (strOfNums xs).size = xs.length := strOfNums_size xs
theorem bl_nil : bl (⟨#[]⟩ : ByteArray) = [] := rfl
theorem bt_lo (s : ByteArray) (i : Int) : 0 ≤ bt s i := (bt_range s i).1
theorem bt_hi (s : ByteArray) (i : Int) : bt s i < 256 := by have := (bt_range s i).2; omega
theorem wr (n : Int) (h : -9223372036854775808 ≤ n) (h' : n ≤ 9223372036854775807) : wrap64 n = n := by unfold wrap64; omega
theorem wrn {z : Int} (n : Nat) (e : z = n) (h : n ≤ 9223372036854775807) : wrap64 z = n := by rw [e]; exact wr _ (by omega) (by omega)
theorem tdiv_pos (a b : Int) (h : 0 ≤ a) : Int.tdiv a b = a / b := Int.tdiv_eq_ediv_of_nonneg h
theorem tmod_pos (a b : Int) (h : 0 ≤ a) : Int.tmod a b = a % b := Int.tmod_eq_emod_of_nonneg h
theorem succ_of {k d : Nat} (h : d < k) : ∃ m, k = m + 1 := ⟨k - 1, by omega⟩
theorem drop_bt (s : ByteArray) (i : Nat) (h : i < s.size) : (bl s).drop i = bt s i :: (bl s).drop (i + 1) := by
  have h' : i < (bl s).length := by rw [bl_len]; exact h
  rw [List.drop_eq_getElem_cons h', bt_bl, Int.toNat_natCast, List.getD_eq_getElem?_getD, List.getElem?_eq_getElem h']
  rfl
theorem drop_end (s : ByteArray) (i : Nat) (h : s.size ≤ i) : (bl s).drop i = [] := List.drop_eq_nil_of_le (by rw [bl_len]; exact h)
theorem take_snoc_cons {α : Type} (p : List α) (b : α) (l : List α) : (p ++ b :: l).take (p.length + 1) = p ++ [b] := by
  rw [List.take_length_add_append]; simp
attribute [local irreducible] bt

-- snippet stream
open Kec in
theorem skTo_shift (n : Nat) (x : SK) (h : x.out.size < n) : ∀ i, skTo n x (i + 1) = skTo n (skStep n x) i
  | 0 => by
    show (if x.out.size < n then skStep n x else x) = skStep n x
    rw [if_pos h]
  | i + 1 => by
    show (if (skTo n x (i + 1)).out.size < n then skStep n (skTo n x (i + 1)) else skTo n x (i + 1)) = (if (skTo n (skStep n x) i).out.size < n then skStep n (skTo n (skStep n x) i) else skTo n (skStep n x) i)
    rw [skTo_shift n x h i]
theorem skTo_stay (n : Nat) (x : Kec.SK) (h : ¬ x.out.size < n) (i : Nat) : Kec.skTo n x i = x := by
  have := Kec.skTo_end n x 0 h i
  rw [Nat.zero_add] at this
  exact this
def kOf (n o a : Nat) : Nat := if 168 - a > n - o then n - o else 168 - a
theorem kOf_le (n o a : Nat) (ho : o ≤ n) (ha : a ≤ 168) : a + kOf n o a ≤ 168 ∧ o + kOf n o a ≤ n := by
  unfold kOf
  split <;> omega
theorem kOf_min (n o a : Nat) (ho : o ≤ n) (hn : n ≤ 4000) (ha : a ≤ 168) : mn (wrap64 ((n : Int) - (o : Int))) (wrap64 (168 - (a : Int))) = (kOf n o a : Int) := by
  have w1 : wrap64 ((n : Int) - (o : Int)) = ((n - o : Nat) : Int) := by unfold wrap64; omega
  have w2 : wrap64 (168 - (a : Int)) = ((168 - a : Nat) : Int) := by unfold wrap64; omega
  rw [w1, w2]
  clear w1 w2
  unfold mn kOf
  split <;> split <;> omega
theorem kOf_min0 (n o : Nat) (ho : o ≤ n) (hn : n ≤ 4000) : mn (wrap64 ((n : Int) - (o : Int))) 168 = (kOf n o 0 : Int) := by
  have := kOf_min n o 0 ho hn (by decide)
  rw [show wrap64 (168 - ((0 : Nat) : Int)) = 168 by unfold wrap64; omega] at this
  exact this
theorem w_small (k : Nat) (h : k ≤ 1000) : wrap64 (k : Int) = (k : Int) := by unfold wrap64; omega
theorem w_sum (a k : Nat) (h : a + k ≤ 1000) : wrap64 ((a : Int) + (k : Int)) = ((a + k : Nat) : Int) := by rw [← Int.natCast_add]; exact w_small _ h
theorem le_cast {a b : Nat} (h : a ≤ b) : (a : Int) ≤ (b : Int) := Int.ofNat_le.2 h
theorem step_eq (n : Nat) (x : Kec.SK) : Kec.skStep n x = (if x.at_ = 168 then ⟨Kec.perm x.st, 0 + kOf n x.out.size 0, x.out ++ (Kec.perm x.st).extract 0 (0 + kOf n x.out.size 0)⟩ else ⟨x.st, x.at_ + kOf n x.out.size x.at_, x.out ++ x.st.extract x.at_ (x.at_ + kOf n x.out.size x.at_)⟩) := by
  unfold Kec.skStep
  by_cases h : x.at_ = 168
  · rw [if_pos h, if_pos h]; rfl
  · rw [if_neg h, if_neg h]; rfl
theorem ex_size (s : ByteArray) (a k : Nat) (hs : s.size = 200) (h : a + k ≤ 168) : (s.extract a (a + k)).size = k := by
  rw [ByteArray.size_extract, hs]
  omega
open Kec in
theorem take_end (n K : Nat) (x : SK) (h : ¬ x.out.size < n) : impl_StreamTake.l0 (K + 1) (n : Int) x.out x.st (x.at_ : Int) = some (x.st, (x.at_ : Int), x.out) := by
  simp only [impl_StreamTake.l0]
  rw [if_neg (by omega)]
open Kec in
theorem take_step (n K : Nat) (hn : n ≤ 4000) (x : SK) (hok : SkOk x) (h : x.out.size < n) : impl_StreamTake.l0 (K + 1) (n : Int) x.out x.st (x.at_ : Int) = impl_StreamTake.l0 K (n : Int) (skStep n x).out (skStep n x).st ((skStep n x).at_ : Int) := by
  obtain ⟨hs, ha⟩ := hok
  have hlt : (x.out.size : Int) < (n : Int) := Int.ofNat_lt.2 h
  have ho : x.out.size ≤ n := Nat.le_of_lt h
  have h0 := kOf_le n x.out.size 0 ho (by decide)
  have h1 := kOf_le n x.out.size x.at_ ho ha
  have m0 := kOf_min0 n x.out.size ho hn
  have m1 := kOf_min n x.out.size x.at_ ho hn ha
  simp only [impl_StreamTake.l0]
  rw [if_pos hlt, step_eq]
  by_cases h168 : x.at_ = 168
  · have hi : (x.at_ : Int) = 168 := by rw [h168]; rfl
    have hp : (perm x.st).size = 200 := by rw [perm_size, hs]
    generalize kOf n x.out.size 0 = k at m0 h0 ⊢
    have hz := ex_size (perm x.st) 0 k hp h0.1
    rw [Nat.zero_add] at hz
    have hk2 : (k : Int) ≤ ((perm x.st).size : Int) := by rw [hp]; exact le_cast (by omega)
    have hsum : x.out.size + ((perm x.st).extract 0 k).size ≤ 9223372036854775807 := by rw [hz]; omega
    have hP : impl_Permute.f x.st = some (perm x.st) := by
      unfold impl_Permute.f
      rw [if_pos (by rw [hs]; decide)]
    rw [if_pos hi, hP, Option.bind_some, m0, w_small k (by omega), if_pos (Int.natCast_nonneg k), if_pos hk2, Int.toNat_natCast, if_pos hsum, if_pos h168]
    simp only [Nat.zero_add]
  · have hi : ¬ (x.at_ : Int) = 168 := by omega
    generalize kOf n x.out.size x.at_ = k at m1 h1 ⊢
    have hz := ex_size x.st x.at_ k hs h1.1
    have hw := w_sum x.at_ k (by omega)
    have hk1 : (x.at_ : Int) ≤ ((x.at_ + k : Nat) : Int) := le_cast (by omega)
    have hk2 : ((x.at_ + k : Nat) : Int) ≤ (x.st.size : Int) := le_cast (by omega)
    have hsum : x.out.size + (x.st.extract x.at_ (x.at_ + k)).size ≤ 9223372036854775807 := by rw [hz]; omega
    rw [if_neg hi, if_pos (Int.natCast_nonneg _), m1, hw, if_pos hk1, if_pos hk2, Int.toNat_natCast, Int.toNat_natCast, if_pos hsum, if_neg h168]
open Kec in
theorem take_l0 (n : Nat) (hn : n ≤ 4000) : ∀ (d K : Nat) (x : SK), SkOk x → x.out.size ≤ n → n - x.out.size ≤ d → d < K → impl_StreamTake.l0 K (n : Int) x.out x.st (x.at_ : Int) = some ((skTo n x d).st, ((skTo n x d).at_ : Int), (skTo n x d).out) := by
  intro d
  induction d with
  | zero =>
    intro K x hok hx hd hK
    obtain ⟨K, rfl⟩ := succ_of hK
    exact take_end n K x (by omega)
  | succ d ih =>
    intro K x hok hx hd hK
    obtain ⟨K, rfl⟩ := succ_of hK
    by_cases hlt : x.out.size < n
    · obtain ⟨b1, b2, b3⟩ := step_ok n x hok hlt
      rw [take_step n K hn x hok hlt, skTo_shift n x hlt d]
      exact ih K (skStep n x) b1 b3 (by omega) (by omega)
    · rw [skTo_stay n x hlt (d + 1)]
      exact take_end n K x hlt
open Kec in
theorem take_f (st : ByteArray) (a n : Int) (K : Nat) (hK : 4010 ≤ K) : impl_StreamTake.f K st a n = some (sTake st a n) := by
  obtain ⟨K, rfl⟩ : ∃ m, K = m + 1 := ⟨K - 1, by omega⟩
  unfold impl_StreamTake.f impl_in.f
  by_cases h : sOk st a n = true
  · have h2 := h
    unfold sOk at h2
    simp only [decide_eq_true_eq] at h2
    obtain ⟨h3, h4, h5, h6, h7⟩ := h2
    obtain ⟨m, rfl⟩ := Int.eq_ofNat_of_zero_le h3
    obtain ⟨b, rfl⟩ := Int.eq_ofNat_of_zero_le h6
    rw [if_pos h3, Option.bind_some, if_pos (decide_eq_true h4), if_pos (by omega), if_pos h6, Option.bind_some, decide_eq_true h7]
    simp only [impl_StreamTake.j0]
    have := take_l0 m (by omega) (m + 1) K ⟨st, b, ⟨#[]⟩⟩ ⟨h5, by show b ≤ 168; omega⟩ (Nat.zero_le _) (by show m - 0 ≤ m + 1; omega) (by omega)
    unfold sTake
    rw [if_pos h]
    simpa using this
  · have e : sTake st a n = (st, a, ⟨#[]⟩) := by unfold sTake; rw [if_neg h]
    have h' : ¬ (0 ≤ n ∧ n ≤ 4000 ∧ st.size = 200 ∧ 0 ≤ a ∧ a ≤ 168) := by
      unfold sOk at h
      simpa using h
    rw [e]
    by_cases h1 : n ≥ 0
    · rw [if_pos h1, Option.bind_some]
      by_cases h2 : n ≤ 4000
      · rw [if_pos (decide_eq_true h2)]
        by_cases h3 : (st.size : Int) = 200
        · rw [if_pos h3]
          by_cases h4 : a ≥ 0
          · rw [if_pos h4, Option.bind_some, decide_eq_false (show ¬ a ≤ 168 from fun h5 => h' ⟨h1, h2, by omega, h4, h5⟩)]
            simp [impl_StreamTake.j0]
          · rw [if_neg h4, Option.bind_some]
            simp [impl_StreamTake.j0]
        · rw [if_neg h3]
          simp [impl_StreamTake.j0]
      · rw [if_neg (by simp [h2])]
        simp [impl_StreamTake.j0]
    · rw [if_neg h1, Option.bind_some]
      simp [impl_StreamTake.j0]

theorem FnExactShakeOf : laws_FnExactShakeOf.Pure := by
  intro s n hs hn
  refine ⟨4010, ?_⟩
  unfold laws_FnExactShakeOf.f
  by_cases h1 : (s.size : Int) > 1048576
  · rw [if_pos h1]
  · rw [if_neg h1]
    have hz : (Kec.specAbsorbed s 31 (168 : Int).toNat).size = 200 := Kec.stx_size _
    have hN : impl_StreamNew.f s = some (Kec.specAbsorbed s 31 (168 : Int).toNat, 0) := by
      unfold impl_StreamNew.f impl_absorbed.f
      rw [if_pos ⟨by omega, .inr rfl, by decide, by decide⟩]
      rfl
    have hM : spec_StreamNew.f s = some (Kec.specAbsorbed s 31 (168 : Int).toNat, 0) := by
      unfold spec_StreamNew.f spec_l07Absorb.f
      rw [if_pos ⟨by omega, .inr rfl, by decide, by decide⟩]
      rfl
    have e1 : spec_ShakeOf.f s n = impl_ShakeOf.f 4010 s n := by
      unfold spec_ShakeOf.f impl_ShakeOf.f
      rw [hN, hM]
      simp only [Option.bind_some]
      rw [take_f _ _ _ 4010 (by decide)]
      unfold spec_StreamTake.f
      rw [if_pos (by omega)]
      rfl
    have e2 : ∃ t b, impl_ShakeOf.f 4010 s n = some (t, b) := by
      unfold impl_ShakeOf.f
      rw [hN]
      simp only [Option.bind_some]
      rw [take_f _ _ _ 4010 (by decide)]
      unfold impl_in.f
      by_cases h2 : n ≥ 0
      · rw [if_pos h2, Option.bind_some]
        split
        · exact ⟨_, _, rfl⟩
        · exact ⟨_, _, rfl⟩
      · rw [if_neg h2, Option.bind_some]
        exact ⟨_, _, rfl⟩
    obtain ⟨t, b, e2⟩ := e2
    rw [e1, e2]
    simp

end Go.Proofs.Ytmocccmffmacdaa.Pure
