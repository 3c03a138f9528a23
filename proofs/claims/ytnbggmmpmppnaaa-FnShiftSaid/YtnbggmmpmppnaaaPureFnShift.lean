/- Of every random right polynomial the law's three equations hold: times X turns it by one with the last number's sign turned, times X^128 twice turns its sign, times 1 leaves it. -/
import Derived.Test.YtnbggmmpmppnaaaPFnShiftx4
set_option linter.unusedVariables false
set_option linter.unusedSimpArgs false
namespace Go.Proofs.Ytnbggmmpmppnaaa.Pure
open Go.RowKit Go.Proofs.Ytnbggmmpmppnaaa.PFnShift Go.Proofs.YtnbggmmpmppnaaaW.PrintWords Go.Proofs.YtnbggmmpmppnaaaW.PrintLast Go.Proofs.YtnbggmmpmppnaaaW.PrintMore

-- snippet plain
/-! bytes as numbers -/
def bl (s : ByteArray) : List Int := s.data.toList.map fun b => (b.toNat : Int)
theorem bl_len (s : ByteArray) : (bl s).length = s.size := by unfold bl; rw [List.length_map, Array.length_toList]; rfl
theorem map_u8_inj : ∀ {a b : List UInt8}, a.map (fun b => (b.toNat : Int)) = b.map (fun b => (b.toNat : Int)) → a = b
  | [], [], _ => rfl
  | [], _ :: _, h => by simp at h
  | _ :: _, [], h => by simp at h
  | x :: a, y :: b, h => by
    simp only [List.map_cons, List.cons.injEq] at h
    have e : x = y := UInt8.toNat_inj.mp (by omega)
    rw [e, map_u8_inj h.2]
theorem bl_inj {s t : ByteArray} (h : bl s = bl t) : s = t := by
  have := map_u8_inj h
  cases s; cases t
  simp only [ByteArray.mk.injEq] at *
  exact Array.toList_inj.mp this
theorem bl_eq {s t : ByteArray} : s = t ↔ bl s = bl t := ⟨fun h => by rw [h], bl_inj⟩
theorem toList_bl {s t : ByteArray} : s.toList = t.toList ↔ bl s = bl t := by
  rw [ByteArray.toList_eq, ByteArray.toList_eq]
  exact ⟨fun h => by unfold bl; rw [h], fun h => by rw [bl_inj h]⟩
theorem bl_range (s : ByteArray) : ∀ x ∈ bl s, 0 ≤ x ∧ x < 256 := by
  intro x hx
  simp only [bl, List.mem_map] at hx
  obtain ⟨b, _, rfl⟩ := hx
  have := b.toNat_lt
  omega
theorem bt_bl (s : ByteArray) (i : Int) : bt s i = (bl s).getD i.toNat 0 := by
  unfold bt bl
  split
  · rename_i h
    have h' : i.toNat < s.data.toList.length := by rw [Array.length_toList]; exact h
    rw [List.getD_eq_getElem?_getD, List.getElem?_map, List.getElem?_eq_getElem h']
    rfl
  · rename_i h
    have h' : s.data.toList.length ≤ i.toNat := by rw [Array.length_toList]; exact Nat.le_of_not_lt h
    rw [List.getD_eq_getElem?_getD, List.getElem?_map, List.getElem?_eq_none h']
    rfl
theorem bl_append (s t : ByteArray) : bl (s ++ t) = bl s ++ bl t := by simp [bl]
theorem bl_extract (s : ByteArray) (a b : Nat) : bl (s.extract a b) = ((bl s).drop a).take (b - a) := by
  simp [bl, List.map_take, List.map_drop]
theorem u8_ofNat (n : Int) (h : 0 ≤ n ∧ n < 256) : ((UInt8.ofNat n.toNat).toNat : Int) = n := by
  rw [UInt8.toNat_ofNat']
  omega
theorem bl_str (xs : List Int) (h : ∀ x ∈ xs, 0 ≤ x ∧ x < 256) : bl (strOfNums xs) = xs := by
  unfold bl
  rw [strOfNums_data, List.map_map]
  conv => rhs; rw [← List.map_id xs]
  exact List.map_congr_left fun x hx => u8_ofNat x (h x hx)
theorem str_bl (s : ByteArray) : strOfNums (bl s) = s := bl_inj (bl_str _ (bl_range s))
theorem str_size (xs : List Int) : (strOfNums xs).size = xs.length := strOfNums_size xs
theorem bl_nil : bl (⟨#[]⟩ : ByteArray) = [] := rfl
theorem bt_lo (s : ByteArray) (i : Int) : 0 ≤ bt s i := (bt_range s i).1
theorem bt_hi (s : ByteArray) (i : Int) : bt s i < 256 := by have := (bt_range s i).2; omega
theorem wr (n : Int) (h : -9223372036854775808 ≤ n) (h' : n ≤ 9223372036854775807) : wrap64 n = n := by unfold wrap64; omega
theorem wrn {z : Int} (n : Nat) (e : z = n) (h : n ≤ 9223372036854775807) : wrap64 z = n := by rw [e]; exact wr _ (by omega) (by omega)
theorem tdiv_pos (a b : Int) (h : 0 ≤ a) : Int.tdiv a b = a / b := Int.tdiv_eq_ediv_of_nonneg h
theorem tmod_pos (a b : Int) (h : 0 ≤ a) : Int.tmod a b = a % b := Int.tmod_eq_emod_of_nonneg h
theorem succ_of {k d : Nat} (h : d < k) : ∃ m, k = m + 1 := ⟨k - 1, by omega⟩
theorem drop_bt (s : ByteArray) (i : Nat) (h : i < s.size) : (bl s).drop i = bt s i :: (bl s).drop (i + 1) := by
  have h' : i < (bl s).length := by rw [bl_len]; exact h
  rw [List.drop_eq_getElem_cons h', bt_bl, Int.toNat_natCast, List.getD_eq_getElem?_getD, List.getElem?_eq_getElem h']
  rfl
theorem drop_end (s : ByteArray) (i : Nat) (h : s.size ≤ i) : (bl s).drop i = [] := List.drop_eq_nil_of_le (by rw [bl_len]; exact h)
theorem take_snoc_cons {α : Type} (p : List α) (b : α) (l : List α) : (p ++ b :: l).take (p.length + 1) = p ++ [b] := by
  rw [List.take_length_add_append]; simp
attribute [local irreducible] bt

-- snippet draw
/-! draws -/
theorem mask_range (x : Int) : 0 ≤ Go.bits .and .i64 x 255 ∧ Go.bits .and .i64 x 255 ≤ 255 := by
  unfold Go.bits
  have h : (BitVec.ofInt IntKind.i64.bits x &&& BitVec.ofInt IntKind.i64.bits 255).toNat ≤ 255 := by
    rw [BitVec.toNat_and]
    exact Nat.le_trans Nat.and_le_right (by decide)
  simp only [IntKind.wrap_i64]
  generalize (BitVec.ofInt IntKind.i64.bits x &&& BitVec.ofInt IntKind.i64.bits 255).toNat = n at h
  omega
def curOk (b : List Int) (i : Int) : Prop := 0 ≤ i ∧ i ≤ b.length
theorem byte_ok (b : List Int) (hb : b.length ≤ 1048576) (i h : Int) (hi : curOk b i) : ∃ x i' h', spec_l01Byte.f b i h = some (x, i', h') ∧ 0 ≤ x ∧ x ≤ 255 ∧ curOk b i' := by
  obtain ⟨h0, h1⟩ := hi
  unfold spec_l01Byte.f
  by_cases c : i < (b.length : Int)
  · rw [if_pos c, if_pos h0, wr (i + 1) (by omega) (by omega)]
    exact ⟨_, _, _, rfl, (mask_range _).1, (mask_range _).2, by unfold curOk; omega⟩
  · rw [if_neg c]
    exact ⟨_, _, _, rfl, (mask_range _).1, (mask_range _).2, ⟨h0, h1⟩⟩
theorem below_ok (b : List Int) (hb : b.length ≤ 1048576) (i h n : Int) (hi : curOk b i) (hn : 0 < n) : ∃ x i' h', spec_l01Below.f b i h n = some (x, i', h') ∧ 0 ≤ x ∧ x < n ∧ curOk b i' := by
  unfold spec_l01Below.f
  rw [if_neg (show ¬ n ≤ 0 by omega)]
  obtain ⟨x1, i1, h1, e1, l1, u1, c1⟩ := byte_ok b hb i h hi
  by_cases c : n ≤ 256
  · rw [if_pos c, e1, Option.bind_some, if_neg (show ¬ n = 0 by omega)]
    exact ⟨_, _, _, rfl, Int.tmod_nonneg _ l1, Int.tmod_lt_of_pos _ hn, c1⟩
  · obtain ⟨x2, i2, h2, e2, l2, u2, c2⟩ := byte_ok b hb i1 h1 c1
    obtain ⟨x3, i3, h3, e3, l3, u3, c3⟩ := byte_ok b hb i2 h2 c2
    obtain ⟨x4, i4, h4, e4, l4, u4, c4⟩ := byte_ok b hb i3 h3 c3
    rw [if_neg c, e1, Option.bind_some]
    simp only
    rw [e2, Option.bind_some]
    simp only
    rw [e3, Option.bind_some]
    simp only
    rw [e4, Option.bind_some]
    simp only
    rw [if_neg (show ¬ n = 0 by omega), wr (x1 * 16777216) (by omega) (by omega), wr (x2 * 65536) (by omega) (by omega), wr (x3 * 256) (by omega) (by omega), wr (x1 * 16777216 + x2 * 65536) (by omega) (by omega), wr (x1 * 16777216 + x2 * 65536 + x3 * 256) (by omega) (by omega), wr (x1 * 16777216 + x2 * 65536 + x3 * 256 + x4) (by omega) (by omega)]
    exact ⟨_, _, _, rfl, Int.tmod_nonneg _ (by omega), Int.tmod_lt_of_pos _ hn, c4⟩
theorem new_l0 (b : List Int) (hb : b.length ≤ 1048576) : ∀ (d : Nat) (i : Nat) (h : Int), i + d = 4000 → ∃ h', ∀ K, d < K → spec_l01New.l0 K b h i = some (b, 0, h') := by
  intro d
  induction d with
  | zero =>
    intro i h hi
    refine ⟨h, fun K hK => ?_⟩
    obtain ⟨K, rfl⟩ := succ_of hK
    simp only [spec_l01New.l0]
    by_cases c : (i : Int) < (b.length : Int)
    · rw [if_pos c, if_neg (show ¬ (i : Int) < 4000 by omega)]
    · rw [if_neg c]
  | succ d ih =>
    intro i h hi
    by_cases c : (i : Int) < (b.length : Int)
    · obtain ⟨h', e⟩ := ih (i + 1) (Go.bits .and .i64 (wrap64 ((wrap64 ((wrap64 (h * 131)) + (wrap64 (rd b i)))) + 7)) 1073741823) (by omega)
      refine ⟨h', fun K hK => ?_⟩
      obtain ⟨K, rfl⟩ := succ_of hK
      simp only [spec_l01New.l0]
      rw [if_pos c, if_pos (show (i : Int) < 4000 by omega), if_pos (show 0 ≤ (i : Int) by omega), wr ((i : Int) + 1) (by omega) (by omega), show ((i : Int) + 1) = ((i + 1 : Nat) : Int) by omega]
      exact e K (by omega)
    · refine ⟨h, fun K hK => ?_⟩
      obtain ⟨K, rfl⟩ := succ_of hK
      simp only [spec_l01New.l0]
      rw [if_neg c]
theorem new_ok (b : List Int) (hb : b.length ≤ 1048576) : ∃ h', ∀ K, 4001 ≤ K → spec_l01New.f K b = some (b, 0, h') := by
  obtain ⟨h', e⟩ := new_l0 b hb 4000 0 (wrap64 (27401 + (b.length : Int))) (by omega)
  exact ⟨h', fun K hK => e K (by omega)⟩

-- snippet polyok_impl
/-! right polynomials -/
def rightP (p : List Int) : Bool := decide (p.length = 256 ∧ ∀ x ∈ p, 0 ≤ x ∧ x ≤ 3328)
theorem rd_nat (l : List Int) (j : Nat) (h : j < l.length) : rd l (j : Int) = l[j] := by unfold rd; rw [Int.toNat_natCast, List.getD_eq_getElem?_getD, List.getElem?_eq_getElem h]; rfl
theorem all_drop (p : List Int) (j : Nat) (h : j < p.length) (P : Int → Prop) : (∀ x ∈ p.drop j, P x) ↔ P p[j] ∧ ∀ x ∈ p.drop (j + 1), P x := by
  rw [List.drop_eq_getElem_cons h]; exact List.forall_mem_cons
theorem impl_in_f (a b c : Int) : impl_in.f a b c = some (decide (b ≤ a ∧ a ≤ c)) := by
  unfold impl_in.f
  by_cases h : b ≤ a
  · rw [if_pos h]; simp [h]
  · rw [if_neg h]; simp [h]
theorem impl_pok_l0 (p : List Int) (h : p.length < 1000000000) : ∀ (d K j : Nat), j + d = p.length → d < K → impl_PolyOk.l0 K p p (p.length : Int) j = some (decide (p.length = 256 ∧ ∀ x ∈ p.drop j, 0 ≤ x ∧ x ≤ 3328)) := by
  intro d
  induction d with
  | zero =>
    intro K j hj hK
    obtain ⟨K, rfl⟩ := succ_of hK
    simp only [impl_PolyOk.l0]
    rw [if_neg (show ¬ (j : Int) < (p.length : Int) by omega), List.drop_eq_nil_of_le (by omega)]
    congr 1
    rw [Bool.eq_iff_iff]
    simp
    omega
  | succ d ih =>
    intro K j hj hK
    obtain ⟨K, rfl⟩ := succ_of hK
    have hjp : j < p.length := by omega
    simp only [impl_PolyOk.l0]
    rw [if_pos (show (j : Int) < (p.length : Int) by omega), if_pos (show 0 ≤ (j : Int) by omega), if_pos (show (j : Int) < (p.length : Int) by omega), impl_in_f, Option.bind_some, rd_nat p j hjp]
    by_cases c : 0 ≤ p[j] ∧ p[j] ≤ 3328
    · rw [if_pos (by simpa using c), wr ((j : Int) + 1) (by omega) (by omega), show ((j : Int) + 1) = ((j + 1 : Nat) : Int) by omega, ih K (j + 1) (by omega) (by omega)]
      congr 1
      rw [decide_eq_decide, all_drop p j hjp]
      exact ⟨fun q => ⟨q.1, c, q.2⟩, fun q => ⟨q.1, q.2.2⟩⟩
    · rw [if_neg (by simpa using c)]
      congr 1
      symm
      rw [decide_eq_false_iff_not, all_drop p j hjp]
      intro q
      exact c q.2.1
theorem impl_PolyOk_f (p : List Int) (K : Nat) (h : p.length < 1000000000) (hK : p.length < K) : impl_PolyOk.f K p = some (rightP p) := by
  have := impl_pok_l0 p h p.length K 0 (by omega) hK
  unfold impl_PolyOk.f
  simpa [rightP] using this

-- snippet drawpoly
theorem right_snoc (p : List Int) (j : Nat) (x : Int) (hp : p.length = j ∧ ∀ x ∈ p, 0 ≤ x ∧ x ≤ 3328) (h0 : 0 ≤ x) (h1 : x ≤ 3328) : (p ++ [x]).length = j + 1 ∧ ∀ y ∈ p ++ [x], 0 ≤ y ∧ y ≤ 3328 := by
  refine ⟨by simp [hp.1], fun y hy => ?_⟩
  rw [List.mem_append, List.mem_singleton] at hy
  rcases hy with h | h
  · exact hp.2 y h
  · rw [h]; exact ⟨h0, h1⟩
theorem poly_l1 (b : List Int) (hb : b.length ≤ 1048576) : ∀ (d j : Nat) (p : List Int) (i h : Int), j + d = 6 → curOk b i → rightP p = true → ∃ p' i' h', rightP p' = true ∧ curOk b i' ∧ ∀ K, d < K → spec_l09Poly.l1 K p j b i h = some (p', i', h') := by
  intro d
  induction d with
  | zero =>
    intro j p i h hj hi hp
    obtain ⟨x, i1, h1, e, l, u, c⟩ := below_ok b hb i h 6 hi (by omega)
    refine ⟨p, i1, h1, hp, c, fun K hK => ?_⟩
    obtain ⟨K, rfl⟩ := succ_of hK
    rw [spec_l09Poly.l1, e, Option.bind_some]
    dsimp only
    rw [if_neg (by omega)]
  | succ d ih =>
    intro j p i h hj hi hp
    obtain ⟨x, i1, h1, e, l, u, c⟩ := below_ok b hb i h 6 hi (by omega)
    by_cases lt : (j : Int) < x
    · obtain ⟨y, i2, h2, e2, l2, u2, c2⟩ := below_ok b hb i1 h1 256 c (by omega)
      obtain ⟨z, i3, h3, e3, l3, u3, c3⟩ := below_ok b hb i2 h2 3329 c2 (by omega)
      have hp' := of_decide_eq_true hp
      have np : rightP (p.set y.toNat z) = true := by
        unfold rightP
        rw [decide_eq_true_eq]
        refine ⟨by rw [List.length_set]; exact hp'.1, fun w hw => ?_⟩
        rcases List.mem_or_eq_of_mem_set hw with q | q
        · exact hp'.2 w q
        · omega
      obtain ⟨p', i', h', r1, r2, r3⟩ := ih (j + 1) _ i3 h3 (by omega) c3 np
      refine ⟨p', i', h', r1, r2, fun K hK => ?_⟩
      obtain ⟨K, rfl⟩ := succ_of hK
      have yl : y < (p.length : Int) := by omega
      have w1 : wrap64 ((j : Int) + 1) = ((j + 1 : Nat) : Int) := wrn _ (by omega) (by omega)
      rw [spec_l09Poly.l1, e, Option.bind_some]
      dsimp only
      rw [if_pos lt, e2, Option.bind_some]
      dsimp only
      rw [e3, Option.bind_some]
      dsimp only
      rw [if_pos l2, if_pos yl, w1]
      exact r3 K (by omega)
    · refine ⟨p, i1, h1, hp, c, fun K hK => ?_⟩
      obtain ⟨K, rfl⟩ := succ_of hK
      rw [spec_l09Poly.l1, e, Option.bind_some]
      dsimp only
      rw [if_neg lt]
theorem mod_step (v s : Int) (v0 : 0 ≤ v) (v1 : v ≤ 3328) (s0 : 0 ≤ s) (s1 : s ≤ 3328) : 0 ≤ Int.tmod (wrap64 ((wrap64 (v * 17)) + s)) 3329 ∧ Int.tmod (wrap64 ((wrap64 (v * 17)) + s)) 3329 ≤ 3328 := by
  rw [wr (v * 17) (by omega) (by omega), wr (v * 17 + s) (by omega) (by omega)]
  have n : 0 ≤ v * 17 + s := by omega
  have a := Int.tmod_nonneg 3329 n
  have b := Int.tmod_lt_of_pos (v * 17 + s) (show (0 : Int) < 3329 by decide)
  omega
theorem poly_l0 (b : List Int) (hb : b.length ≤ 1048576) (m s i h : Int) (hi : curOk b i) (s0 : 0 ≤ s) (s1 : s ≤ 3328) : ∀ (d j : Nat) (p : List Int) (v : Int), j + d = 256 → (p.length = j ∧ ∀ x ∈ p, 0 ≤ x ∧ x ≤ 3328) → 0 ≤ v → v ≤ 3328 → ∃ p' i' h', rightP p' = true ∧ curOk b i' ∧ ∀ K, d + 8 < K → spec_l09Poly.l0 K p m v s j b i h = some (p', i', h') := by
  intro d
  induction d with
  | zero =>
    intro j p v hj hp v0 v1
    have rp : rightP p = true := by unfold rightP; rw [decide_eq_true_eq]; exact ⟨by omega, hp.2⟩
    obtain ⟨p', i', h', r1, r2, r3⟩ := poly_l1 b hb 6 0 p i h rfl hi rp
    refine ⟨p', i', h', r1, r2, fun K hK => ?_⟩
    obtain ⟨K, rfl⟩ := succ_of hK
    rw [spec_l09Poly.l0, if_neg (by omega)]
    exact r3 K (by omega)
  | succ d ih =>
    intro j p v hj hp v0 v1
    have j256 : (j : Int) < 256 := by omega
    have pl : p.length < 17592186044416 := by omega
    have w1 : wrap64 ((j : Int) + 1) = ((j + 1 : Nat) : Int) := wrn _ (by omega) (by omega)
    by_cases c0 : m = 0
    · obtain ⟨p', i', h', r1, r2, r3⟩ := ih (j + 1) (p ++ [0]) v (by omega) (right_snoc p j 0 hp (by omega) (by omega)) v0 v1
      refine ⟨p', i', h', r1, r2, fun K hK => ?_⟩
      obtain ⟨K, rfl⟩ := succ_of hK
      rw [spec_l09Poly.l0, if_pos j256, if_pos c0, if_pos pl, w1]
      exact r3 K (by omega)
    · by_cases c1 : m = 1
      · obtain ⟨p', i', h', r1, r2, r3⟩ := ih (j + 1) (p ++ [3328]) v (by omega) (right_snoc p j 3328 hp (by omega) (by omega)) v0 v1
        refine ⟨p', i', h', r1, r2, fun K hK => ?_⟩
        obtain ⟨K, rfl⟩ := succ_of hK
        rw [spec_l09Poly.l0, if_pos j256, if_neg c0, if_pos c1, if_pos pl, w1]
        exact r3 K (by omega)
      · obtain ⟨q0, q1⟩ := mod_step v s v0 v1 s0 s1
        obtain ⟨p', i', h', r1, r2, r3⟩ := ih (j + 1) (p ++ [Int.tmod (wrap64 ((wrap64 (v * 17)) + s)) 3329]) _ (by omega) (right_snoc p j _ hp q0 q1) q0 q1
        refine ⟨p', i', h', r1, r2, fun K hK => ?_⟩
        obtain ⟨K, rfl⟩ := succ_of hK
        rw [spec_l09Poly.l0, if_pos j256, if_neg c0, if_neg c1, if_pos pl, w1]
        exact r3 K (by omega)
theorem poly_ok (b : List Int) (hb : b.length ≤ 1048576) (i h : Int) (hi : curOk b i) : ∃ p i' h', rightP p = true ∧ curOk b i' ∧ ∀ K, 300 ≤ K → spec_l09Poly.f K b i h = some (p, i', h') := by
  obtain ⟨m, i1, h1, e1, l1, u1, c1⟩ := below_ok b hb i h 4 hi (by omega)
  obtain ⟨v, i2, h2, e2, l2, u2, c2⟩ := below_ok b hb i1 h1 3329 c1 (by omega)
  obtain ⟨s, i3, h3, e3, l3, u3, c3⟩ := below_ok b hb i2 h2 3328 c2 (by omega)
  have w : wrap64 (1 + s) = 1 + s := wr _ (by omega) (by omega)
  obtain ⟨p, i', h', r1, r2, r3⟩ := poly_l0 b hb m (1 + s) i3 h3 c3 (by omega) (by omega) 256 0 [] v rfl ⟨rfl, fun x hx => by cases hx⟩ l2 (by omega)
  refine ⟨p, i', h', r1, r2, fun K hK => ?_⟩
  unfold spec_l09Poly.f
  rw [e1, Option.bind_some]
  dsimp only
  rw [e2, Option.bind_some]
  dsimp only
  rw [e3, Option.bind_some]
  dsimp only
  rw [w]
  exact r3 K (by omega)
theorem polys_ok (b : List Int) (hb : b.length ≤ 1048576) : ∃ p q r, rightP p = true ∧ rightP q = true ∧ rightP r = true ∧ ∀ K, 5000 ≤ K → spec_DrawPolys.f K b = some (p, q, r) := by
  obtain ⟨h0, e0⟩ := new_ok b hb
  obtain ⟨p, i1, h1, a1, c1, e1⟩ := poly_ok b hb 0 h0 ⟨by omega, by omega⟩
  obtain ⟨q, i2, h2, a2, c2, e2⟩ := poly_ok b hb i1 h1 c1
  obtain ⟨r, i3, h3, a3, c3, e3⟩ := poly_ok b hb i2 h2 c2
  refine ⟨p, q, r, a1, a2, a3, fun K hK => ?_⟩
  unfold spec_DrawPolys.f
  rw [e0 K (by omega), Option.bind_some]
  dsimp only
  rw [e1 K (by omega), Option.bind_some]
  dsimp only
  rw [e2 K (by omega), Option.bind_some]
  dsimp only
  rw [e3 K (by omega), Option.bind_some]

-- snippet modq
theorem modQ_f (x : Int) (h0 : -1200000000000 ≤ x) (h1 : x ≤ 1200000000000) : impl_modQ.f x = some (x % 3329) := by
  unfold impl_modQ.f
  have t0 := Int.tmod_lt_of_pos x (show (0 : Int) < 3329 by decide)
  have t1 := Int.lt_tmod_of_pos x (show (0 : Int) < 3329 by decide)
  have t2 := Int.tmod_add_mul_tdiv x 3329
  rw [wr _ (by omega) (by omega), tmod_pos _ _ (by omega)]
  congr 1
  omega
theorem rd_getD (l : List Int) (i : Nat) : rd l (i : Int) = l.getD i 0 := by unfold rd; rw [Int.toNat_natCast]

-- snippet polymul_impl
def inv2 (B : Int) (u v : List Int) : Prop := u.length = 256 ∧ v.length = 256 ∧ ∀ t, t < 256 → 0 ≤ v.getD t 0 ∧ v.getD t 0 < 3329 ∧ v.getD t 0 = u.getD t 0 % 3329 ∧ -B ≤ u.getD t 0 ∧ u.getD t 0 ≤ B
theorem getD_set (l : List Int) (i t : Nat) (x : Int) (hi : i < l.length) : (l.set i x).getD t 0 = if t = i then x else l.getD t 0 := by
  rw [List.getD_eq_getElem?_getD, List.getD_eq_getElem?_getD, List.getElem?_set]
  by_cases h : i = t
  · subst h; simp [hi]
  · rw [if_neg h, if_neg (fun e => h e.symm)]
theorem mul_bound (a b : Int) (ha0 : 0 ≤ a) (ha : a ≤ 3328) (hb0 : 0 ≤ b) (hb : b ≤ 3328) : 0 ≤ a * b ∧ a * b ≤ 11075584 := by
  refine ⟨Int.mul_nonneg ha0 hb0, ?_⟩
  have := Int.mul_le_mul ha hb hb0 (by decide : (0 : Int) ≤ 3328)
  omega
theorem impl_lo (K : Nat) (a b u : List Int) (i k : Nat) (x y : Int) (hx : rd a (i : Int) * rd b (k : Int) = x) (h0 : 0 ≤ x) (h1 : x ≤ 11075584) (hy : u.getD (i + k) 0 = y) (y0 : -1200000000000 ≤ y) (y1 : y ≤ 1200000000000) (hik : i + k < 256) (la : a.length = 256) (lb : b.length = 256) (lu : u.length = 256) :
    impl_PolyMul.l1 (K + 1) b u i (rd a i) a 256 i b 256 k = impl_PolyMul.l1 K b (u.set (i + k) (y + x)) i (rd a i) a 256 i b 256 ((k + 1 : Nat) : Int) := by
  have z1 : (k : Int) < 256 := by omega
  have z2 : 0 ≤ (k : Int) := by omega
  have z3 : (k : Int) < (b.length : Int) := by omega
  have z4 : ((i + k : Nat) : Int) < 256 := by omega
  have z5 : 0 ≤ ((i + k : Nat) : Int) := by omega
  have z6 : ((i + k : Nat) : Int) < (u.length : Int) := by omega
  have e1 : (i : Int) + (k : Int) = ((i + k : Nat) : Int) := by omega
  have e2 : (k : Int) + 1 = ((k + 1 : Nat) : Int) := by omega
  have b1 : i + k ≤ 9223372036854775807 := by omega
  have b2 : k + 1 ≤ 9223372036854775807 := by omega
  have a6 : -9223372036854775808 ≤ y + x := by omega
  have c6 : y + x ≤ 9223372036854775807 := by omega
  have ax : -9223372036854775808 ≤ x := by omega
  have cx : x ≤ 9223372036854775807 := by omega
  have wx : wrap64 x = x := wr x ax cx
  have w1 : wrap64 ((i : Int) + (k : Int)) = ((i + k : Nat) : Int) := wrn _ e1 b1
  have w2 : wrap64 ((k : Int) + 1) = ((k + 1 : Nat) : Int) := wrn _ e2 b2
  have w6 : wrap64 (y + x) = y + x := wr _ a6 c6
  simp only [impl_PolyMul.l1]
  rw [if_pos z1, if_pos z2, if_pos z3, w1, if_pos z4, if_pos z5, if_pos z6, hx, wx, rd_getD u, hy, w6, w2, Int.toNat_natCast]
theorem impl_hi (K : Nat) (a b u : List Int) (i k : Nat) (x y : Int) (hx : rd a (i : Int) * rd b (k : Int) = x) (h0 : 0 ≤ x) (h1 : x ≤ 11075584) (hy : u.getD (i + k - 256) 0 = y) (y0 : -1200000000000 ≤ y) (y1 : y ≤ 1200000000000) (hi : i < 256) (hk : k < 256) (hik : 256 ≤ i + k) (la : a.length = 256) (lb : b.length = 256) (lu : u.length = 256) :
    impl_PolyMul.l1 (K + 1) b u i (rd a i) a 256 i b 256 k = impl_PolyMul.l1 K b (u.set (i + k - 256) (y - x)) i (rd a i) a 256 i b 256 ((k + 1 : Nat) : Int) := by
  have z1 : (k : Int) < 256 := by omega
  have z2 : 0 ≤ (k : Int) := by omega
  have z3 : (k : Int) < (b.length : Int) := by omega
  have z4 : ¬ ((i + k : Nat) : Int) < 256 := by omega
  have z5 : 0 ≤ ((i + k - 256 : Nat) : Int) := by omega
  have z6 : ((i + k - 256 : Nat) : Int) < (u.length : Int) := by omega
  have e1 : (i : Int) + (k : Int) = ((i + k : Nat) : Int) := by omega
  have e2 : (k : Int) + 1 = ((k + 1 : Nat) : Int) := by omega
  have b1 : i + k ≤ 9223372036854775807 := by omega
  have b2 : k + 1 ≤ 9223372036854775807 := by omega
  have e4 : ((i + k : Nat) : Int) - 256 = ((i + k - 256 : Nat) : Int) := by omega
  have b4 : i + k - 256 ≤ 9223372036854775807 := by omega
  have a6 : -9223372036854775808 ≤ y - x := by omega
  have c6 : y - x ≤ 9223372036854775807 := by omega
  have ax : -9223372036854775808 ≤ x := by omega
  have cx : x ≤ 9223372036854775807 := by omega
  have wx : wrap64 x = x := wr x ax cx
  have w1 : wrap64 ((i : Int) + (k : Int)) = ((i + k : Nat) : Int) := wrn _ e1 b1
  have w2 : wrap64 ((k : Int) + 1) = ((k + 1 : Nat) : Int) := wrn _ e2 b2
  have w4 : wrap64 (((i + k : Nat) : Int) - 256) = ((i + k - 256 : Nat) : Int) := wrn _ e4 b4
  have w6 : wrap64 (y - x) = y - x := wr _ a6 c6
  simp only [impl_PolyMul.l1]
  rw [if_pos z1, if_pos z2, if_pos z3, w1, if_neg z4, w4, if_pos z5, if_pos z6, hx, wx, rd_getD u, hy, w6, w2, Int.toNat_natCast]
theorem mul_range (a b : List Int) (ha : rightP a = true) (hb : rightP b = true) (i k : Nat) (hi : i < 256) (hk : k < 256) : 0 ≤ rd a (i : Int) * rd b (k : Int) ∧ rd a (i : Int) * rd b (k : Int) ≤ 11075584 := by
  have ha' := of_decide_eq_true ha
  have hb' := of_decide_eq_true hb
  have ra := ha'.2 _ (show a[i]'(by omega) ∈ a from List.getElem_mem _)
  have rb := hb'.2 _ (show b[k]'(by omega) ∈ b from List.getElem_mem _)
  rw [rd_nat a i (by omega), rd_nat b k (by omega)]
  exact mul_bound _ _ ra.1 ra.2 rb.1 rb.2
theorem mul_last : ∀ (d t K : Nat) (u v : List Int), t + d = 256 → inv2 1200000000000 u v → d < K → impl_PolyMul.l2 K (v.take t ++ u.drop t) 256 t = some v := by
  intro d
  induction d with
  | zero =>
    intro t K u v ht h hK
    obtain ⟨hu, hv, hall⟩ := h
    obtain ⟨K, rfl⟩ := succ_of hK
    simp only [impl_PolyMul.l2]
    rw [if_neg (show ¬ (t : Int) < 256 by omega), List.take_of_length_le (by omega), List.drop_eq_nil_of_le (by omega), List.append_nil]
  | succ d ih =>
    intro t K u v ht h hK
    have h' := h
    obtain ⟨hu, hv, hall⟩ := h
    obtain ⟨K, rfl⟩ := succ_of hK
    obtain ⟨v0, v1, ve, u0, u1⟩ := hall t (by omega)
    have e1 : rd (v.take t ++ u.drop t) (t : Int) = u.getD t 0 := by
      rw [rd_getD, List.getD_eq_getElem?_getD, List.getElem?_append_right (by simp; omega), List.length_take, show min t v.length = t by omega, Nat.sub_self, List.getElem?_drop, Nat.add_zero, ← List.getD_eq_getElem?_getD]
    have e2 : (v.take t ++ u.drop t).set t (v.getD t 0) = v.take (t + 1) ++ u.drop (t + 1) := by
      rw [List.drop_eq_getElem_cons (show t < u.length by omega), List.set_append_right _ _ (by simp; omega), List.length_take, show t - min t v.length = 0 by omega, List.set_cons_zero, List.take_succ_eq_append_getElem (show t < v.length by omega), List.getD_eq_getElem?_getD, List.getElem?_eq_getElem (show t < v.length by omega), List.append_assoc]
      rfl
    simp only [impl_PolyMul.l2]
    rw [if_pos (show (t : Int) < 256 by omega), if_pos (show 0 ≤ (t : Int) by omega), if_pos (show (t : Int) < (((v.take t ++ u.drop t).length : Nat) : Int) by simp; omega), e1, modQ_f _ u0 u1, Option.bind_some, ← ve, Int.toNat_natCast, e2, wr _ (by omega) (by omega)]
    exact ih (t + 1) K u v (by omega) h' (by omega)

-- snippet monomial
/-! a polynomial times a power of X: its numbers turned, with the sign turned where they wrap -/
def mono (s : Nat) : List Int := (List.replicate 256 (0 : Int)).set s 1
theorem mono_len (s : Nat) : (mono s).length = 256 := by unfold mono; rw [List.length_set, List.length_replicate]
theorem mono_get (s : Nat) (hs : s < 256) (k : Nat) (hk : k < 256) : (mono s).getD k 0 = if k = s then 1 else 0 := by
  unfold mono
  rw [getD_set _ s k 1 (by rw [List.length_replicate]; exact hs)]
  by_cases e : k = s
  · rw [if_pos e, if_pos e]
  · rw [if_neg e, if_neg e, List.getD_eq_getElem?_getD, List.getElem?_replicate, if_pos hk]; rfl
theorem mono_right (s : Nat) : rightP (mono s) = true := by
  unfold rightP
  rw [decide_eq_true_eq]
  refine ⟨mono_len s, fun x hx => ?_⟩
  unfold mono at hx
  rcases List.mem_or_eq_of_mem_set hx with h | h
  · have := List.eq_of_mem_replicate h
    omega
  · omega
def rawT (s : Nat) (p : List Int) (i t : Nat) : Int := if s ≤ t then (if t - s < i then p.getD (t - s) 0 else 0) else (if t + 256 - s < i then -(p.getD (t + 256 - s) 0) else 0)
def rawL (s : Nat) (p : List Int) (i : Nat) : List Int := (List.range 256).map (rawT s p i)
def turnP (s : Nat) (p : List Int) : List Int := (List.range 256).map fun t => rawT s p 256 t % 3329
theorem range_get (f : Nat → Int) (t : Nat) (ht : t < 256) : ((List.range 256).map f).getD t 0 = f t := by
  rw [List.getD_eq_getElem?_getD, List.getElem?_map, List.getElem?_range ht]; rfl
theorem list_ext (a b : List Int) (la : a.length = 256) (lb : b.length = 256) (h : ∀ t, t < 256 → a.getD t 0 = b.getD t 0) : a = b := by
  refine List.ext_getElem (by omega) fun t h1 h2 => ?_
  have := h t (by omega)
  rw [List.getD_eq_getElem?_getD, List.getD_eq_getElem?_getD, List.getElem?_eq_getElem h1, List.getElem?_eq_getElem h2] at this
  exact this
theorem rawL_len (s : Nat) (p : List Int) (i : Nat) : (rawL s p i).length = 256 := by unfold rawL; rw [List.length_map, List.length_range]
theorem turnP_len (s : Nat) (p : List Int) : (turnP s p).length = 256 := by unfold turnP; rw [List.length_map, List.length_range]
theorem right_get (p : List Int) (h : rightP p = true) (t : Nat) (ht : t < 256) : 0 ≤ p.getD t 0 ∧ p.getD t 0 ≤ 3328 := by
  have h' := of_decide_eq_true h
  have := h'.2 _ (show p[t]'(by omega) ∈ p from List.getElem_mem _)
  rw [List.getD_eq_getElem?_getD, List.getElem?_eq_getElem (show t < p.length by omega)]
  exact this
theorem rawT_lo (s : Nat) (hs : s < 256) (p : List Int) (h : rightP p = true) (i t : Nat) (ht : t < 256) : -3328 ≤ rawT s p i t ∧ rawT s p i t ≤ 3328 := by
  unfold rawT
  by_cases c : s ≤ t
  · rw [if_pos c]
    by_cases d : t - s < i
    · rw [if_pos d]
      have := right_get p h (t - s) (by omega)
      omega
    · rw [if_neg d]; omega
  · rw [if_neg c]
    by_cases d : t + 256 - s < i
    · rw [if_pos d]
      have := right_get p h (t + 256 - s) (by omega)
      omega
    · rw [if_neg d]; omega
theorem turnP_right (s : Nat) (p : List Int) : rightP (turnP s p) = true := by
  unfold rightP
  rw [decide_eq_true_eq]
  refine ⟨turnP_len s p, fun x hx => ?_⟩
  unfold turnP at hx
  rw [List.mem_map] at hx
  obtain ⟨t, _, rfl⟩ := hx
  omega
/- the row of i: one number more is in its place -/
theorem rawL_lo (s : Nat) (hs : s < 256) (p : List Int) (i : Nat) (hi : i + s < 256) : (rawL s p i).getD (i + s) 0 = 0 ∧ (rawL s p i).set (i + s) (0 + p.getD i 0) = rawL s p (i + 1) := by
  have g : (rawL s p i).getD (i + s) 0 = 0 := by
    unfold rawL
    rw [range_get _ _ hi]
    unfold rawT
    rw [if_pos (by omega), if_neg (by omega)]
  refine ⟨g, list_ext _ _ (by rw [List.length_set, rawL_len]) (rawL_len _ _ _) fun t ht => ?_⟩
  rw [getD_set _ _ _ _ (by rw [rawL_len]; exact hi)]
  unfold rawL
  rw [range_get _ _ ht, range_get _ _ ht]
  unfold rawT
  by_cases e : t = i + s
  · subst e
    rw [if_pos rfl, if_pos (show s ≤ i + s by omega), if_pos (show i + s - s < i + 1 by omega), show i + s - s = i by omega, Int.zero_add]
  · rw [if_neg e]
    by_cases c : s ≤ t
    · rw [if_pos c, if_pos c]
      by_cases d : t - s < i
      · rw [if_pos d, if_pos (show t - s < i + 1 by omega)]
      · rw [if_neg d, if_neg (show ¬ t - s < i + 1 by omega)]
    · rw [if_neg c, if_neg c]
      rw [if_neg (show ¬ t + 256 - s < i by omega), if_neg (show ¬ t + 256 - s < i + 1 by omega)]
theorem rawL_hi (s : Nat) (hs : s < 256) (p : List Int) (i : Nat) (hi : i < 256) (hc : 256 ≤ i + s) : (rawL s p i).getD (i + s - 256) 0 = 0 ∧ (rawL s p i).set (i + s - 256) (0 - p.getD i 0) = rawL s p (i + 1) := by
  have g : (rawL s p i).getD (i + s - 256) 0 = 0 := by
    unfold rawL
    rw [range_get _ _ (by omega)]
    unfold rawT
    rw [if_neg (by omega), if_neg (by omega)]
  refine ⟨g, list_ext _ _ (by rw [List.length_set, rawL_len]) (rawL_len _ _ _) fun t ht => ?_⟩
  rw [getD_set _ _ _ _ (by rw [rawL_len]; omega)]
  unfold rawL
  rw [range_get _ _ ht, range_get _ _ ht]
  unfold rawT
  by_cases e : t = i + s - 256
  · rw [if_pos e, if_neg (show ¬ s ≤ t by omega), if_pos (show t + 256 - s < i + 1 by omega), show t + 256 - s = i by omega, Int.zero_sub]
  · rw [if_neg e]
    by_cases c : s ≤ t
    · rw [if_pos c, if_pos c, if_pos (show t - s < i by omega), if_pos (show t - s < i + 1 by omega)]
    · rw [if_neg c, if_neg c]
      by_cases d : t + 256 - s < i
      · rw [if_pos d, if_pos (show t + 256 - s < i + 1 by omega)]
      · rw [if_neg d, if_neg (show ¬ t + 256 - s < i + 1 by omega)]
/- one row of the program's loop -/
theorem set_same (u : List Int) (j : Nat) (hj : j < u.length) (y : Int) (h : u.getD j 0 = y) : u.set j y = u := by
  refine List.ext_getElem (by rw [List.length_set]) fun t h1 h2 => ?_
  rw [List.getElem_set]
  by_cases e : j = t
  · subst e
    rw [if_pos rfl, ← h, List.getD_eq_getElem?_getD, List.getElem?_eq_getElem hj]; rfl
  · rw [if_neg e]
def rowIn (s : Nat) (p : List Int) (i k : Nat) : List Int := if k ≤ s then rawL s p i else rawL s p (i + 1)
theorem rowIn_bound (s : Nat) (hs : s < 256) (p : List Int) (h : rightP p = true) (i k t : Nat) (ht : t < 256) : -3328 ≤ (rowIn s p i k).getD t 0 ∧ (rowIn s p i k).getD t 0 ≤ 3328 := by
  unfold rowIn
  by_cases c : k ≤ s
  · rw [if_pos c]; unfold rawL; rw [range_get _ _ ht]; exact rawT_lo s hs p h i t ht
  · rw [if_neg c]; unfold rawL; rw [range_get _ _ ht]; exact rawT_lo s hs p h (i + 1) t ht
theorem rowIn_len (s : Nat) (p : List Int) (i k : Nat) : (rowIn s p i k).length = 256 := by
  unfold rowIn
  split <;> exact rawL_len _ _ _
theorem mono_inner (s : Nat) (hs : s < 256) (p : List Int) (hp : rightP p = true) (i : Nat) (hi : i < 256) : ∀ (d k K : Nat), k + d = 256 →
    impl_PolyMul.l1 (K + d + 1) (mono s) (rowIn s p i k) i (rd p i) p 256 i (mono s) 256 k = impl_PolyMul.l0 K (mono s) (rawL s p (i + 1)) p 256 ((i + 1 : Nat) : Int) := by
  have lp : p.length = 256 := (of_decide_eq_true hp).1
  have lm := mono_len s
  intro d
  induction d with
  | zero =>
    intro k K hk
    have e : rowIn s p i k = rawL s p (i + 1) := by unfold rowIn; rw [if_neg (by omega)]
    have w : wrap64 ((i : Int) + 1) = ((i + 1 : Nat) : Int) := wrn _ (by omega) (by omega)
    simp only [impl_PolyMul.l1]
    rw [if_neg (show ¬ (k : Int) < 256 by omega), w, e]
  | succ d ih =>
    intro k K hk
    have k256 : k < 256 := by omega
    have kd : k + 1 + d = 256 := by omega
    obtain ⟨p0, p1⟩ := right_get p hp i hi
    have m := mono_get s hs k k256
    have lr := rowIn_len s p i k
    have hx : rd p (i : Int) * rd (mono s) (k : Int) = if k = s then p.getD i 0 else 0 := by
      rw [rd_getD, rd_getD, m]
      by_cases e : k = s
      · rw [if_pos e, if_pos e, Int.mul_one]
      · rw [if_neg e, if_neg e, Int.mul_zero]
    have x0 : 0 ≤ (if k = s then p.getD i 0 else 0) := by split <;> omega
    have x1 : (if k = s then p.getD i 0 else 0) ≤ 11075584 := by split <;> omega
    rw [← ih (k + 1) K kd, show K + (d + 1) + 1 = (K + d + 1) + 1 by omega]
    by_cases c : i + k < 256
    · obtain ⟨b0, b1⟩ := rowIn_bound s hs p hp i k (i + k) c
      rw [impl_lo (K + d + 1) p (mono s) (rowIn s p i k) i k _ _ hx x0 x1 rfl (by omega) (by omega) c lp lm lr]
      congr 1
      by_cases e : k = s
      · subst e
        obtain ⟨g, st⟩ := rawL_lo k hs p i c
        unfold rowIn
        rw [if_pos (Nat.le_refl _), if_pos rfl, if_neg (show ¬ k + 1 ≤ k by omega), g, st]
      · rw [if_neg e, Int.add_zero, set_same _ _ (by omega) _ rfl]
        unfold rowIn
        by_cases f : k ≤ s
        · rw [if_pos f, if_pos (by omega)]
        · rw [if_neg f, if_neg (by omega)]
    · obtain ⟨b0, b1⟩ := rowIn_bound s hs p hp i k (i + k - 256) (by omega)
      rw [impl_hi (K + d + 1) p (mono s) (rowIn s p i k) i k _ _ hx x0 x1 rfl (by omega) (by omega) hi k256 (by omega) lp lm lr]
      congr 1
      by_cases e : k = s
      · subst e
        obtain ⟨g, st⟩ := rawL_hi k hs p i hi (by omega)
        unfold rowIn
        rw [if_pos (Nat.le_refl _), if_pos rfl, if_neg (show ¬ k + 1 ≤ k by omega), g, st]
      · rw [if_neg e, Int.sub_zero, set_same _ _ (by omega) _ rfl]
        unfold rowIn
        by_cases f : k ≤ s
        · rw [if_pos f, if_pos (by omega)]
        · rw [if_neg f, if_neg (by omega)]
theorem mono_outer (s : Nat) (hs : s < 256) (p : List Int) (hp : rightP p = true) : ∀ (d i K : Nat), i + d = 256 → impl_PolyMul.l0 (K + 258 * d + 1) (mono s) (rawL s p i) p 256 i = impl_PolyMul.l2 K (rawL s p 256) 256 0 := by
  have lp : p.length = 256 := (of_decide_eq_true hp).1
  intro d
  induction d with
  | zero =>
    intro i K hi
    obtain rfl : i = 256 := by omega
    simp only [impl_PolyMul.l0]
    rw [if_neg (show ¬ ((256 : Nat) : Int) < 256 by decide), rawL_len]
    rfl
  | succ d ih =>
    intro i K hi
    have ii : (i : Int) < 256 := by omega
    have i0 : 0 ≤ (i : Int) := by omega
    have ia : (i : Int) < (p.length : Int) := by omega
    have q := mono_inner s hs p hp i (by omega) 256 0 (K + 258 * d + 1) rfl
    have z : rowIn s p i 0 = rawL s p i := by unfold rowIn; rw [if_pos (Nat.zero_le _)]
    rw [z] at q
    have fk : K + 258 * (d + 1) + 1 = ((K + 258 * d + 1) + 256 + 1) + 1 := by omega
    rw [← ih (i + 1) K (by omega), fk, impl_PolyMul.l0, if_pos ii, if_pos i0, if_pos ia, mono_len]
    exact q
theorem rawL_zero (s : Nat) (p : List Int) : rawL s p 0 = List.replicate 256 0 := by
  refine list_ext _ _ (rawL_len _ _ _) List.length_replicate fun t ht => ?_
  unfold rawL
  rw [range_get _ _ ht, List.getD_eq_getElem?_getD, List.getElem?_replicate, if_pos ht]
  unfold rawT
  simp
theorem PolyMul_mono (s : Nat) (hs : s < 256) (p : List Int) (hp : rightP p = true) (K : Nat) (hK : 1000100 ≤ K) : impl_PolyMul.f K p (mono s) = some (turnP s p) := by
  obtain ⟨K, rfl⟩ : ∃ m, K = m + 258 * 256 + 1 + 1 := ⟨K - 258 * 256 - 2, by omega⟩
  have hp' := of_decide_eq_true hp
  have hm := mono_right s
  unfold impl_PolyMul.f
  rw [impl_PolyOk_f p _ (by omega) (by omega), Option.bind_some, if_pos hp, impl_PolyOk_f (mono s) _ (by rw [mono_len]; omega) (by rw [mono_len]; omega), Option.bind_some, hm]
  rw [impl_PolyMul.j0, if_neg (by simp), if_pos (by decide), hp'.1, ← rawL_zero s p]
  have a := mono_outer s hs p hp 256 0 K rfl
  have inv : inv2 1200000000000 (rawL s p 256) (turnP s p) := by
    refine ⟨rawL_len _ _ _, turnP_len _ _, fun t ht => ?_⟩
    obtain ⟨b0, b1⟩ := rawT_lo s hs p hp 256 t ht
    have e1 : (turnP s p).getD t 0 = rawT s p 256 t % 3329 := by unfold turnP; rw [range_get _ _ ht]
    have e2 : (rawL s p 256).getD t 0 = rawT s p 256 t := by unfold rawL; rw [range_get _ _ ht]
    rw [e1, e2]
    omega
  have l := mul_last 256 0 K _ _ (by omega) inv (by omega)
  rw [List.take_zero, List.drop_zero, List.nil_append] at l
  exact a.trans l
theorem turnP_get (s t : Nat) (p : List Int) (ht : t < 256) : (turnP s p).getD t 0 = rawT s p 256 t % 3329 := by unfold turnP; rw [range_get _ _ ht]

-- snippet polysub_impl2
def mapP (g : Int → Int → Int) (a b : List Int) : List Int := (List.range 256).map fun t => g (a.getD t 0) (b.getD t 0) % 3329
theorem mapP_len (g : Int → Int → Int) (a b : List Int) : (mapP g a b).length = 256 := by unfold mapP; rw [List.length_map, List.length_range]
theorem mapP_get (g : Int → Int → Int) (a b : List Int) (t : Nat) (h : t < (mapP g a b).length) : (mapP g a b)[t] = g (a.getD t 0) (b.getD t 0) % 3329 := by
  simp [mapP]
theorem each_l0 (a b : List Int) (ha : rightP a = true) (hb : rightP b = true) : ∀ (d t K : Nat) (z : List Int), t + d = 256 → d < K → z.length = d → impl_each.l0 K a b ((mapP (fun x y => x - y) a b).take t ++ z) 256 t = some (mapP (fun x y => x - y) a b) := by
  have la : a.length = 256 := (of_decide_eq_true ha).1
  have lb : b.length = 256 := (of_decide_eq_true hb).1
  have lm := mapP_len (fun x y => x - y) a b
  intro d
  induction d with
  | zero =>
    intro t K z ht hK hz
    obtain ⟨K, rfl⟩ := succ_of hK
    obtain rfl : z = [] := List.eq_nil_of_length_eq_zero hz
    simp only [impl_each.l0]
    rw [if_neg (show ¬ (t : Int) < 256 by omega), List.append_nil, List.take_of_length_le (by omega)]
  | succ d ih =>
    intro t K z ht hK hz
    obtain ⟨K, rfl⟩ := succ_of hK
    have t256 : t < 256 := by omega
    have c1 : (t : Int) < 256 := by omega
    have c2 : 0 ≤ (t : Int) := by omega
    have c3 : (t : Int) < (a.length : Int) := by omega
    have c4 : (t : Int) < (b.length : Int) := by omega
    have e1 : (t : Int) + 1 = ((t + 1 : Nat) : Int) := by omega
    have b1 : t + 1 ≤ 9223372036854775807 := by omega
    have c5 : (t : Int) < ((((mapP (fun x y => x - y) a b).take t ++ z).length : Nat) : Int) := by rw [List.length_append, List.length_take]; omega
    have k1 : t + 1 + d = 256 := by omega
    have k2 : d < K := by omega
    have lt : t < (mapP (fun x y => x - y) a b).length := by omega
    have tk : ((mapP (fun x y => x - y) a b).take t).length = t := by rw [List.length_take]; omega
    obtain ⟨x0, x1⟩ := right_get a ha t t256
    obtain ⟨y0, y1⟩ := right_get b hb t t256
    have g := mapP_get (fun x y => x - y) a b t lt
    cases z with
    | nil => simp at hz
    | cons z0 z =>
      have hz' : z.length = d := by simpa using hz
      have st : ((mapP (fun x y => x - y) a b).take t ++ z0 :: z).set t (a.getD t 0 - b.getD t 0) = (mapP (fun x y => x - y) a b).take t ++ (a.getD t 0 - b.getD t 0) :: z := by
        rw [List.set_append_right _ _ (by omega), tk, Nat.sub_self, List.set_cons_zero]
      have st2 : ((mapP (fun x y => x - y) a b).take t ++ z0 :: z).set t ((a.getD t 0 - b.getD t 0) % 3329) = (mapP (fun x y => x - y) a b).take (t + 1) ++ z := by
        rw [List.set_append_right _ _ (by omega), tk, Nat.sub_self, List.set_cons_zero, List.take_succ_eq_append_getElem lt, g, List.append_assoc]
        rfl
      have lo : -1200000000000 ≤ a.getD t 0 - b.getD t 0 := by omega
      have hi : a.getD t 0 - b.getD t 0 ≤ 1200000000000 := by omega
      have wsub : wrap64 (a.getD t 0 - b.getD t 0) = a.getD t 0 - b.getD t 0 := wr _ (by omega) (by omega)
      have w1 : wrap64 ((t : Int) + 1) = ((t + 1 : Nat) : Int) := wrn _ e1 b1
      simp only [impl_each.l0]
      rw [if_pos c1, if_pos c2, if_pos c3, if_pos c4]
      simp only [impl_PolySub_1.f]
      rw [Option.bind_some, rd_getD, rd_getD, wsub, modQ_f _ lo hi, Option.bind_some, if_pos c5, Int.toNat_natCast, st2, w1]
      exact ih (t + 1) K z k1 k2 hz'
def subP (a b : List Int) : List Int := if rightP a = true ∧ rightP b = true then mapP (fun x y => x - y) a b else []
theorem subP_len (a b : List Int) : (subP a b).length ≤ 256 := by
  unfold subP
  split
  · rw [mapP_len]; exact Nat.le_refl _
  · simp
theorem impl_PolySub_f (a b : List Int) (hl : a.length < 1000000000) (hl2 : b.length < 1000000000) (K : Nat) (hK : 1000100000 ≤ K) : impl_PolySub.f K a b = some (subP a b) := by
  obtain ⟨K, rfl⟩ : ∃ m, K = m + 1 := ⟨K - 1, by omega⟩
  unfold impl_PolySub.f impl_each.f
  rw [impl_PolyOk_f a _ hl (by omega), Option.bind_some]
  by_cases ha : rightP a = true
  · rw [if_pos ha, impl_PolyOk_f b _ hl2 (by omega), Option.bind_some]
    by_cases hb : rightP b = true
    · have k1 : 256 < K := by omega
      have := each_l0 a b ha hb 256 0 K (List.replicate 256 0) rfl k1 List.length_replicate
      rw [List.take_zero, List.nil_append, show ((0 : Nat) : Int) = 0 from rfl] at this
      rw [impl_each.j0, if_neg (by simp [hb]), if_pos (by decide), Option.bind_some, show (((List.replicate 256 (0 : Int)).length : Nat) : Int) = 256 by rw [List.length_replicate]; rfl, this]
      simp [subP, ha, hb]
    · rw [impl_each.j0, if_pos (by simpa using hb)]
      simp [subP, hb]
  · rw [if_neg ha, impl_each.j0, if_pos rfl]
    simp [subP, ha]

theorem same_l0 (x : List Int) (h : x.length < 1000000000) : ∀ (d K i : Nat), i + d = x.length → d < K → laws_sameInts.l0 K x x i = some true := by
  intro d
  induction d with
  | zero =>
    intro K i hi hK
    obtain ⟨K, rfl⟩ := succ_of hK
    simp only [laws_sameInts.l0]
    rw [if_neg (by omega)]
  | succ d ih =>
    intro K i hi hK
    obtain ⟨K, rfl⟩ := succ_of hK
    have w : wrap64 ((i : Int) + 1) = ((i + 1 : Nat) : Int) := wrn _ (by omega) (by omega)
    have ix : (i : Int) < (x.length : Int) := by omega
    simp only [laws_sameInts.l0]
    rw [if_pos ix, if_pos (by omega), if_pos ix, if_true, w]
    exact ih K (i + 1) (by omega) (by omega)
theorem same_f (x : List Int) (h : x.length < 1000000000) (K : Nat) (hK : x.length < K) : laws_sameInts.f K x x = some true := by
  have := same_l0 x h x.length K 0 (by omega) hK
  unfold laws_sameInts.f
  rw [if_pos rfl]
  exact this
theorem turn_one (p : List Int) (hp : rightP p = true) : turnP 0 p = p := by
  refine list_ext _ _ (turnP_len _ _) (of_decide_eq_true hp).1 fun t ht => ?_
  rw [turnP_get _ _ _ ht]
  have := right_get p hp t ht
  unfold rawT
  rw [if_pos (Nat.zero_le _), Nat.sub_zero, if_pos ht]
  omega
theorem turn_x (p : List Int) (hp : rightP p = true) (t : Nat) (ht : t + 1 < 256) : (turnP 1 p).getD (t + 1) 0 = p.getD t 0 := by
  rw [turnP_get _ _ _ ht]
  have := right_get p hp t (by omega)
  unfold rawT
  rw [if_pos (by omega), Nat.add_sub_cancel, if_pos (by omega)]
  omega
theorem turn_x0 (p : List Int) (hp : rightP p = true) : (turnP 1 p).getD 0 0 = (3329 - p.getD 255 0) % 3329 := by
  rw [turnP_get _ _ _ (by omega)]
  have := right_get p hp 255 (by omega)
  unfold rawT
  rw [if_neg (by omega), show 0 + 256 - 1 = 255 from rfl, if_pos (by omega)]
  omega
theorem turn_half (p : List Int) (hp : rightP p = true) : turnP 128 (turnP 128 p) = subP (List.replicate 256 0) p := by
  have hz : rightP (List.replicate 256 (0 : Int)) = true := by
    unfold rightP
    rw [decide_eq_true_eq]
    refine ⟨List.length_replicate, fun x hx => ?_⟩
    have := List.eq_of_mem_replicate hx
    omega
  have es : subP (List.replicate 256 0) p = mapP (fun x y => x - y) (List.replicate 256 0) p := by unfold subP; rw [if_pos ⟨hz, hp⟩]
  rw [es]
  refine list_ext _ _ (turnP_len _ _) (mapP_len _ _ _) fun t ht => ?_
  have e : (mapP (fun x y => x - y) (List.replicate 256 0) p).getD t 0 = (0 - p.getD t 0) % 3329 := by
    have zt : (List.replicate 256 (0 : Int)).getD t 0 = 0 := by rw [List.getD_eq_getElem?_getD, List.getElem?_replicate, if_pos ht]; rfl
    unfold mapP
    rw [range_get _ _ ht, zt]
  rw [turnP_get _ _ _ ht, e]
  have r := right_get p hp t ht
  unfold rawT
  by_cases c : 128 ≤ t
  · rw [if_pos c, if_pos (by omega), turnP_get _ _ _ (by omega)]
    unfold rawT
    rw [if_neg (by omega), show t - 128 + 256 - 128 = t by omega, if_pos ht]
    omega
  · rw [if_neg c, if_pos (by omega), turnP_get _ _ _ (by omega)]
    unfold rawT
    rw [if_pos (by omega), show t + 256 - 128 - 128 = t by omega, if_pos ht]
    omega
theorem shift_l0 (p z o h2 : List Int) (hp : rightP p = true) (r : Option Bool) (K0 : Nat) (hr : ∀ K, K0 ≤ K → laws_FnShift.l0 (K + 1) p o z h2 (turnP 1 p) 255 = r) : ∀ (d t K : Nat), t + d = 255 → K0 + d ≤ K → laws_FnShift.l0 (K + 1) p o z h2 (turnP 1 p) t = r := by
  have lp : p.length = 256 := (of_decide_eq_true hp).1
  have lt := turnP_len 1 p
  intro d
  induction d with
  | zero =>
    intro t K ht hK
    obtain rfl : t = 255 := by omega
    exact hr K (by omega)
  | succ d ih =>
    intro t K ht hK
    obtain ⟨K, rfl⟩ : ∃ m, K = m + 1 := ⟨K - 1, by omega⟩
    have w : wrap64 ((t : Int) + 1) = ((t + 1 : Nat) : Int) := wrn _ (by omega) (by omega)
    have c1 : ((t + 1 : Nat) : Int) < 256 := by omega
    have c2 : 0 ≤ ((t + 1 : Nat) : Int) := by omega
    have c3 : ((t + 1 : Nat) : Int) < ((turnP 1 p).length : Int) := by omega
    have c4 : 0 ≤ (t : Int) := by omega
    have c5 : (t : Int) < (p.length : Int) := by omega
    have e := turn_x p hp t (by omega)
    rw [laws_FnShift.l0, w, if_pos c1, if_pos c2, if_pos c3, if_pos c4, if_pos c5, rd_getD, rd_getD, if_pos e]
    exact ih (t + 1) K (by omega) (by omega)
theorem shift_end (p : List Int) (hp : rightP p = true) (K : Nat) (hK : 1000100000 ≤ K) : laws_FnShift.l0 (K + 1) p (mono 0) (List.replicate 256 0) (turnP 128 (turnP 128 p)) (turnP 1 p) 255 = some true := by
  have lp : p.length = 256 := (of_decide_eq_true hp).1
  have lt := turnP_len 1 p
  have w : wrap64 ((255 : Int) + 1) = 256 := wr _ (by omega) (by omega)
  have r := right_get p hp 255 (by omega)
  have z1 : (0 : Int) < ((turnP 1 p).length : Int) := by omega
  have z2 : (255 : Int) < (p.length : Int) := by omega
  have e1 : rd p (255 : Int) = p.getD 255 0 := rd_getD p 255
  have e2 : rd (turnP 1 p) (0 : Int) = (turnP 1 p).getD 0 0 := rd_getD (turnP 1 p) 0
  have n : 0 ≤ 3329 - p.getD 255 0 := by omega
  have w2 : wrap64 (3329 - p.getD 255 0) = 3329 - p.getD 255 0 := wr _ (by omega) (by omega)
  have m := turn_half p hp
  have sl := subP_len (List.replicate 256 0) p
  rw [laws_FnShift.l0, w, if_neg (show ¬ (256 : Int) < 256 by omega), impl_PolySub_f _ _ (by rw [List.length_replicate]; omega) (by omega) K hK, Option.bind_some, m, same_f _ (by omega) K (by omega), Option.bind_some, if_pos rfl, PolyMul_mono 0 (by omega) p hp K (by omega), Option.bind_some, turn_one p hp, same_f _ (by omega) K (by omega), Option.bind_some, if_pos rfl, if_pos z1, if_pos z2, e1, e2, turn_x0 p hp, w2, tmod_pos _ _ n]
  simp
theorem FnShift : laws_FnShift.Pure := by
  intro b _ _ _
  refine ⟨1000101000 + 1, ?_⟩
  unfold laws_FnShift.f laws_big.f
  rw [Option.bind_some]
  by_cases h : (b.length : Int) > 1048576
  · rw [if_pos (by simpa using h)]
  · rw [if_neg (by simpa using h)]
    obtain ⟨p, q, r, hp, hq, hr, e⟩ := polys_ok b (by omega)
    have m0 : (List.replicate 256 (0 : Int)).set 0 1 = mono 0 := rfl
    have m1 : (List.replicate 256 (0 : Int)).set 1 1 = mono 1 := rfl
    have m2 : (List.replicate 256 (0 : Int)).set 128 1 = mono 128 := rfl
    rw [e _ (by omega), Option.bind_some]
    dsimp only
    rw [if_pos (by omega), Option.bind_some, Option.bind_some, Option.bind_some, Option.bind_some, List.length_replicate, if_pos (by decide), if_pos (by decide), Option.bind_some, if_pos (by decide), Option.bind_some]
    rw [show (128 : Int).toNat = 128 from rfl, show (0 : Int).toNat = 0 from rfl, show (1 : Int).toNat = 1 from rfl, m0, m1, m2]
    rw [PolyMul_mono 128 (by omega) p hp _ (by omega), Option.bind_some, PolyMul_mono 128 (by omega) _ (turnP_right _ _) _ (by omega), Option.bind_some, PolyMul_mono 1 (by omega) p hp _ (by omega), Option.bind_some, turnP_len, turnP_len, if_pos (show ((256 : Nat) : Int) = 256 from rfl)]
    rw [laws_FnShift.j0, if_neg (by decide)]
    exact shift_l0 p _ _ _ hp _ 1000100001 (fun K hK => shift_end p hp K (by omega)) 255 0 _ rfl (by omega)

end Go.Proofs.Ytnbggmmpmppnaaa.Pure
