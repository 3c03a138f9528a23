/- Of every disk, all acts, every count and all numbers the program and the reference leave the same disk where the power goes behind so many acts, in new memory; what came in stays. -/
import Derived.Test.YteghgeanbglmoaaPFnExactCutActsx10
set_option linter.unusedVariables false
set_option linter.unusedSimpArgs false
namespace Go.Proofs.Yteghgeanbglmoaa.Pure
open Go.RowKit Go.Proofs.Yteghgeanbglmoaa.PFnExactCutActs Go.Proofs.YteghgeanbglmoaaW.PrintWords Go.Proofs.YteghgeanbglmoaaW.PrintLast Go.Proofs.YteghgeanbglmoaaW.PrintMore

-- snippet plain
/-! bytes as numbers -/
def bl (s : ByteArray) : List Int := s.data.toList.map fun b => (b.toNat : Int)
theorem bl_len (s : ByteArray) : (bl s).length = s.size := by unfold bl; rw [List.length_map, Array.length_toList]; rfl
theorem map_u8_inj : ∀ {a b : List UInt8}, a.map (fun b => (b.toNat : Int)) = b.map (fun b => (b.toNat : Int)) → a = b
  | [], [], _ => rfl
  | [], _ :: _, h => by simp at h
  | _ :: _, [], h => by simp at h
  | x :: a, y :: b, h => by
    simp only [List.map_cons, List.cons.injEq] at h
    have e : x = y := UInt8.toNat_inj.mp (by omega)
    rw [e, map_u8_inj h.2]
theorem bl_inj {s t : ByteArray} (h : bl s = bl t) : s = t := by
  have := map_u8_inj h
  cases s; cases t
  simp only [ByteArray.mk.injEq] at *
  exact Array.toList_inj.mp this
theorem bl_eq {s t : ByteArray} : s = t ↔ bl s = bl t := ⟨fun h => by rw [h], bl_inj⟩
theorem toList_bl {s t : ByteArray} : s.toList = t.toList ↔ bl s = bl t := by
  rw [ByteArray.toList_eq, ByteArray.toList_eq]
  exact ⟨fun h => by unfold bl; rw [h], fun h => by rw [bl_inj h]⟩
theorem bl_range (s : ByteArray) : ∀ x ∈ bl s, 0 ≤ x ∧ x < 256 := by
  intro x hx
  simp only [bl, List.mem_map] at hx
  obtain ⟨b, _, rfl⟩ := hx
  have := b.toNat_lt
  omega
theorem bt_bl (s : ByteArray) (i : Int) : bt s i = (bl s).getD i.toNat 0 := by
  unfold bt bl
  split
  · rename_i h
    have h' : i.toNat < s.data.toList.length := by rw [Array.length_toList]; exact h
    rw [List.getD_eq_getElem?_getD, List.getElem?_map, List.getElem?_eq_getElem h']
    rfl
  · rename_i h
    have h' : s.data.toList.length ≤ i.toNat := by rw [Array.length_toList]; exact Nat.le_of_not_lt h
    rw [List.getD_eq_getElem?_getD, List.getElem?_map, List.getElem?_eq_none h']
    rfl
theorem bl_append (s t : ByteArray) : bl (s ++ t) = bl s ++ bl t := by simp [bl]
theorem bl_extract (s : ByteArray) (a b : Nat) : bl (s.extract a b) = ((bl s).drop a).take (b - a) := by
  simp [bl, List.map_take, List.map_drop]
theorem u8_ofNat (n : Int) (h : 0 ≤ n ∧ n < 256) : ((UInt8.ofNat n.toNat).toNat : Int) = n := by
  rw [UInt8.toNat_ofNat']
  omega
theorem bl_str (xs : List Int) (h : ∀ x ∈ xs, 0 ≤ x ∧ x < 256) : bl (strOfNums xs) = xs := by
  unfold bl
  rw [strOfNums_data, List.map_map]
  conv => rhs; rw [← List.map_id xs]
  exact List.map_congr_left fun x hx => u8_ofNat x (h x hx)
theorem str_bl (s : ByteArray) : strOfNums (bl s) = s := bl_inj (bl_str _ (bl_range s))
theorem str_size (xs : List Int) : (strOfNums xs).size = xs.length := strOfNums_size xs
theorem bl_nil : bl (⟨#[]⟩ : ByteArray) = [] := rfl
theorem bt_lo (s : ByteArray) (i : Int) : 0 ≤ bt s i := (bt_range s i).1
theorem bt_hi (s : ByteArray) (i : Int) : bt s i < 256 := by have := (bt_range s i).2; omega
theorem wr (n : Int) (h : -9223372036854775808 ≤ n) (h' : n ≤ 9223372036854775807) : wrap64 n = n := by unfold wrap64; omega
theorem wrn {z : Int} (n : Nat) (e : z = n) (h : n ≤ 9223372036854775807) : wrap64 z = n := by rw [e]; exact wr _ (by omega) (by omega)
theorem tdiv_pos (a b : Int) (h : 0 ≤ a) : Int.tdiv a b = a / b := Int.tdiv_eq_ediv_of_nonneg h
theorem tmod_pos (a b : Int) (h : 0 ≤ a) : Int.tmod a b = a % b := Int.tmod_eq_emod_of_nonneg h
theorem succ_of {k d : Nat} (h : d < k) : ∃ m, k = m + 1 := ⟨k - 1, by omega⟩
theorem drop_bt (s : ByteArray) (i : Nat) (h : i < s.size) : (bl s).drop i = bt s i :: (bl s).drop (i + 1) := by
  have h' : i < (bl s).length := by rw [bl_len]; exact h
  rw [List.drop_eq_getElem_cons h', bt_bl, Int.toNat_natCast, List.getD_eq_getElem?_getD, List.getElem?_eq_getElem h']
  rfl
theorem drop_end (s : ByteArray) (i : Nat) (h : s.size ≤ i) : (bl s).drop i = [] := List.drop_eq_nil_of_le (by rw [bl_len]; exact h)
theorem take_snoc_cons {α : Type} (p : List α) (b : α) (l : List α) : (p ++ b :: l).take (p.length + 1) = p ++ [b] := by
  rw [List.take_length_add_append]; simp
attribute [local irreducible] bt

-- snippet marktext
/-! a mark's text -/
theorem markText_some : ∀ (d K : Nat) (n : Int) (x : ByteArray), 0 ≤ n → n < d → d < 4611686018427387904 → d ≤ K → x.size + d < 4611686018427387904 → ∃ t, laws_markText.l0 K n x = some t := by
  intro d
  induction d with
  | zero => intro K n x h h1; omega
  | succ d ih =>
    intro K n x h h1 hd hK hx
    obtain ⟨K, rfl⟩ := succ_of hK
    simp only [laws_markText.l0]
    by_cases c : n > 0
    · have e : wrap64 (Int.tdiv n 10) = n / 10 := by rw [tdiv_pos _ _ h, wr _ (by omega) (by omega)]
      rw [if_pos c, Option.bind_some, if_pos (by simp only [str_size, List.length_cons, List.length_nil]; omega), e]
      exact ih K (n / 10) _ (by omega) (by omega) (by omega) (by omega) (by simp only [ByteArray.size_append, str_size, List.length_cons, List.length_nil]; omega)
    · rw [if_neg c, if_pos (by omega)]
      exact ⟨_, rfl⟩
noncomputable def mt (n : Nat) : ByteArray := (laws_markText.f (n + 1) n).getD (⟨#[]⟩ : ByteArray)
theorem mt_of (n K : Nat) (h : n < 1000000000000) (hK : n + 1 ≤ K) : laws_markText.f K n = some (mt n) := by
  have : ∃ t, laws_markText.f (n + 1) n = some t := by
    unfold laws_markText.f
    split
    · exact ⟨_, rfl⟩
    · exact markText_some (n + 1) (n + 1) n _ (by omega) (by omega) (by omega) (Nat.le_refl _) (by rw [show (⟨#[]⟩ : ByteArray).size = 0 from rfl]; omega)
  obtain ⟨t, ht⟩ := this
  have e : mt n = t := by unfold mt; rw [ht]; rfl
  rw [e]
  exact at_rounds (fun k => laws_markText.mono _ k) hK ht

-- snippet disk_law
/-! disks: their size, taken over, compared -/
def conv (x : S96) : S67 := ⟨x.f0, x.f1, x.f2⟩
theorem rd96 (l : List S96) (j : Nat) (h : j < l.length) : rd_T96 l (j : Int) = l[j] := by unfold rd_T96; rw [Int.toNat_natCast, List.getD_eq_getElem?_getD, List.getElem?_eq_getElem h]; rfl
theorem rd67 (l : List S67) (j : Nat) (h : j < l.length) : rd_T67 l (j : Int) = l[j] := by unfold rd_T67; rw [Int.toNat_natCast, List.getD_eq_getElem?_getD, List.getElem?_eq_getElem h]; rfl
theorem szFile_ok (x : S96) (hx : good96 x) (n : Int) (n0 : 0 ≤ n) (n1 : n ≤ 1048576) : ∃ r, laws_szFile.f x.f0 x.f1 x.f2 n = some r ∧ -1 ≤ r ∧ (0 ≤ r → r ≤ n ∧ (x.f0.size : Int) ≤ n ∧ (x.f1.size : Int) ≤ n) := by
  obtain ⟨h0, h1, h2⟩ := hx
  unfold laws_szFile.f
  have a1 : -9223372036854775808 ≤ n - (x.f0.size : Int) := by omega
  have a2 : n - (x.f0.size : Int) ≤ 9223372036854775807 := by omega
  rw [wr _ a1 a2]
  by_cases c : n - (x.f0.size : Int) < 0
  · rw [if_pos c]; exact ⟨-1, rfl, by omega, by omega⟩
  · have b1 : -9223372036854775808 ≤ n - (x.f0.size : Int) - (x.f1.size : Int) := by omega
    have b2 : n - (x.f0.size : Int) - (x.f1.size : Int) ≤ 9223372036854775807 := by omega
    rw [if_neg c, wr _ b1 b2]
    by_cases d : n - (x.f0.size : Int) - (x.f1.size : Int) < 0
    · rw [if_pos d]; exact ⟨-1, rfl, by omega, by omega⟩
    · rw [if_neg d]; exact ⟨_, rfl, by omega, by omega⟩
theorem szFileS_l0 (l : List S96) (hl : l.length < 1000000000) (hg : ∀ x ∈ l, good96 x) : ∀ (d i : Nat) (n : Int), i + d = l.length → 0 ≤ n → n ≤ 1048576 → ∃ r, -1 ≤ r ∧ (0 ≤ r → ∀ x ∈ l.drop i, (x.f0.size : Int) ≤ n ∧ (x.f1.size : Int) ≤ n) ∧ ∀ K, d < K → laws_szFileS.l0 K l n i = some r := by
  intro d
  induction d with
  | zero =>
    intro i n hi n0 n1
    refine ⟨n, by omega, fun _ x hx => ?_, fun K hK => ?_⟩
    · rw [List.drop_eq_nil_of_le (by omega)] at hx; cases hx
    · obtain ⟨K, rfl⟩ := succ_of hK
      rw [laws_szFileS.l0, if_neg (by omega)]
  | succ d ih =>
    intro i n hi n0 n1
    have il : i < l.length := by omega
    obtain ⟨r, e, r0, r1⟩ := szFile_ok l[i] (hg _ (List.getElem_mem _)) n n0 n1
    have w : wrap64 ((i : Int) + 1) = ((i + 1 : Nat) : Int) := wrn _ (by omega) (by omega)
    by_cases c : r < 0
    · refine ⟨-1, by omega, by omega, fun K hK => ?_⟩
      obtain ⟨K, rfl⟩ := succ_of hK
      rw [laws_szFileS.l0, if_pos (by omega), if_pos (by omega), rd96 l i il, e, Option.bind_some, if_pos c]
    · obtain ⟨q0, q1, q2⟩ := r1 (by omega)
      obtain ⟨s, s0, s1, s2⟩ := ih (i + 1) r (by omega) (by omega) (by omega)
      refine ⟨s, s0, fun h x hx => ?_, fun K hK => ?_⟩
      · rw [List.drop_eq_getElem_cons il] at hx
        rcases List.mem_cons.1 hx with h' | h'
        · rw [h']; exact ⟨q1, q2⟩
        · have := s1 h x h'
          omega
      · obtain ⟨K, rfl⟩ := succ_of hK
        rw [laws_szFileS.l0, if_pos (by omega), if_pos (by omega), rd96 l i il, e, Option.bind_some, if_neg c, w]
        exact s2 K (by omega)
theorem szDisk_ok (l : List S96) (hl : l.length ≤ 9223372036854775807) (hg : ∀ x ∈ l, good96 x) : ∃ r, -1 ≤ r ∧ (0 ≤ r → l.length ≤ 1048576 ∧ ∀ x ∈ l, (x.f0.size : Int) ≤ 1048576 ∧ (x.f1.size : Int) ≤ 1048576) ∧ ∀ K, 1048577 ≤ K → laws_szDisk.f K l 1048576 = some r := by
  have a1 : -9223372036854775808 ≤ 1048576 - (l.length : Int) := by omega
  have a2 : 1048576 - (l.length : Int) ≤ 9223372036854775807 := by omega
  have w : wrap64 (1048576 - (l.length : Int)) = 1048576 - (l.length : Int) := wr _ a1 a2
  by_cases c : 1048576 - (l.length : Int) < 0
  · refine ⟨-1, by omega, by omega, fun K hK => ?_⟩
    unfold laws_szDisk.f laws_szFileS.f
    rw [w, if_pos c, Option.bind_some, if_pos (by omega)]
  · obtain ⟨r, r0, r1, r2⟩ := szFileS_l0 l (by omega) hg l.length 0 (1048576 - (l.length : Int)) (by omega) (by omega) (by omega)
    by_cases d : r < 0
    · refine ⟨-1, by omega, by omega, fun K hK => ?_⟩
      unfold laws_szDisk.f laws_szFileS.f
      rw [w, if_neg c, show (0 : Int) = ((0 : Nat) : Int) from rfl, r2 K (by omega), Option.bind_some, if_pos (by omega)]
    · refine ⟨r, r0, fun h => ⟨by omega, fun x hx => ?_⟩, fun K hK => ?_⟩
      · have := r1 h x (by rw [List.drop_zero]; exact hx)
        omega
      · unfold laws_szDisk.f laws_szFileS.f
        rw [w, if_neg c, show (0 : Int) = ((0 : Nat) : Int) from rfl, r2 K (by omega), Option.bind_some, if_neg (by omega)]
theorem toFileS_l0 (x : List S96) (h : x.length < 1000000000) : ∀ (d K j : Nat) (y : List S67), j + d = x.length → d < K → y.length = x.length → laws_toFileS.l0 K x y j = some (y.take j ++ (x.drop j).map conv) := by
  intro d
  induction d with
  | zero =>
    intro K j y hj hK hy
    obtain ⟨K, rfl⟩ := succ_of hK
    rw [laws_toFileS.l0, if_neg (show ¬ (j : Int) < (x.length : Int) by omega), List.take_of_length_le (by omega), List.drop_eq_nil_of_le (by omega)]
    simp
  | succ d ih =>
    intro K j y hj hK hy
    obtain ⟨K, rfl⟩ := succ_of hK
    have hjx : j < x.length := by omega
    have w : wrap64 ((j : Int) + 1) = ((j + 1 : Nat) : Int) := wrn _ (by omega) (by omega)
    have t : (y.set j (conv x[j])).take (j + 1) = y.take j ++ [conv x[j]] := by
      rw [List.take_set, List.take_succ_eq_append_getElem (show j < y.length by omega), List.set_append_right _ _ (by simp; omega)]
      simp [show min j y.length = j by omega]
    rw [laws_toFileS.l0, if_pos (show (j : Int) < (x.length : Int) by omega), if_pos (show 0 ≤ (j : Int) by omega), rd96 x j hjx]
    unfold laws_toFile.f
    rw [Option.bind_some, if_pos (show (j : Int) < (y.length : Int) by omega), w, Int.toNat_natCast]
    have q := ih K (j + 1) (y.set j (conv x[j])) (by omega) (by omega) (by rw [List.length_set]; exact hy)
    rw [t, List.append_assoc] at q
    rw [List.drop_eq_getElem_cons hjx, List.map_cons]
    exact q
theorem toDisk_f (x : List S96) (K : Nat) (h : x.length ≤ 1048576) (hK : 1048577 ≤ K) : laws_toDisk.f K x = some (x.map conv) := by
  have := toFileS_l0 x (by omega) x.length K 0 (List.replicate x.length z67) (by omega) (by omega) (by simp)
  unfold laws_toDisk.f laws_toFileS.f
  rw [if_pos (show 0 ≤ (x.length : Int) by omega), Int.toNat_natCast, if_pos (by omega), show (0 : Int) = ((0 : Nat) : Int) from rfl, this, Option.bind_some]
  simp
theorem eqFile_same (x : S67) : laws_eqFile.f x.f0 x.f1 x.f2 x.f0 x.f1 x.f2 = some true := by
  unfold laws_eqFile.f
  rw [if_pos rfl, if_pos rfl, if_pos rfl]
theorem eqFileS_l0 (l : List S67) (h : l.length < 1000000000) : ∀ (d K i : Nat), i + d = l.length → d < K → laws_eqFileS.l0 K l l i = some true := by
  intro d
  induction d with
  | zero =>
    intro K i hi hK
    obtain ⟨K, rfl⟩ := succ_of hK
    rw [laws_eqFileS.l0, if_neg (by omega)]
  | succ d ih =>
    intro K i hi hK
    obtain ⟨K, rfl⟩ := succ_of hK
    have w : wrap64 ((i : Int) + 1) = ((i + 1 : Nat) : Int) := wrn _ (by omega) (by omega)
    rw [laws_eqFileS.l0, if_pos (by omega), if_pos (by omega), if_pos (by omega), eqFile_same, Option.bind_some, if_pos rfl, w]
    exact ih K (i + 1) (by omega) (by omega)
theorem eqDisk_same (l : List S67) (K : Nat) (h : l.length ≤ 1048576) (hK : 1048577 ≤ K) : laws_eqDisk.f K l l = some true := by
  have := eqFileS_l0 l (by omega) l.length K 0 (by omega) (by omega)
  unfold laws_eqDisk.f laws_eqFileS.f
  rw [if_pos rfl, show (0 : Int) = ((0 : Nat) : Int) from rfl, this, Option.bind_some, if_pos rfl]

-- snippet marksd
/-! marks in a list of files -/
noncomputable def mkD (c : Nat) : Nat → List S67
  | 0 => []
  | n + 1 => ⟨mt c, mt (c + 1), ((c + 2 : Nat) : Int)⟩ :: mkD (c + 3) n
theorem mkD_len : ∀ (n c : Nat), (mkD c n).length = n
  | 0, _ => rfl
  | n + 1, c => by simp only [mkD, List.length_cons, mkD_len n]
theorem rd_mid (done rest : List S67) (x : S67) : rd_T67 (done ++ x :: rest) (done.length : Int) = x := by
  unfold rd_T67
  rw [Int.toNat_natCast, List.getD_eq_getElem?_getD, List.getElem?_append_right (Nat.le_refl _), Nat.sub_self]
  rfl
theorem set_mid (done rest : List S67) (x y : S67) : (done ++ x :: rest).set ((done.length : Int)).toNat y = done ++ y :: rest := by
  rw [Int.toNat_natCast, List.set_append_right _ _ (Nat.le_refl _), Nat.sub_self]
  rfl
theorem markD_l0 : ∀ (rest done : List S67) (K c : Nat), done.length + rest.length < 1000000000 → c + 3 * rest.length < 1000000000 → c + 4 * rest.length + 4 ≤ K →
    laws_markFileS.l0 K (done ++ rest) c done.length = some (((c + 3 * rest.length : Nat) : Int), done ++ mkD c rest.length)
  | [], done, K, c, h, h1, hK => by
    obtain ⟨K, rfl⟩ : ∃ m, K = m + 1 := ⟨K - 1, by omega⟩
    simp only [laws_markFileS.l0]
    rw [if_neg (by simp)]
    simp [mkD]
  | x :: rest, done, K, c, h, h1, hK => by
    simp only [List.length_cons] at h h1 hK
    obtain ⟨K, rfl⟩ : ∃ m, K = m + 1 := ⟨K - 1, by omega⟩
    simp only [laws_markFileS.l0]
    have w1 : wrap64 ((c : Int) + 1) = ((c + 1 : Nat) : Int) := wrn _ (by omega) (by omega)
    have w2 : wrap64 (((c + 1 : Nat) : Int) + 1) = ((c + 2 : Nat) : Int) := wrn _ (by omega) (by omega)
    have w3 : wrap64 (((c + 2 : Nat) : Int) + 1) = ((c + 3 : Nat) : Int) := wrn _ (by omega) (by omega)
    have w4 : wrap64 ((done.length : Int) + 1) = ((done.length + 1 : Nat) : Int) := wrn _ (by omega) (by omega)
    rw [w1, w2, w3, w4, if_pos (by simp only [List.length_append, List.length_cons]; omega), mt_of c K (by omega) (by omega), Option.bind_some, if_pos (by omega), mt_of (c + 1) K (by omega) (by omega)]
    simp only [Option.bind_some, rd_mid, set_mid]
    have := markD_l0 rest (done ++ [⟨mt c, mt (c + 1), ((c + 2 : Nat) : Int)⟩]) K (c + 3) (by simp only [List.length_append, List.length_cons, List.length_nil]; omega) (by omega) (by omega)
    rw [List.length_append] at this
    rw [show done ++ (⟨mt c, mt (c + 1), ((c + 2 : Nat) : Int)⟩ : S67) :: rest = (done ++ [⟨mt c, mt (c + 1), ((c + 2 : Nat) : Int)⟩]) ++ rest by simp]
    rw [show ((done.length + 1 : Nat) : Int) = ((done.length + [(⟨mt c, mt (c + 1), ((c + 2 : Nat) : Int)⟩ : S67)].length : Nat) : Int) by simp, this]
    simp only [mkD, List.length_cons]
    rw [show c + 3 + 3 * rest.length = c + 3 * (rest.length + 1) by omega]
    simp
theorem heldD_l0 : ∀ (n : Nat) (done : List S67) (K c : Nat), done.length + n < 1000000000 → c + 3 * n < 1000000000 → c + 4 * n + 4 ≤ K →
    laws_heldFileS.l0 K (done ++ mkD c n) c done.length = some ((c + 3 * n : Nat) : Int)
  | 0, done, K, c, h, h1, hK => by
    obtain ⟨K, rfl⟩ : ∃ m, K = m + 1 := ⟨K - 1, by omega⟩
    simp only [laws_heldFileS.l0]
    rw [if_neg (by simp [mkD])]
    simp
  | n + 1, done, K, c, h, h1, hK => by
    obtain ⟨K, rfl⟩ : ∃ m, K = m + 1 := ⟨K - 1, by omega⟩
    simp only [laws_heldFileS.l0]
    have w1 : wrap64 ((c : Int) + 1) = ((c + 1 : Nat) : Int) := wrn _ (by omega) (by omega)
    have w2 : wrap64 (((c + 1 : Nat) : Int) + 1) = ((c + 2 : Nat) : Int) := wrn _ (by omega) (by omega)
    have w3 : wrap64 (((c + 2 : Nat) : Int) + 1) = ((c + 3 : Nat) : Int) := wrn _ (by omega) (by omega)
    have w4 : wrap64 ((done.length : Int) + 1) = ((done.length + 1 : Nat) : Int) := wrn _ (by omega) (by omega)
    have g : rd_T67 (done ++ mkD c (n + 1)) (done.length : Int) = ⟨mt c, mt (c + 1), ((c + 2 : Nat) : Int)⟩ := rd_mid _ _ _
    rw [w1, w2, w3, w4, if_pos (by simp only [List.length_append, mkD_len]; omega), if_pos (by omega), mt_of c K (by omega) (by omega), Option.bind_some, g, if_pos rfl, mt_of (c + 1) K (by omega) (by omega), Option.bind_some, if_pos rfl, if_pos rfl]
    have := heldD_l0 n (done ++ [⟨mt c, mt (c + 1), ((c + 2 : Nat) : Int)⟩]) K (c + 3) (by simp only [List.length_append, List.length_cons, List.length_nil]; omega) (by omega) (by omega)
    rw [List.length_append] at this
    have e : done ++ mkD c (n + 1) = (done ++ [⟨mt c, mt (c + 1), ((c + 2 : Nat) : Int)⟩]) ++ mkD (c + 3) n := by simp [mkD]
    rw [e, show ((done.length + 1 : Nat) : Int) = ((done.length + [(⟨mt c, mt (c + 1), ((c + 2 : Nat) : Int)⟩ : S67)].length : Nat) : Int) by simp, this]
    congr 2
    omega
theorem markD_f (l : List S67) (K : Nat) (h : l.length ≤ 2000000) (hK : 10000000 ≤ K) : laws_markDisk.f K l 1 = some (((1 + 3 * l.length : Nat) : Int), mkD 1 l.length) := by
  have := markD_l0 l [] K 1 (by simp; omega) (by omega) (by omega)
  unfold laws_markDisk.f laws_markFileS.f
  rw [List.nil_append, List.nil_append] at this
  rw [show (0 : Int) = ((([] : List S67).length : Nat) : Int) from rfl, show (1 : Int) = ((1 : Nat) : Int) from rfl, this, Option.bind_some]
theorem heldD_f (n K : Nat) (h : n ≤ 2000000) (hK : 10000000 ≤ K) : laws_heldDisk.f K (mkD 1 n) 1 = some ((1 + 3 * n : Nat) : Int) := by
  have := heldD_l0 n [] K 1 (by simp; omega) (by omega) (by omega)
  unfold laws_heldDisk.f laws_heldFileS.f
  rw [List.nil_append] at this
  rw [show (0 : Int) = ((([] : List S67).length : Nat) : Int) from rfl, show (1 : Int) = ((1 : Nat) : Int) from rfl, this, Option.bind_some, if_neg (by simp only [List.length_nil]; omega)]

-- snippet intlist
/-! lists of numbers: taken over, compared -/
theorem toInt_l0 (x : List Int) (h : x.length < 1000000000) : ∀ (d K j : Nat) (y : List Int), j + d = x.length → d < K → y.length = x.length → laws_toIntS.l0 K x y j = some (y.take j ++ (x.drop j)) := by
  intro d
  induction d with
  | zero =>
    intro K j y hj hK hy
    obtain ⟨K, rfl⟩ := succ_of hK
    simp only [laws_toIntS.l0]
    rw [if_neg (show ¬ (j : Int) < (x.length : Int) by omega), List.take_of_length_le (by omega), List.drop_eq_nil_of_le (by omega)]
    simp
  | succ d ih =>
    intro K j y hj hK hy
    obtain ⟨K, rfl⟩ := succ_of hK
    have hjx : j < x.length := by omega
    simp only [laws_toIntS.l0]
    rw [if_pos (show (j : Int) < (x.length : Int) by omega), if_pos (show 0 ≤ (j : Int) by omega), if_pos (show (j : Int) < (y.length : Int) by omega), wr ((j : Int) + 1) (by omega) (by omega), show ((j : Int) + 1) = ((j + 1 : Nat) : Int) by omega, Int.toNat_natCast, ih K (j + 1) _ (by omega) (by omega) (by simp; omega)]
    have e : rd x (j : Int) = x[j] := by unfold rd; rw [Int.toNat_natCast, List.getD_eq_getElem?_getD, List.getElem?_eq_getElem hjx]; rfl
    have t : (y.set j (rd x (j : Int))).take (j + 1) = y.take j ++ [x[j]] := by
      rw [List.take_set, List.take_succ_eq_append_getElem (show j < y.length by omega), List.set_append_right _ _ (by simp; omega), e]
      simp [show min j y.length = j by omega]
    rw [t, List.append_assoc, List.drop_eq_getElem_cons hjx]
    rfl
theorem toInt_f (x : List Int) (K : Nat) (h : x.length < 1000000000) (hK : x.length < K) : laws_toIntS.f K x = some x := by
  have := toInt_l0 x h x.length K 0 (List.replicate x.length 0) (by omega) hK (by simp)
  unfold laws_toIntS.f
  rw [if_pos (show 0 ≤ (x.length : Int) by omega), if_pos (by simp; omega)]
  simpa using this
theorem eqI_l0 (l : List Int) (h : l.length < 1000000000) : ∀ (d K i : Nat), i + d = l.length → d < K → laws_eqIntS.l0 K l l i = some true := by
  intro d
  induction d with
  | zero =>
    intro K i hi hK
    obtain ⟨K, rfl⟩ := succ_of hK
    simp only [laws_eqIntS.l0]
    rw [if_neg (by omega)]
  | succ d ih =>
    intro K i hi hK
    obtain ⟨K, rfl⟩ := succ_of hK
    simp only [laws_eqIntS.l0]
    rw [if_pos (by omega), if_pos (by omega), if_pos (by omega), if_true, wr _ (by omega) (by omega), show ((i : Int) + 1) = ((i + 1 : Nat) : Int) by omega]
    exact ih K (i + 1) (by omega) (by omega)
theorem eqI_f (l : List Int) (K : Nat) (h : l.length < 1000000000) (hK : l.length < K) : laws_eqIntS.f K l l = some true := by
  have := eqI_l0 l h l.length K 0 (by omega) hK
  unfold laws_eqIntS.f
  rw [if_pos rfl]
  simpa using this

-- snippet markint
/-! marks laid in a list of ints -/
def mkI (c : Nat) : Nat → List Int
  | 0 => []
  | n + 1 => (c : Int) :: mkI (c + 1) n
theorem mkI_len : ∀ (n c : Nat), (mkI c n).length = n
  | 0, _ => rfl
  | n + 1, c => by simp only [mkI, List.length_cons, mkI_len n]
theorem markI_l0 : ∀ (rest done : List Int) (K c : Nat), done.length + rest.length < 1000000000 → c + rest.length < 1000000000 → rest.length < K →
    laws_markIntS.l0 K (done ++ rest) c done.length = some (((c + rest.length : Nat) : Int), done ++ mkI c rest.length)
  | [], done, K, c, h, h1, hK => by
    obtain ⟨K, rfl⟩ := succ_of hK
    simp only [laws_markIntS.l0]
    rw [if_neg (by simp)]
    simp [mkI]
  | x :: rest, done, K, c, h, h1, hK => by
    simp only [List.length_cons] at h h1 hK
    obtain ⟨K, rfl⟩ := succ_of hK
    simp only [laws_markIntS.l0]
    rw [if_pos (by simp only [List.length_append, List.length_cons]; omega), if_pos (by omega), wr _ (by omega) (by omega), wr _ (by omega) (by omega), Int.toNat_natCast]
    have e : (done ++ x :: rest).set done.length (c : Int) = (done ++ [(c : Int)]) ++ rest := by simp [List.set_append]
    have := markI_l0 rest (done ++ [(c : Int)]) K (c + 1) (by simp only [List.length_append, List.length_cons, List.length_nil]; omega) (by omega) (by omega)
    rw [List.length_append] at this
    rw [e]
    rw [show ((c : Int) + 1) = ((c + 1 : Nat) : Int) by omega, show ((done.length : Int) + 1) = ((done.length + [(c : Int)].length : Nat) : Int) by simp, this]
    simp [mkI]
    omega
theorem markI_f (l : List Int) (K c : Nat) (h : l.length < 100000000) (hc : c < 100000000) (hK : l.length < K) : laws_markIntS.f K l (c : Int) = some (((c + l.length : Nat) : Int), mkI c l.length) := by
  have := markI_l0 l [] K c (by simp; omega) (by omega) (by omega)
  unfold laws_markIntS.f
  simpa using this

-- snippet acts_law
/-! acts: their size, taken over, compared, done one by one -/
def conA (x : S37) : S41 := ⟨x.f0, x.f1, x.f2, x.f3⟩
theorem rd37 (l : List S37) (j : Nat) (h : j < l.length) : rd_T37 l (j : Int) = l[j] := by unfold rd_T37; rw [Int.toNat_natCast, List.getD_eq_getElem?_getD, List.getElem?_eq_getElem h]; rfl
theorem rd41 (l : List S41) (j : Nat) (h : j < l.length) : rd_T41 l (j : Int) = l[j] := by unfold rd_T41; rw [Int.toNat_natCast, List.getD_eq_getElem?_getD, List.getElem?_eq_getElem h]; rfl
theorem szFileS_le (l : List S96) (hg : ∀ x ∈ l, good96 x) : ∀ (K : Nat) (n i r : Int), 0 ≤ n → n ≤ 1048576 → laws_szFileS.l0 K l n i = some r → r ≤ 1048576 := by
  intro K
  induction K with
  | zero => intro n i r _ _ h; cases h
  | succ K ih =>
    intro n i r n0 n1 h
    simp only [laws_szFileS.l0] at h
    by_cases c : i < (l.length : Int)
    · rw [if_pos c] at h
      by_cases d : 0 ≤ i
      · rw [if_pos d] at h
        obtain ⟨j, rfl⟩ : ∃ j : Nat, i = (j : Int) := ⟨i.toNat, by omega⟩
        have hj : j < l.length := by omega
        obtain ⟨s, e, s0, s1⟩ := szFile_ok l[j] (hg _ (List.getElem_mem _)) n n0 n1
        rw [rd96 l j hj, e, Option.bind_some] at h
        by_cases c2 : s < 0
        · rw [if_pos c2] at h; have := Option.some.inj h; omega
        · rw [if_neg c2] at h
          exact ih s _ r (by omega) (by have := s1 (by omega); omega) h
      · rw [if_neg d] at h; cases h
    · rw [if_neg c] at h; have := Option.some.inj h; omega
theorem szDisk_le (l : List S96) (hl : l.length ≤ 9223372036854775807) (hg : ∀ x ∈ l, good96 x) (K : Nat) (r : Int) (h : laws_szDisk.f K l 1048576 = some r) : r ≤ 1048576 := by
  unfold laws_szDisk.f laws_szFileS.f at h
  have w : wrap64 (1048576 - (l.length : Int)) = 1048576 - (l.length : Int) := wr _ (by omega) (by omega)
  rw [w] at h
  by_cases c : 1048576 - (l.length : Int) < 0
  · rw [if_pos c, Option.bind_some, if_pos (by omega)] at h; have := Option.some.inj h; omega
  · rw [if_neg c] at h
    cases e : laws_szFileS.l0 K l (1048576 - (l.length : Int)) 0 with
    | none => rw [e] at h; cases h
    | some s =>
      rw [e, Option.bind_some] at h
      have := szFileS_le l hg K _ _ s (by omega) (by omega) e
      by_cases d : s < 0
      · rw [if_pos d] at h; have := Option.some.inj h; omega
      · rw [if_neg d] at h; have := Option.some.inj h; omega
theorem szAct_ok (x : S37) (hx : good37 x) (n : Int) (n0 : 0 ≤ n) (n1 : n ≤ 1048576) : ∃ r, laws_szAct.f x.f0 x.f1 x.f2 x.f3 n = some r ∧ -1 ≤ r ∧ (0 ≤ r → r ≤ n ∧ (x.f2.size : Int) ≤ n) := by
  obtain ⟨h0, h1, h2, h3⟩ := hx
  unfold laws_szAct.f
  rw [wr (n - (x.f1.size : Int)) (by omega) (by omega)]
  by_cases c : n - (x.f1.size : Int) < 0
  · rw [if_pos c]; exact ⟨-1, rfl, by omega, by omega⟩
  · rw [if_neg c, wr (n - (x.f1.size : Int) - (x.f2.size : Int)) (by omega) (by omega)]
    by_cases d : n - (x.f1.size : Int) - (x.f2.size : Int) < 0
    · rw [if_pos d]; exact ⟨-1, rfl, by omega, by omega⟩
    · rw [if_neg d, wr (n - (x.f1.size : Int) - (x.f2.size : Int) - (x.f3.size : Int)) (by omega) (by omega)]
      by_cases e : n - (x.f1.size : Int) - (x.f2.size : Int) - (x.f3.size : Int) < 0
      · rw [if_pos e]; exact ⟨-1, rfl, by omega, by omega⟩
      · rw [if_neg e]; exact ⟨_, rfl, by omega, by omega⟩

-- snippet acts_list
/-! lists of acts -/
theorem szActS_l0 (l : List S37) (hl : l.length < 1000000000) (hg : ∀ x ∈ l, good37 x) : ∀ (d i : Nat) (n : Int), i + d = l.length → 0 ≤ n → n ≤ 1048576 → ∃ r, -1 ≤ r ∧ (0 ≤ r → ∀ x ∈ l.drop i, (x.f2.size : Int) ≤ n) ∧ ∀ K, d < K → laws_szActS.l0 K l n i = some r := by
  intro d
  induction d with
  | zero =>
    intro i n hi n0 n1
    refine ⟨n, by omega, fun _ x hx => ?_, fun K hK => ?_⟩
    · rw [List.drop_eq_nil_of_le (by omega)] at hx; cases hx
    · obtain ⟨K, rfl⟩ := succ_of hK
      rw [laws_szActS.l0, if_neg (by omega)]
  | succ d ih =>
    intro i n hi n0 n1
    have il : i < l.length := by omega
    obtain ⟨r, e, r0, r1⟩ := szAct_ok l[i] (hg _ (List.getElem_mem _)) n n0 n1
    have w : wrap64 ((i : Int) + 1) = ((i + 1 : Nat) : Int) := wrn _ (by omega) (by omega)
    by_cases c : r < 0
    · refine ⟨-1, by omega, by omega, fun K hK => ?_⟩
      obtain ⟨K, rfl⟩ := succ_of hK
      rw [laws_szActS.l0, if_pos (by omega), if_pos (by omega), rd37 l i il, e, Option.bind_some, if_pos c]
    · obtain ⟨q0, q1⟩ := r1 (by omega)
      obtain ⟨s, s0, s1, s2⟩ := ih (i + 1) r (by omega) (by omega) (by omega)
      refine ⟨s, s0, fun h x hx => ?_, fun K hK => ?_⟩
      · rw [List.drop_eq_getElem_cons il] at hx
        rcases List.mem_cons.1 hx with h' | h'
        · rw [h']; exact q1
        · have := s1 h x h'
          omega
      · obtain ⟨K, rfl⟩ := succ_of hK
        rw [laws_szActS.l0, if_pos (by omega), if_pos (by omega), rd37 l i il, e, Option.bind_some, if_neg c, w]
        exact s2 K (by omega)
theorem szActS_ok (l : List S37) (hl : l.length ≤ 9223372036854775807) (hg : ∀ x ∈ l, good37 x) (n : Int) (n0 : 0 ≤ n) (n1 : n ≤ 1048576) : ∃ r, -1 ≤ r ∧ (0 ≤ r → l.length ≤ 1048576 ∧ ∀ x ∈ l, (x.f2.size : Int) ≤ 1048576) ∧ ∀ K, 1048577 ≤ K → laws_szActS.f K l n = some r := by
  have w : wrap64 (n - (l.length : Int)) = n - (l.length : Int) := wr _ (by omega) (by omega)
  by_cases c : n - (l.length : Int) < 0
  · refine ⟨-1, by omega, by omega, fun K hK => ?_⟩
    unfold laws_szActS.f
    rw [w, if_pos c]
  · obtain ⟨r, r0, r1, r2⟩ := szActS_l0 l (by omega) hg l.length 0 (n - (l.length : Int)) (by omega) (by omega) (by omega)
    refine ⟨r, r0, fun h => ⟨by omega, fun x hx => ?_⟩, fun K hK => ?_⟩
    · have := r1 h x (by rw [List.drop_zero]; exact hx)
      omega
    · unfold laws_szActS.f
      rw [w, if_neg c, show (0 : Int) = ((0 : Nat) : Int) from rfl, r2 K (by omega)]
theorem toActS_l0 (x : List S37) (h : x.length < 1000000000) : ∀ (d K j : Nat) (y : List S41), j + d = x.length → d < K → y.length = x.length → laws_toActS.l0 K x y j = some (y.take j ++ (x.drop j).map conA) := by
  intro d
  induction d with
  | zero =>
    intro K j y hj hK hy
    obtain ⟨K, rfl⟩ := succ_of hK
    rw [laws_toActS.l0, if_neg (show ¬ (j : Int) < (x.length : Int) by omega), List.take_of_length_le (by omega), List.drop_eq_nil_of_le (by omega)]
    simp
  | succ d ih =>
    intro K j y hj hK hy
    obtain ⟨K, rfl⟩ := succ_of hK
    have hjx : j < x.length := by omega
    have w : wrap64 ((j : Int) + 1) = ((j + 1 : Nat) : Int) := wrn _ (by omega) (by omega)
    have t : (y.set j (conA x[j])).take (j + 1) = y.take j ++ [conA x[j]] := by
      rw [List.take_set, List.take_succ_eq_append_getElem (show j < y.length by omega), List.set_append_right _ _ (by simp; omega)]
      simp [show min j y.length = j by omega]
    rw [laws_toActS.l0, if_pos (show (j : Int) < (x.length : Int) by omega), if_pos (show 0 ≤ (j : Int) by omega), rd37 x j hjx]
    unfold laws_toAct.f
    rw [Option.bind_some, if_pos (show (j : Int) < (y.length : Int) by omega), w, Int.toNat_natCast]
    have q := ih K (j + 1) (y.set j (conA x[j])) (by omega) (by omega) (by rw [List.length_set]; exact hy)
    rw [t, List.append_assoc] at q
    rw [List.drop_eq_getElem_cons hjx, List.map_cons]
    exact q
theorem toActS_f (x : List S37) (K : Nat) (h : x.length ≤ 1048576) (hK : 1048577 ≤ K) : laws_toActS.f K x = some (x.map conA) := by
  have := toActS_l0 x (by omega) x.length K 0 (List.replicate x.length z41) (by omega) (by omega) (by simp)
  unfold laws_toActS.f
  rw [if_pos (show 0 ≤ (x.length : Int) by omega), Int.toNat_natCast, if_pos (by omega), show (0 : Int) = ((0 : Nat) : Int) from rfl, this]
  simp
theorem eqAct_same (x : S41) : laws_eqAct.f x.f0 x.f1 x.f2 x.f3 x.f0 x.f1 x.f2 x.f3 = some true := by
  unfold laws_eqAct.f
  rw [if_pos rfl, if_pos rfl, if_pos rfl, if_pos rfl]
theorem eqActS_l0 (l : List S41) (h : l.length < 1000000000) : ∀ (d K i : Nat), i + d = l.length → d < K → laws_eqActS.l0 K l l i = some true := by
  intro d
  induction d with
  | zero =>
    intro K i hi hK
    obtain ⟨K, rfl⟩ := succ_of hK
    rw [laws_eqActS.l0, if_neg (by omega)]
  | succ d ih =>
    intro K i hi hK
    obtain ⟨K, rfl⟩ := succ_of hK
    have w : wrap64 ((i : Int) + 1) = ((i + 1 : Nat) : Int) := wrn _ (by omega) (by omega)
    rw [laws_eqActS.l0, if_pos (by omega), if_pos (by omega), if_pos (by omega), eqAct_same, Option.bind_some, if_pos rfl, w]
    exact ih K (i + 1) (by omega) (by omega)
theorem eqActS_same (l : List S41) (K : Nat) (h : l.length ≤ 1048576) (hK : 1048577 ≤ K) : laws_eqActS.f K l l = some true := by
  have := eqActS_l0 l (by omega) l.length K 0 (by omega) (by omega)
  unfold laws_eqActS.f
  rw [if_pos rfl, show (0 : Int) = ((0 : Nat) : Int) from rfl, this]
theorem markA_l0 : ∀ (d K c i : Nat) (x : List S41), i + d = x.length → x.length < 1000000000 → c + 4 * d < 1000000000 → c + 5 * d + 5 ≤ K → ∃ y, laws_markActS.l0 K x c i = some (((c + 4 * d : Nat) : Int), y) := by
  intro d
  induction d with
  | zero =>
    intro K c i x hi hx hc hK
    obtain ⟨K, rfl⟩ : ∃ m, K = m + 1 := ⟨K - 1, by omega⟩
    simp only [laws_markActS.l0]
    rw [if_neg (by omega)]
    exact ⟨_, rfl⟩
  | succ d ih =>
    intro K c i x hi hx hc hK
    obtain ⟨K, rfl⟩ : ∃ m, K = m + 1 := ⟨K - 1, by omega⟩
    simp only [laws_markActS.l0]
    have w1 : wrap64 ((c : Int) + 1) = ((c + 1 : Nat) : Int) := wrn _ (by omega) (by omega)
    have w2 : wrap64 (((c + 1 : Nat) : Int) + 1) = ((c + 2 : Nat) : Int) := wrn _ (by omega) (by omega)
    have w3 : wrap64 (((c + 2 : Nat) : Int) + 1) = ((c + 3 : Nat) : Int) := wrn _ (by omega) (by omega)
    have w4 : wrap64 (((c + 3 : Nat) : Int) + 1) = ((c + 4 : Nat) : Int) := wrn _ (by omega) (by omega)
    have w5 : wrap64 ((i : Int) + 1) = ((i + 1 : Nat) : Int) := wrn _ (by omega) (by omega)
    rw [w1, w2, w3, w4, w5, if_pos (by omega), if_pos (by omega)]
    simp only [Option.bind_some, mt_of (c + 1) K (by omega) (by omega), mt_of (c + 2) K (by omega) (by omega), mt_of (c + 3) K (by omega) (by omega)]
    obtain ⟨y, hy⟩ := ih K (c + 4) (i + 1) (((((x.set (i : Int).toNat (⟨(c : Int), (rd_T41 x i).f1, (rd_T41 x i).f2, (rd_T41 x i).f3⟩ : S41)))))) (by rw [List.length_set]; omega) (by rw [List.length_set]; omega) (by omega) (by omega)
    have g : ∀ z : List S41, z.length = x.length → ∃ y, laws_markActS.l0 K z ((c + 4 : Nat) : Int) ((i + 1 : Nat) : Int) = some (((c + 4 * (d + 1) : Nat) : Int), y) := fun z hz => by
      obtain ⟨y, hy⟩ := ih K (c + 4) (i + 1) z (by omega) (by omega) (by omega) (by omega)
      exact ⟨y, by rw [hy, show c + 4 + 4 * d = c + 4 * (d + 1) by omega]⟩
    exact g _ (by simp only [List.length_set])
theorem markA_f (l : List S41) (K c : Nat) (h : l.length ≤ 2000000) (hc : c ≤ 10000000) (hK : 50000000 ≤ K) : ∃ y, laws_markActS.f K l c = some (((c + 4 * l.length : Nat) : Int), y) := by
  obtain ⟨y, hy⟩ := markA_l0 l.length K c 0 l (by omega) (by omega) (by omega) (by omega)
  exact ⟨y, by unfold laws_markActS.f; rw [show (0 : Int) = ((0 : Nat) : Int) from rfl, hy]⟩

-- snippet acts_do
/-! acts done one by one -/
theorem fin_len (L : List S67) (h : (finD L).2 = true) : (finD L).1.length ≤ 30 := by
  unfold finD at h ⊢
  split at h
  · rename_i c
    rw [if_pos c]
    exact okD_len L c
  · cases h
theorem doA_or (l : List S67) (ki : Int) (an at_ ao : ByteArray) : doA l ki an at_ ao = ([], false) ∨ ∃ L, doA l ki an at_ ao = finD L := by
  unfold doA
  repeat' split
  all_goals first | exact Or.inl rfl | exact Or.inr ⟨_, rfl⟩
theorem doA_len (l : List S67) (ki : Int) (an at_ ao : ByteArray) (h : (doA l ki an at_ ao).2 = true) : (doA l ki an at_ ao).1.length ≤ 30 := by
  rcases doA_or l ki an at_ ao with e | ⟨L, e⟩
  · rw [e] at h; cases h
  · rw [e] at h ⊢; exact fin_len L h
def doAs (l : List S41) : Nat → Nat → List S67 → List S67 × Int
  | 0, _, xs => (xs, (l.length : Int))
  | d + 1, i, xs => if (doA xs (rd_T41 l i).f0 (rd_T41 l i).f1 (rd_T41 l i).f2 (rd_T41 l i).f3).2 = true then doAs l d (i + 1) (doA xs (rd_T41 l i).f0 (rd_T41 l i).f1 (rd_T41 l i).f2 (rd_T41 l i).f3).1 else (xs, (i : Int))
theorem doAs_len (l : List S41) (M : Nat) (hM : 30 ≤ M) : ∀ (d i : Nat) (xs : List S67), xs.length ≤ M → (doAs l d i xs).1.length ≤ M
  | 0, _, xs, h => h
  | d + 1, i, xs, h => by
    unfold doAs
    split
    · rename_i c
      exact doAs_len l M hM d (i + 1) _ (Nat.le_trans (doA_len _ _ _ _ _ c) hM)
    · exact h
theorem sdo_l0 (l : List S41) (hl : l.length < 1000000000) (hs : ∀ x ∈ l, x.f2.size ≤ 1048576) : ∀ (d i K : Nat) (xs : List S67), i + d = l.length → d < K → xs.length ≤ 2000000 → spec_DoActs.l0 K l i xs = some (doAs l d i xs) := by
  intro d
  induction d with
  | zero =>
    intro i K xs hi hK hx
    obtain ⟨K, rfl⟩ := succ_of hK
    simp only [spec_DoActs.l0, doAs]
    rw [if_neg (by omega)]
  | succ d ih =>
    intro i K xs hi hK hx
    obtain ⟨K, rfl⟩ := succ_of hK
    have il : i < l.length := by omega
    have w : wrap64 ((i : Int) + 1) = ((i + 1 : Nat) : Int) := wrn _ (by omega) (by omega)
    have hz : (rd_T41 l i).f2.size ≤ 1048576 := by rw [rd41 l i il]; exact hs _ (List.getElem_mem _)
    simp only [spec_DoActs.l0, doAs]
    rw [if_pos (by omega), if_pos (by omega), w]
    unfold spec_DoAct.f
    rw [if_pos ⟨hx, by omega⟩, Option.bind_some]
    by_cases c : (doA xs (rd_T41 l i).f0 (rd_T41 l i).f1 (rd_T41 l i).f2 (rd_T41 l i).f3).2 = true
    · rw [if_pos c, if_pos c]
      exact ih (i + 1) K _ (by omega) (by omega) (by have := doA_len _ _ _ _ _ c; omega)
    · rw [if_neg c, if_neg c]
theorem sdo_f (l0 : List S67) (l : List S41) (h0 : l0.length ≤ 1048576) (hl : l.length ≤ 1048576) (hs : ∀ x ∈ l, x.f2.size ≤ 1048576) (K : Nat) (hK : 1048577 ≤ K) : spec_DoActs.f K l0 l = some (doAs l l.length 0 l0) := by
  unfold spec_DoActs.f
  rw [Option.bind_some, if_pos (by simp only [List.length_nil]; omega), List.nil_append, show (0 : Int) = ((0 : Nat) : Int) from rfl]
  exact sdo_l0 l (by omega) hs l.length 0 K l0 (by omega) (by omega) (by omega)
theorem ido_l0 (l : List S41) (hl : l.length < 1000000000) (hs : ∀ x ∈ l, x.f2.size ≤ 1048576) : ∀ (d i K : Nat) (xs : List S67), i + d = l.length → d < K → xs.length ≤ 2000000 → impl_DoActs.l0 K l l (l.length : Int) i xs = some (doAs l d i xs) := by
  intro d
  induction d with
  | zero =>
    intro i K xs hi hK hx
    obtain ⟨K, rfl⟩ := succ_of hK
    simp only [impl_DoActs.l0, doAs]
    rw [if_neg (by omega)]
  | succ d ih =>
    intro i K xs hi hK hx
    obtain ⟨K, rfl⟩ := succ_of hK
    have il : i < l.length := by omega
    have w : wrap64 ((i : Int) + 1) = ((i + 1 : Nat) : Int) := wrn _ (by omega) (by omega)
    have hz : (rd_T41 l i).f2.size ≤ 1048576 := by rw [rd41 l i il]; exact hs _ (List.getElem_mem _)
    simp only [impl_DoActs.l0, doAs]
    rw [if_pos (by omega), if_pos (by omega), if_pos (by omega), w]
    unfold impl_DoAct.f
    rw [if_pos ⟨hx, by omega⟩, Option.bind_some]
    by_cases c : (doA xs (rd_T41 l i).f0 (rd_T41 l i).f1 (rd_T41 l i).f2 (rd_T41 l i).f3).2 = true
    · rw [if_pos c, if_pos c]
      exact ih (i + 1) K _ (by omega) (by omega) (by have := doA_len _ _ _ _ _ c; omega)
    · rw [if_neg c, if_neg c]
theorem ido_f (l0 : List S67) (l : List S41) (h0 : l0.length ≤ 1048576) (hl : l.length ≤ 1048576) (hs : ∀ x ∈ l, x.f2.size ≤ 1048576) (K : Nat) (hK : 1048577 ≤ K) : impl_DoActs.f K l0 l = some (doAs l l.length 0 l0) := by
  unfold impl_DoActs.f impl_copyDisk.f
  rw [if_pos (by omega), Option.bind_some, show (0 : Int) = ((0 : Nat) : Int) from rfl]
  exact ido_l0 l (by omega) hs l.length 0 K l0 (by omega) (by omega) (by omega)

-- snippet losed
/-! what is left of a disk, by the reference -/
def lsUp (l1 : List Int) (xs : List S67) (i : Nat) : List S67 := (List.range i).map (fun j => ls1 l1 j (xs.getD j z67))
theorem lsUp_succ (l1 : List Int) (xs : List S67) (i : Nat) : lsUp l1 xs (i + 1) = lsUp l1 xs i ++ [ls1 l1 i (xs.getD i z67)] := by unfold lsUp; rw [List.range_succ, List.map_append]; rfl
theorem lsUp_len (l1 : List Int) (xs : List S67) (i : Nat) : (lsUp l1 xs i).length = i := by unfold lsUp; rw [List.length_map, List.length_range]
theorem lsTo_up (l1 : List Int) (xs : List S67) : ∀ i, i ≤ xs.length → lsTo l1 xs i = lsUp l1 xs i ++ xs.drop i
  | 0, _ => rfl
  | i + 1, h => by
    show (lsTo l1 xs i).set i _ = _
    rw [lsTo_up l1 xs i (by omega), lsUp_succ, List.drop_eq_getElem_cons (show i < xs.length by omega), List.set_append_right _ _ (by rw [lsUp_len]; exact Nat.le_refl _), lsUp_len, Nat.sub_self, List.set_cons_zero, List.append_assoc]
    rfl
theorem loseD_up (l1 : List Int) (xs : List S67) : loseD xs l1 = lsUp l1 xs xs.length := by
  unfold loseD
  rw [lsTo_up l1 xs _ (Nat.le_refl _), List.drop_eq_nil_of_le (Nat.le_refl _), List.append_nil]
theorem loseD_len (l1 : List Int) (xs : List S67) : (loseD xs l1).length = xs.length := by rw [loseD_up, lsUp_len]
theorem extract_all (s : ByteArray) : s.extract 0 s.size = s := by simp
theorem lose_j1 (l1 : List Int) (l out : List S67) (i : Nat) (q : Int) (x : S67) (K : Nat) (h0 : 0 ≤ x.f2) (h1 : x.f2 ≤ (x.f1.size : Int)) (ho : out.length < 3518437208883) (hi : i < 1000000000) (hq : ls1 l1 i x = ⟨x.f0, x.f1.extract 0 (if q > (x.f1.size : Int) then (x.f1.size : Int) else if q < x.f2 then x.f2 else q).toNat, (if q > (x.f1.size : Int) then (x.f1.size : Int) else if q < x.f2 then x.f2 else q)⟩) :
    spec_LoseDisk.j1 (K + 1) l1 (i : Int) q l out x.f0 x.f1 x.f2 = spec_LoseDisk.l0 K l1 ((i + 1 : Nat) : Int) l (out ++ [ls1 l1 i x]) := by
  have w : wrap64 ((i : Int) + 1) = ((i + 1 : Nat) : Int) := wrn _ (by omega) (by omega)
  simp only [spec_LoseDisk.j1]
  rw [w]
  by_cases c : q > (x.f1.size : Int)
  · rw [if_pos c] at hq ⊢
    rw [if_neg (show ¬ (x.f1.size : Int) < x.f2 by omega), if_pos (by omega), if_pos (by omega), if_pos ho, hq, Int.toNat_natCast, extract_all]
  · rw [if_neg c] at hq ⊢
    by_cases d : q < x.f2
    · rw [if_pos d] at hq ⊢
      rw [if_pos h0, if_pos h1, if_pos ho, hq]
    · rw [if_neg d] at hq ⊢
      rw [if_pos (by omega), if_pos (by omega), if_pos ho, hq]
theorem lose_l0 (l : List S67) (l1 : List Int) (hok : okD l = true) : ∀ (d i K : Nat), i + d = l.length → 2 * d < K → spec_LoseDisk.l0 K l1 (i : Int) l (lsUp l1 l i) = some (lsUp l1 l l.length, true) := by
  have hl := okD_len l hok
  intro d
  induction d with
  | zero =>
    intro i K hi hK
    obtain ⟨K, rfl⟩ : ∃ m, K = m + 1 := ⟨K - 1, by omega⟩
    simp only [spec_LoseDisk.l0]
    rw [if_neg (by omega), show i = l.length by omega]
  | succ d ih =>
    intro i K hi hK
    obtain ⟨K, rfl⟩ : ∃ m, K = m + 2 := ⟨K - 2, by omega⟩
    obtain ⟨h0, h1, h2⟩ := okD_get l hok i (by omega)
    have hrd : rd_T67 l (i : Int) = l.getD i z67 := by unfold rd_T67; rw [Int.toNat_natCast]
    simp only [spec_LoseDisk.l0]
    rw [if_pos (by omega), if_pos (by omega), hrd]
    have hup := lsUp_succ l1 l i
    have hn : ∀ q : Int, lsN l1 i (l.getD i z67) = (if q > ((l.getD i z67).f1.size : Int) then ((l.getD i z67).f1.size : Int) else if q < (l.getD i z67).f2 then (l.getD i z67).f2 else q) → spec_LoseDisk.j1 (K + 1) l1 (i : Int) q l (lsUp l1 l i) (l.getD i z67).f0 (l.getD i z67).f1 (l.getD i z67).f2 = some (lsUp l1 l l.length, true) := fun q hq => by
      rw [lose_j1 l1 l _ i q (l.getD i z67) K h0 h1 (by rw [lsUp_len]; omega) (by omega) (by unfold ls1; rw [hq]), ← hup]
      exact ih (i + 1) K (by omega) (by omega)
    by_cases c : (i : Int) < (l1.length : Int)
    · rw [if_pos c]
      refine hn _ ?_
      unfold lsN rd
      rw [if_pos (by omega), Int.toNat_natCast]
      generalize l1.getD i 0 = q
      unfold mx mn
      (repeat' split) <;> omega
    · rw [if_neg c]
      refine hn _ ?_
      unfold lsN
      rw [if_neg (by omega)]
      unfold mx
      (repeat' split) <;> omega
theorem spec_lose_f (l : List S67) (l1 : List Int) (K : Nat) (hl : l.length ≤ 1000000000) (hK : 100 ≤ K) : spec_LoseDisk.f K l l1 = some (if okD l = true then loseD l l1 else [], okD l) := by
  unfold spec_LoseDisk.f spec_DiskOk.f
  rw [if_pos hl, Option.bind_some]
  by_cases c : okD l = true
  · rw [if_pos c, if_pos c]
    have h30 := okD_len l c
    have := lose_l0 l l1 c l.length 0 K (by omega) (by omega)
    rw [show (0 : Int) = ((0 : Nat) : Int) from rfl, loseD_up, c]
    exact this
  · rw [if_neg c, if_neg c]
    rw [Bool.not_eq_true] at c
    rw [c]
theorem impl_lose_f (l : List S67) (l1 : List Int) (hl : l.length ≤ 1000000000) : impl_LoseDisk.f l l1 = some (if okD l = true then loseD l l1 else [], okD l) := by
  unfold impl_LoseDisk.f
  rw [if_pos hl]

def cutA (l0 : List S67) (l1 : List S41) (a2 : Int) (l3 : List Int) : List S67 × Bool :=
  if 0 ≤ a2 ∧ a2 ≤ (l1.length : Int) then
    (if (doAs (l1.take a2.toNat) (l1.take a2.toNat).length 0 l0).2 < a2 then ([], false)
     else (if okD (doAs (l1.take a2.toNat) (l1.take a2.toNat).length 0 l0).1 = true then loseD (doAs (l1.take a2.toNat) (l1.take a2.toNat).length 0 l0).1 l3 else [], okD (doAs (l1.take a2.toNat) (l1.take a2.toNat).length 0 l0).1))
  else ([], false)
theorem take_s (l : List S41) (n : Nat) (h : l.length ≤ 1048576) (hs : ∀ x ∈ l, x.f2.size ≤ 1048576) : (l.take n).length ≤ 1048576 ∧ ∀ x ∈ l.take n, x.f2.size ≤ 1048576 :=
  ⟨by rw [List.length_take]; omega, fun x hx => hs x (List.mem_of_mem_take hx)⟩
theorem scut_f (l0 : List S67) (l1 : List S41) (a2 : Int) (l3 : List Int) (h0 : l0.length ≤ 1048576) (h1 : l1.length ≤ 1048576) (hs : ∀ x ∈ l1, x.f2.size ≤ 1048576) (K : Nat) (hK : 1048577 ≤ K) : spec_CutActs.f K l0 l1 a2 l3 = some (cutA l0 l1 a2 l3) := by
  obtain ⟨t1, t2⟩ := take_s l1 a2.toNat h1 hs
  have lr := doAs_len (l1.take a2.toNat) 1048576 (by omega) (l1.take a2.toNat).length 0 l0 h0
  unfold spec_CutActs.f spec_l01In.f cutA
  by_cases c : a2 ≥ 0
  · rw [if_pos c, Option.bind_some]
    by_cases d : a2 ≤ (l1.length : Int)
    · rw [decide_eq_true d, if_pos rfl, if_pos (show 0 ≤ a2 from c), if_pos d, if_pos ⟨c, d⟩, sdo_f l0 _ h0 t1 t2 K hK, Option.bind_some]
      generalize doAs (l1.take a2.toNat) (l1.take a2.toNat).length 0 l0 = Q at lr ⊢
      by_cases e : Q.2 < a2
      · rw [if_pos e, if_pos e]
      · rw [if_neg e, if_neg e, spec_lose_f Q.1 l3 K (by omega) (by omega), Option.bind_some]
    · rw [decide_eq_false d, if_neg (by decide), if_neg (fun h => d h.2)]
  · rw [if_neg c, Option.bind_some, if_neg (by decide), if_neg (fun h => c h.1)]
theorem icut_f (l0 : List S67) (l1 : List S41) (a2 : Int) (l3 : List Int) (h0 : l0.length ≤ 1048576) (h1 : l1.length ≤ 1048576) (hs : ∀ x ∈ l1, x.f2.size ≤ 1048576) (K : Nat) (hK : 1048577 ≤ K) : impl_CutActs.f K l0 l1 a2 l3 = some (cutA l0 l1 a2 l3) := by
  obtain ⟨t1, t2⟩ := take_s l1 a2.toNat h1 hs
  have lr := doAs_len (l1.take a2.toNat) 1048576 (by omega) (l1.take a2.toNat).length 0 l0 h0
  unfold impl_CutActs.f impl_in.f cutA
  by_cases c : a2 ≥ 0
  · rw [if_pos c, Option.bind_some]
    by_cases d : a2 ≤ (l1.length : Int)
    · rw [decide_eq_true d, if_pos rfl, if_pos (show 0 ≤ a2 from c), if_pos d, if_pos ⟨c, d⟩, ido_f l0 _ h0 t1 t2 K hK, Option.bind_some]
      generalize doAs (l1.take a2.toNat) (l1.take a2.toNat).length 0 l0 = Q at lr ⊢
      by_cases e : Q.2 < a2
      · rw [if_pos e, if_pos e]
      · rw [if_neg e, if_neg e, impl_lose_f Q.1 l3 (by omega), Option.bind_some]
    · rw [decide_eq_false d, if_neg (by decide), if_neg (fun h => d h.2)]
  · rw [if_neg c, Option.bind_some, if_neg (by decide), if_neg (fun h => c h.1)]
theorem cutA_len (l0 : List S67) (l1 : List S41) (a2 : Int) (l3 : List Int) (h0 : l0.length ≤ 1048576) : (cutA l0 l1 a2 l3).1.length ≤ 1048576 := by
  have lr := doAs_len (l1.take a2.toNat) 1048576 (by omega) (l1.take a2.toNat).length 0 l0 h0
  unfold cutA
  split
  · split
    · simp
    · show (if okD _ = true then loseD _ l3 else []).length ≤ 1048576
      split
      · rw [loseD_len]; exact lr
      · simp
  · simp
theorem FnExactCutActs : laws_FnExactCutActs.Pure := by
  intro l l1 a2 l3 hl hg hl1 hg1 ha2 hl3 hg3
  obtain ⟨K, hK⟩ : ∃ K : Nat, K = 100000000 := ⟨_, rfl⟩
  refine ⟨K + 4, ?_⟩
  unfold laws_FnExactCutActs.f
  by_cases h : (l3.length : Int) > 1048576
  · rw [if_pos h]
  · obtain ⟨r, r0, r1, r2⟩ := szDisk_ok l hl hg
    have r3 := szDisk_le l hl hg _ r (r2 (K + 4) (by omega))
    rw [if_neg h, r2 _ (by omega), Option.bind_some]
    by_cases c : r < 0
    · rw [if_pos c]
    · obtain ⟨q1, q2⟩ := r1 (by omega)
      obtain ⟨s, s0, s1, s2⟩ := szActS_ok l1 hl1 hg1 r (by omega) (by omega)
      rw [if_neg c, s2 _ (by omega), Option.bind_some]
      by_cases d : s < 0
      · rw [if_pos d]
      · obtain ⟨p1, p2⟩ := s1 (by omega)
        have lm : (l.map conv).length ≤ 1048576 := by rw [List.length_map]; exact q1
        have la : (l1.map conA).length ≤ 1048576 := by rw [List.length_map]; exact p1
        have hs : ∀ x ∈ l1.map conA, x.f2.size ≤ 1048576 := fun x hx => by
          obtain ⟨y, hy, e⟩ := List.mem_map.1 hx
          have := p2 y hy
          rw [← e]
          show y.f2.size ≤ 1048576
          omega
        have tD : ∀ k, K ≤ k → laws_toDisk.f k l = some (l.map conv) := fun k hk => toDisk_f l _ q1 (by omega)
        have tA : ∀ k, K ≤ k → laws_toActS.f k l1 = some (l1.map conA) := fun k hk => toActS_f l1 _ p1 (by omega)
        have tI : ∀ k, K ≤ k → laws_toIntS.f k l3 = some l3 := fun k hk => toInt_f l3 _ (by omega) (by omega)
        have fS : ∀ k, K ≤ k → spec_CutActs.f k (l.map conv) (l1.map conA) a2 l3 = some (cutA (l.map conv) (l1.map conA) a2 l3) := fun k hk => scut_f _ _ a2 l3 lm la hs k (by omega)
        have fI : ∀ k, K ≤ k → impl_CutActs.f k (l.map conv) (l1.map conA) a2 l3 = some (cutA (l.map conv) (l1.map conA) a2 l3) := fun k hk => icut_f _ _ a2 l3 lm la hs k (by omega)
        have lr := cutA_len (l.map conv) (l1.map conA) a2 l3 lm
        rw [if_neg d, tD _ (by omega), Option.bind_some, tA _ (by omega), Option.bind_some, tI _ (by omega), Option.bind_some, fS _ (by omega), Option.bind_some, Option.bind_some, Option.bind_some, Option.bind_some, fI _ (by omega), Option.bind_some]
        generalize cutA (l.map conv) (l1.map conA) a2 l3 = Q at lr fI ⊢
        obtain ⟨R, B⟩ := Q
        simp only [] at lr ⊢
        have bb : (B != B) = false := by simp
        have n1 : laws_markDisk.f (K + 3) (l.map conv) 1 = some (((1 + 3 * (l.map conv).length : Nat) : Int), mkD 1 (l.map conv).length) := markD_f _ _ (by omega) (by omega)
        obtain ⟨y, n2⟩ := markA_f (l1.map conA) (K + 3) (1 + 3 * (l.map conv).length) (by omega) (by omega) (by omega)
        have n5 : laws_markIntS.f (K + 3) l3 ((1 + 3 * (l.map conv).length + 4 * (l1.map conA).length : Nat) : Int) = some (((1 + 3 * (l.map conv).length + 4 * (l1.map conA).length + l3.length : Nat) : Int), mkI (1 + 3 * (l.map conv).length + 4 * (l1.map conA).length) l3.length) := markI_f l3 _ _ (by omega) (by omega) (by omega)
        have n3 : laws_markDisk.f (K + 2) R 1 = some (((1 + 3 * R.length : Nat) : Int), mkD 1 R.length) := markD_f _ _ (by omega) (by omega)
        have n4 : ∀ k, K ≤ k → laws_heldDisk.f k (mkD 1 R.length) 1 = some ((1 + 3 * R.length : Nat) : Int) := fun k hk => heldD_f _ _ (by omega) (by omega)
        have q3 : ¬ ((1 + 3 * R.length : Nat) : Int) < 0 := by omega
        have q4 : ¬ ((1 + 3 * (l.map conv).length + 4 * (l1.map conA).length + l3.length : Nat) : Int) < 0 := by omega
        rw [eqDisk_same _ _ lr (by omega), Option.bind_some, if_pos rfl, bb]
        simp only [laws_FnExactCutActs.j0, Bool.false_eq_true, if_false]
        rw [tD _ (by omega), Option.bind_some, eqDisk_same _ _ lm (by omega), Option.bind_some, if_pos rfl, tA _ (by omega), Option.bind_some, eqActS_same _ _ la (by omega), Option.bind_some, if_pos rfl, tI _ (by omega), Option.bind_some, eqI_f _ _ (by omega) (by omega), Option.bind_some, if_pos rfl, n1, Option.bind_some]
        simp only []
        rw [n2, Option.bind_some]
        simp only []
        rw [n5, Option.bind_some]
        simp only []
        rw [if_neg q4, eqDisk_same _ _ lr (by omega), Option.bind_some, if_pos rfl, bb]
        simp only [laws_FnExactCutActs.j1, Bool.false_eq_true, if_false]
        rw [n3, Option.bind_some]
        simp only []
        rw [n4 _ (by omega), Option.bind_some, if_neg q3, if_pos rfl, tD _ (by omega), Option.bind_some, tA _ (by omega), Option.bind_some, tI _ (by omega), Option.bind_some, fI _ (by omega), Option.bind_some]
        simp only []
        rw [eqDisk_same _ _ lr (by omega), Option.bind_some, if_pos rfl, bb]
        simp only [laws_FnExactCutActs.j2, Bool.false_eq_true, if_false]
        rw [n4 _ (by omega), Option.bind_some, if_neg q3, if_pos rfl]

end Go.Proofs.Yteghgeanbglmoaa.Pure
