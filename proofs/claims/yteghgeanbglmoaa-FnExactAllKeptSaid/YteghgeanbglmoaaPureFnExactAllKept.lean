/- Of every disk the program's AllKept and the reference's answer the same, and the disk stays. -/
import Derived.Test.YteghgeanbglmoaaPFnExactAllKeptx6
set_option linter.unusedVariables false
set_option linter.unusedSimpArgs false
namespace Go.Proofs.Yteghgeanbglmoaa.Pure
open Go.RowKit Go.Proofs.Yteghgeanbglmoaa.PFnExactAllKept Go.Proofs.YteghgeanbglmoaaW.PrintWords Go.Proofs.YteghgeanbglmoaaW.PrintLast Go.Proofs.YteghgeanbglmoaaW.PrintMore

-- snippet plain
/-! bytes as numbers -/
def bl (s : ByteArray) : List Int := s.data.toList.map fun b => (b.toNat : Int)
theorem bl_len (s : ByteArray) : (bl s).length = s.size := by unfold bl; rw [List.length_map, Array.length_toList]; rfl
theorem map_u8_inj : ∀ {a b : List UInt8}, a.map (fun b => (b.toNat : Int)) = b.map (fun b => (b.toNat : Int)) → a = b
  | [], [], _ => rfl
  | [], _ :: _, h => by simp at h
  | _ :: _, [], h => by simp at h
  | x :: a, y :: b, h => by
    simp only [List.map_cons, List.cons.injEq] at h
    have e : x = y := UInt8.toNat_inj.mp (by omega)
    rw [e, map_u8_inj h.2]
theorem bl_inj {s t : ByteArray} (h : bl s = bl t) : s = t := by
  have := map_u8_inj h
  cases s; cases t
  simp only [ByteArray.mk.injEq] at *
  exact Array.toList_inj.mp this
theorem bl_eq {s t : ByteArray} : s = t ↔ bl s = bl t := ⟨fun h => by rw [h], bl_inj⟩
theorem toList_bl {s t : ByteArray} : s.toList = t.toList ↔ bl s = bl t := by
  rw [ByteArray.toList_eq, ByteArray.toList_eq]
  exact ⟨fun h => by unfold bl; rw [h], fun h => by rw [bl_inj h]⟩
theorem bl_range (s : ByteArray) : ∀ x ∈ bl s, 0 ≤ x ∧ x < 256 := by
  intro x hx
  simp only [bl, List.mem_map] at hx
  obtain ⟨b, _, rfl⟩ := hx
  have := b.toNat_lt
  omega
theorem bt_bl (s : ByteArray) (i : Int) : bt s i = (bl s).getD i.toNat 0 := by
  unfold bt bl
  split
  · rename_i h
    have h' : i.toNat < s.data.toList.length := by rw [Array.length_toList]; exact h
    rw [List.getD_eq_getElem?_getD, List.getElem?_map, List.getElem?_eq_getElem h']
    rfl
  · rename_i h
    have h' : s.data.toList.length ≤ i.toNat := by rw [Array.length_toList]; exact Nat.le_of_not_lt h
    rw [List.getD_eq_getElem?_getD, List.getElem?_map, List.getElem?_eq_none h']
    rfl
theorem bl_append (s t : ByteArray) : bl (s ++ t) = bl s ++ bl t := by simp [bl]
theorem bl_extract (s : ByteArray) (a b : Nat) : bl (s.extract a b) = ((bl s).drop a).take (b - a) := by
  simp [bl, List.map_take, List.map_drop]
theorem u8_ofNat (n : Int) (h : 0 ≤ n ∧ n < 256) : ((UInt8.ofNat n.toNat).toNat : Int) = n := by
  rw [UInt8.toNat_ofNat']
  omega
theorem bl_str (xs : List Int) (h : ∀ x ∈ xs, 0 ≤ x ∧ x < 256) : bl (strOfNums xs) = xs := by
  unfold bl
  rw [strOfNums_data, List.map_map]
  conv => rhs; rw [← List.map_id xs]
  exact List.map_congr_left fun x hx => u8_ofNat x (h x hx)
theorem str_bl (s : ByteArray) : strOfNums (bl s) = s := bl_inj (bl_str _ (bl_range s))
theorem str_size (xs : List Int) : (strOfNums xs).size = xs.length := strOfNums_size xs
theorem bl_nil : bl (⟨#[]⟩ : ByteArray) = [] := rfl
theorem bt_lo (s : ByteArray) (i : Int) : 0 ≤ bt s i := (bt_range s i).1
theorem bt_hi (s : ByteArray) (i : Int) : bt s i < 256 := by have := (bt_range s i).2; omega
theorem wr (n : Int) (h : -9223372036854775808 ≤ n) (h' : n ≤ 9223372036854775807) : wrap64 n = n := by unfold wrap64; omega
theorem wrn {z : Int} (n : Nat) (e : z = n) (h : n ≤ 9223372036854775807) : wrap64 z = n := by rw [e]; exact wr _ (by omega) (by omega)
theorem tdiv_pos (a b : Int) (h : 0 ≤ a) : Int.tdiv a b = a / b := Int.tdiv_eq_ediv_of_nonneg h
theorem tmod_pos (a b : Int) (h : 0 ≤ a) : Int.tmod a b = a % b := Int.tmod_eq_emod_of_nonneg h
theorem succ_of {k d : Nat} (h : d < k) : ∃ m, k = m + 1 := ⟨k - 1, by omega⟩
theorem drop_bt (s : ByteArray) (i : Nat) (h : i < s.size) : (bl s).drop i = bt s i :: (bl s).drop (i + 1) := by
  have h' : i < (bl s).length := by rw [bl_len]; exact h
  rw [List.drop_eq_getElem_cons h', bt_bl, Int.toNat_natCast, List.getD_eq_getElem?_getD, List.getElem?_eq_getElem h']
  rfl
theorem drop_end (s : ByteArray) (i : Nat) (h : s.size ≤ i) : (bl s).drop i = [] := List.drop_eq_nil_of_le (by rw [bl_len]; exact h)
theorem take_snoc_cons {α : Type} (p : List α) (b : α) (l : List α) : (p ++ b :: l).take (p.length + 1) = p ++ [b] := by
  rw [List.take_length_add_append]; simp
attribute [local irreducible] bt

-- snippet disk_law
/-! disks: their size, taken over, compared -/
def conv (x : S96) : S67 := ⟨x.f0, x.f1, x.f2⟩
theorem rd96 (l : List S96) (j : Nat) (h : j < l.length) : rd_T96 l (j : Int) = l[j] := by unfold rd_T96; rw [Int.toNat_natCast, List.getD_eq_getElem?_getD, List.getElem?_eq_getElem h]; rfl
theorem rd67 (l : List S67) (j : Nat) (h : j < l.length) : rd_T67 l (j : Int) = l[j] := by unfold rd_T67; rw [Int.toNat_natCast, List.getD_eq_getElem?_getD, List.getElem?_eq_getElem h]; rfl
theorem szFile_ok (x : S96) (hx : good96 x) (n : Int) (n0 : 0 ≤ n) (n1 : n ≤ 1048576) : ∃ r, laws_szFile.f x.f0 x.f1 x.f2 n = some r ∧ -1 ≤ r ∧ (0 ≤ r → r ≤ n ∧ (x.f0.size : Int) ≤ n ∧ (x.f1.size : Int) ≤ n) := by
  obtain ⟨h0, h1, h2⟩ := hx
  unfold laws_szFile.f
  have a1 : -9223372036854775808 ≤ n - (x.f0.size : Int) := by omega
  have a2 : n - (x.f0.size : Int) ≤ 9223372036854775807 := by omega
  rw [wr _ a1 a2]
  by_cases c : n - (x.f0.size : Int) < 0
  · rw [if_pos c]; exact ⟨-1, rfl, by omega, by omega⟩
  · have b1 : -9223372036854775808 ≤ n - (x.f0.size : Int) - (x.f1.size : Int) := by omega
    have b2 : n - (x.f0.size : Int) - (x.f1.size : Int) ≤ 9223372036854775807 := by omega
    rw [if_neg c, wr _ b1 b2]
    by_cases d : n - (x.f0.size : Int) - (x.f1.size : Int) < 0
    · rw [if_pos d]; exact ⟨-1, rfl, by omega, by omega⟩
    · rw [if_neg d]; exact ⟨_, rfl, by omega, by omega⟩
theorem szFileS_l0 (l : List S96) (hl : l.length < 1000000000) (hg : ∀ x ∈ l, good96 x) : ∀ (d i : Nat) (n : Int), i + d = l.length → 0 ≤ n → n ≤ 1048576 → ∃ r, -1 ≤ r ∧ (0 ≤ r → ∀ x ∈ l.drop i, (x.f0.size : Int) ≤ n ∧ (x.f1.size : Int) ≤ n) ∧ ∀ K, d < K → laws_szFileS.l0 K l n i = some r := by
  intro d
  induction d with
  | zero =>
    intro i n hi n0 n1
    refine ⟨n, by omega, fun _ x hx => ?_, fun K hK => ?_⟩
    · rw [List.drop_eq_nil_of_le (by omega)] at hx; cases hx
    · obtain ⟨K, rfl⟩ := succ_of hK
      rw [laws_szFileS.l0, if_neg (by omega)]
  | succ d ih =>
    intro i n hi n0 n1
    have il : i < l.length := by omega
    obtain ⟨r, e, r0, r1⟩ := szFile_ok l[i] (hg _ (List.getElem_mem _)) n n0 n1
    have w : wrap64 ((i : Int) + 1) = ((i + 1 : Nat) : Int) := wrn _ (by omega) (by omega)
    by_cases c : r < 0
    · refine ⟨-1, by omega, by omega, fun K hK => ?_⟩
      obtain ⟨K, rfl⟩ := succ_of hK
      rw [laws_szFileS.l0, if_pos (by omega), if_pos (by omega), rd96 l i il, e, Option.bind_some, if_pos c]
    · obtain ⟨q0, q1, q2⟩ := r1 (by omega)
      obtain ⟨s, s0, s1, s2⟩ := ih (i + 1) r (by omega) (by omega) (by omega)
      refine ⟨s, s0, fun h x hx => ?_, fun K hK => ?_⟩
      · rw [List.drop_eq_getElem_cons il] at hx
        rcases List.mem_cons.1 hx with h' | h'
        · rw [h']; exact ⟨q1, q2⟩
        · have := s1 h x h'
          omega
      · obtain ⟨K, rfl⟩ := succ_of hK
        rw [laws_szFileS.l0, if_pos (by omega), if_pos (by omega), rd96 l i il, e, Option.bind_some, if_neg c, w]
        exact s2 K (by omega)
theorem szDisk_ok (l : List S96) (hl : l.length ≤ 9223372036854775807) (hg : ∀ x ∈ l, good96 x) : ∃ r, -1 ≤ r ∧ (0 ≤ r → l.length ≤ 1048576 ∧ ∀ x ∈ l, (x.f0.size : Int) ≤ 1048576 ∧ (x.f1.size : Int) ≤ 1048576) ∧ ∀ K, 1048577 ≤ K → laws_szDisk.f K l 1048576 = some r := by
  have a1 : -9223372036854775808 ≤ 1048576 - (l.length : Int) := by omega
  have a2 : 1048576 - (l.length : Int) ≤ 9223372036854775807 := by omega
  have w : wrap64 (1048576 - (l.length : Int)) = 1048576 - (l.length : Int) := wr _ a1 a2
  by_cases c : 1048576 - (l.length : Int) < 0
  · refine ⟨-1, by omega, by omega, fun K hK => ?_⟩
    unfold laws_szDisk.f laws_szFileS.f
    rw [w, if_pos c, Option.bind_some, if_pos (by omega)]
  · obtain ⟨r, r0, r1, r2⟩ := szFileS_l0 l (by omega) hg l.length 0 (1048576 - (l.length : Int)) (by omega) (by omega) (by omega)
    by_cases d : r < 0
    · refine ⟨-1, by omega, by omega, fun K hK => ?_⟩
      unfold laws_szDisk.f laws_szFileS.f
      rw [w, if_neg c, show (0 : Int) = ((0 : Nat) : Int) from rfl, r2 K (by omega), Option.bind_some, if_pos (by omega)]
    · refine ⟨r, r0, fun h => ⟨by omega, fun x hx => ?_⟩, fun K hK => ?_⟩
      · have := r1 h x (by rw [List.drop_zero]; exact hx)
        omega
      · unfold laws_szDisk.f laws_szFileS.f
        rw [w, if_neg c, show (0 : Int) = ((0 : Nat) : Int) from rfl, r2 K (by omega), Option.bind_some, if_neg (by omega)]
theorem toFileS_l0 (x : List S96) (h : x.length < 1000000000) : ∀ (d K j : Nat) (y : List S67), j + d = x.length → d < K → y.length = x.length → laws_toFileS.l0 K x y j = some (y.take j ++ (x.drop j).map conv) := by
  intro d
  induction d with
  | zero =>
    intro K j y hj hK hy
    obtain ⟨K, rfl⟩ := succ_of hK
    rw [laws_toFileS.l0, if_neg (show ¬ (j : Int) < (x.length : Int) by omega), List.take_of_length_le (by omega), List.drop_eq_nil_of_le (by omega)]
    simp
  | succ d ih =>
    intro K j y hj hK hy
    obtain ⟨K, rfl⟩ := succ_of hK
    have hjx : j < x.length := by omega
    have w : wrap64 ((j : Int) + 1) = ((j + 1 : Nat) : Int) := wrn _ (by omega) (by omega)
    have t : (y.set j (conv x[j])).take (j + 1) = y.take j ++ [conv x[j]] := by
      rw [List.take_set, List.take_succ_eq_append_getElem (show j < y.length by omega), List.set_append_right _ _ (by simp; omega)]
      simp [show min j y.length = j by omega]
    rw [laws_toFileS.l0, if_pos (show (j : Int) < (x.length : Int) by omega), if_pos (show 0 ≤ (j : Int) by omega), rd96 x j hjx]
    unfold laws_toFile.f
    rw [Option.bind_some, if_pos (show (j : Int) < (y.length : Int) by omega), w, Int.toNat_natCast]
    have q := ih K (j + 1) (y.set j (conv x[j])) (by omega) (by omega) (by rw [List.length_set]; exact hy)
    rw [t, List.append_assoc] at q
    rw [List.drop_eq_getElem_cons hjx, List.map_cons]
    exact q
theorem toDisk_f (x : List S96) (K : Nat) (h : x.length ≤ 1048576) (hK : 1048577 ≤ K) : laws_toDisk.f K x = some (x.map conv) := by
  have := toFileS_l0 x (by omega) x.length K 0 (List.replicate x.length z67) (by omega) (by omega) (by simp)
  unfold laws_toDisk.f laws_toFileS.f
  rw [if_pos (show 0 ≤ (x.length : Int) by omega), Int.toNat_natCast, if_pos (by omega), show (0 : Int) = ((0 : Nat) : Int) from rfl, this, Option.bind_some]
  simp
theorem eqFile_same (x : S67) : laws_eqFile.f x.f0 x.f1 x.f2 x.f0 x.f1 x.f2 = some true := by
  unfold laws_eqFile.f
  rw [if_pos rfl, if_pos rfl, if_pos rfl]
theorem eqFileS_l0 (l : List S67) (h : l.length < 1000000000) : ∀ (d K i : Nat), i + d = l.length → d < K → laws_eqFileS.l0 K l l i = some true := by
  intro d
  induction d with
  | zero =>
    intro K i hi hK
    obtain ⟨K, rfl⟩ := succ_of hK
    rw [laws_eqFileS.l0, if_neg (by omega)]
  | succ d ih =>
    intro K i hi hK
    obtain ⟨K, rfl⟩ := succ_of hK
    have w : wrap64 ((i : Int) + 1) = ((i + 1 : Nat) : Int) := wrn _ (by omega) (by omega)
    rw [laws_eqFileS.l0, if_pos (by omega), if_pos (by omega), if_pos (by omega), eqFile_same, Option.bind_some, if_pos rfl, w]
    exact ih K (i + 1) (by omega) (by omega)
theorem eqDisk_same (l : List S67) (K : Nat) (h : l.length ≤ 1048576) (hK : 1048577 ≤ K) : laws_eqDisk.f K l l = some true := by
  have := eqFileS_l0 l (by omega) l.length K 0 (by omega) (by omega)
  unfold laws_eqDisk.f laws_eqFileS.f
  rw [if_pos rfl, show (0 : Int) = ((0 : Nat) : Int) from rfl, this, Option.bind_some, if_pos rfl]

-- snippet diskok
/-! disks that are right -/
def okAt (l : List S67) (i : Nat) : Bool := (decide (1 ≤ (((rd_T67 l i).f0.size : Nat) : Int)) && decide ((((rd_T67 l i).f0.size : Nat) : Int) ≤ 8)) && (!decide ((((rd_T67 l i).f1.size : Nat) : Int) > 20000) && ((decide (0 ≤ (rd_T67 l i).f2) && decide ((rd_T67 l i).f2 ≤ (((rd_T67 l i).f1.size : Nat) : Int))) && (decide (i = 0) || Op.bytesLess (((rd_T67 l ((i - 1 : Nat) : Int)).f0).toList) (((rd_T67 l i).f0).toList))))
theorem chain (x y o : Bool) (P : Prop) [Decidable P] (r : Option Bool) : (if x = true then (if P then some false else if y = true then (if o = true then r else some false) else some false) else some false) = if (x && (!decide P && (y && o))) = true then r else some false := by
  by_cases h : P <;> cases x <;> cases y <;> cases o <;> simp [h]
theorem chain0 (x y : Bool) (P : Prop) [Decidable P] (r : Option Bool) : (if x = true then (if P then some false else if y = true then r else some false) else some false) = if (x && (!decide P && (y && true))) = true then r else some false := by
  by_cases h : P <;> cases x <;> cases y <;> simp [h]
def okFrom (l : List S67) (i : Nat) : Prop := ∀ t, i ≤ t → t < l.length → okAt l t = true
theorem okFrom_step (l : List S67) (i : Nat) (h : i < l.length) : okFrom l i ↔ okAt l i = true ∧ okFrom l (i + 1) := by
  constructor
  · intro q
    exact ⟨q i (Nat.le_refl _) h, fun t h1 h2 => q t (by omega) h2⟩
  · intro q t h1 h2
    rcases Nat.eq_or_lt_of_le h1 with e | e
    · rw [← e]; exact q.1
    · exact q.2 t e h2
theorem okFrom_end (l : List S67) (i : Nat) (h : l.length ≤ i) : okFrom l i := fun t h1 h2 => by omega
theorem in_of (f : Int → Int → Int → Option Bool) (hf : ∀ a b c, f a b c = if a ≥ b then (some (decide (a ≤ c))) else (some false)) (a b c : Int) : f a b c = some (decide (b ≤ a) && decide (a ≤ c)) := by
  rw [hf]
  by_cases h : b ≤ a
  · rw [if_pos h]; simp [h]
  · rw [if_neg h]; simp [h]
theorem sin (a b c : Int) : spec_l01In.f a b c = some (decide (b ≤ a) && decide (a ≤ c)) := in_of _ (fun _ _ _ => rfl) a b c
theorem iin (a b c : Int) : impl_in.f a b c = some (decide (b ≤ a) && decide (a ≤ c)) := in_of _ (fun _ _ _ => rfl) a b c
theorem spec_ok_step (l : List S67) (hl : l.length < 1000000000) (i K : Nat) (h : i < l.length) : spec_DiskOk.l0 (K + 1) i l = if okAt l i = true then spec_DiskOk.l0 K ((i + 1 : Nat) : Int) l else some false := by
  have c1 : (i : Int) < (l.length : Int) := by omega
  have c2 : 0 ≤ (i : Int) := by omega
  have w : wrap64 ((i : Int) + 1) = ((i + 1 : Nat) : Int) := wrn _ (by omega) (by omega)
  rw [spec_DiskOk.l0, if_pos c1, if_pos c2]
  unfold spec_l03Name.f
  rw [sin, sin, Option.bind_some, Option.bind_some, Option.bind_some]
  unfold okAt
  by_cases i0 : i = 0
  · have n : ¬ (i : Int) > 0 := by omega
    rw [if_neg n, w, decide_eq_true i0, Bool.true_or]
    exact chain0 _ _ _ _
  · have n : (i : Int) > 0 := by omega
    have w2 : wrap64 ((i : Int) - 1) = ((i - 1 : Nat) : Int) := wrn _ (by omega) (by omega)
    have c3 : 0 ≤ ((i - 1 : Nat) : Int) := by omega
    have c4 : ((i - 1 : Nat) : Int) < (l.length : Int) := by omega
    rw [if_pos n, w, w2, if_pos c3, if_pos c4, decide_eq_false i0, Bool.false_or]
    exact chain _ _ _ _ _
theorem impl_ok_step (l : List S67) (hl : l.length < 1000000000) (i K : Nat) (h : i < l.length) : impl_DiskOk.l0 (K + 1) l (l.length : Int) i l = if okAt l i = true then impl_DiskOk.l0 K l (l.length : Int) ((i + 1 : Nat) : Int) l else some false := by
  have c1 : (i : Int) < (l.length : Int) := by omega
  have c2 : 0 ≤ (i : Int) := by omega
  have w : wrap64 ((i : Int) + 1) = ((i + 1 : Nat) : Int) := wrn _ (by omega) (by omega)
  rw [impl_DiskOk.l0, if_pos c1, if_pos c2, if_pos c1]
  rw [iin, iin, Option.bind_some, Option.bind_some]
  unfold okAt
  by_cases i0 : i = 0
  · have n : ¬ (i : Int) > 0 := by omega
    rw [if_neg n, w, decide_eq_true i0, Bool.true_or]
    exact chain0 _ _ _ _
  · have n : (i : Int) > 0 := by omega
    have w2 : wrap64 ((i : Int) - 1) = ((i - 1 : Nat) : Int) := wrn _ (by omega) (by omega)
    have c3 : 0 ≤ ((i - 1 : Nat) : Int) := by omega
    have c4 : ((i - 1 : Nat) : Int) < (l.length : Int) := by omega
    rw [if_pos n, w, w2, if_pos c3, if_pos c4, decide_eq_false i0, Bool.false_or]
    exact chain _ _ _ _ _
theorem spec_ok_l0 (l : List S67) (hl : l.length < 1000000000) : ∀ (d i : Nat), i + d = l.length → ∃ b : Bool, (b = true ↔ okFrom l i) ∧ ∀ K, d < K → spec_DiskOk.l0 K i l = some b := by
  intro d
  induction d with
  | zero =>
    intro i hi
    refine ⟨true, ⟨fun _ => okFrom_end l i (by omega), fun _ => rfl⟩, fun K hK => ?_⟩
    obtain ⟨K, rfl⟩ := succ_of hK
    rw [spec_DiskOk.l0, if_neg (by omega)]
  | succ d ih =>
    intro i hi
    have il : i < l.length := by omega
    obtain ⟨b, hb, e⟩ := ih (i + 1) (by omega)
    by_cases c : okAt l i = true
    · refine ⟨b, by rw [okFrom_step l i il]; exact ⟨fun q => ⟨c, hb.1 q⟩, fun q => hb.2 q.2⟩, fun K hK => ?_⟩
      obtain ⟨K, rfl⟩ := succ_of hK
      rw [spec_ok_step l hl i K il, if_pos c]
      exact e K (by omega)
    · refine ⟨false, ⟨fun q => (by cases q), fun q => absurd ((okFrom_step l i il).1 q).1 c⟩, fun K hK => ?_⟩
      obtain ⟨K, rfl⟩ := succ_of hK
      rw [spec_ok_step l hl i K il, if_neg c]
theorem impl_ok_l0 (l : List S67) (hl : l.length < 1000000000) : ∀ (d i : Nat), i + d = l.length → ∃ b : Bool, (b = true ↔ l.length ≤ 30 ∧ okFrom l i) ∧ ∀ K, d < K → impl_DiskOk.l0 K l (l.length : Int) i l = some b := by
  intro d
  induction d with
  | zero =>
    intro i hi
    refine ⟨decide ((l.length : Int) ≤ 30), ?_, fun K hK => ?_⟩
    · rw [decide_eq_true_eq]
      exact ⟨fun q => ⟨by omega, okFrom_end l i (by omega)⟩, fun q => by have := q.1; omega⟩
    · obtain ⟨K, rfl⟩ := succ_of hK
      rw [impl_DiskOk.l0, if_neg (by omega)]
  | succ d ih =>
    intro i hi
    have il : i < l.length := by omega
    obtain ⟨b, hb, e⟩ := ih (i + 1) (by omega)
    by_cases c : okAt l i = true
    · refine ⟨b, by rw [okFrom_step l i il]; exact ⟨fun q => ⟨(hb.1 q).1, c, (hb.1 q).2⟩, fun q => hb.2 ⟨q.1, q.2.2⟩⟩, fun K hK => ?_⟩
      obtain ⟨K, rfl⟩ := succ_of hK
      rw [impl_ok_step l hl i K il, if_pos c]
      exact e K (by omega)
    · refine ⟨false, ⟨fun q => (by cases q), fun q => absurd ((okFrom_step l i il).1 q.2).1 c⟩, fun K hK => ?_⟩
      obtain ⟨K, rfl⟩ := succ_of hK
      rw [impl_ok_step l hl i K il, if_neg c]
def rightD (l : List S67) : Prop := l.length ≤ 30 ∧ okFrom l 0
theorem DiskOk_both (l : List S67) (hl : l.length < 1000000000) : ∃ b : Bool, (b = true ↔ rightD l) ∧ ∀ K, l.length + 1 ≤ K → spec_DiskOk.f K l = some b ∧ impl_DiskOk.f K l = some b := by
  obtain ⟨b, hb, e⟩ := spec_ok_l0 l hl l.length 0 (by omega)
  obtain ⟨b', hb', e'⟩ := impl_ok_l0 l hl l.length 0 (by omega)
  refine ⟨b', hb', fun K hK => ⟨?_, e' K (by omega)⟩⟩
  unfold spec_DiskOk.f
  by_cases c : (l.length : Int) > 30
  · rw [if_pos c]
    have : b' = false := by
      rw [← Bool.not_eq_true]
      intro q
      have := (hb'.1 q).1
      omega
    rw [this]
  · rw [if_neg c]
    have l30 : l.length ≤ 30 := by omega
    have : b = b' := by
      rw [Bool.eq_iff_iff, hb, hb']
      exact ⟨fun q => ⟨l30, q⟩, fun q => q.2⟩
    rw [← this]
    exact e K (by omega)

def keptFrom (l : List S67) (i : Nat) : Prop := ∀ t, i ≤ t → t < l.length → ¬ (rd_T67 l (t : Int)).f2 < (((rd_T67 l (t : Int)).f1.size : Nat) : Int)
def evenFrom (l : List S67) (i : Nat) : Prop := ∀ t, i ≤ t → t < l.length → (rd_T67 l (t : Int)).f2 = (((rd_T67 l (t : Int)).f1.size : Nat) : Int)
theorem spec_kept_l0 (l : List S67) (hl : l.length < 1000000000) : ∀ (d i : Nat), i + d = l.length → ∃ b : Bool, (b = true ↔ keptFrom l i) ∧ ∀ K, d < K → spec_AllKept.l0 K i l = some b := by
  intro d
  induction d with
  | zero =>
    intro i hi
    refine ⟨true, ⟨fun _ t h1 h2 => by omega, fun _ => rfl⟩, fun K hK => ?_⟩
    obtain ⟨K, rfl⟩ := succ_of hK
    rw [spec_AllKept.l0, if_neg (by omega)]
  | succ d ih =>
    intro i hi
    have il : i < l.length := by omega
    have w : wrap64 ((i : Int) + 1) = ((i + 1 : Nat) : Int) := wrn _ (by omega) (by omega)
    obtain ⟨b, hb, e⟩ := ih (i + 1) (by omega)
    by_cases c : (rd_T67 l (i : Int)).f2 < (((rd_T67 l (i : Int)).f1.size : Nat) : Int)
    · refine ⟨false, ⟨fun q => (by cases q), fun q => absurd c (q i (Nat.le_refl _) il)⟩, fun K hK => ?_⟩
      obtain ⟨K, rfl⟩ := succ_of hK
      rw [spec_AllKept.l0, if_pos (by omega), if_pos (by omega), if_pos c]
    · refine ⟨b, ⟨fun q t h1 h2 => ?_, fun q => hb.2 fun t h1 h2 => q t (by omega) h2⟩, fun K hK => ?_⟩
      · rcases Nat.eq_or_lt_of_le h1 with h | h
        · rw [← h]; exact c
        · exact hb.1 q t h h2
      · obtain ⟨K, rfl⟩ := succ_of hK
        rw [spec_AllKept.l0, if_pos (by omega), if_pos (by omega), if_neg c, w]
        exact e K (by omega)
theorem impl_kept_l0 (l : List S67) (hl : l.length < 1000000000) (r : Bool) (hr : ∀ K, l.length + 1 ≤ K → impl_DiskOk.f K l = some r) : ∀ (d i : Nat), i + d = l.length → ∃ b : Bool, (b = true ↔ evenFrom l i ∧ r = true) ∧ ∀ K, d + l.length + 1 < K → impl_AllKept.l0 K l (l.length : Int) i l = some b := by
  intro d
  induction d with
  | zero =>
    intro i hi
    refine ⟨r, ⟨fun q => ⟨fun t h1 h2 => by omega, q⟩, fun q => q.2⟩, fun K hK => ?_⟩
    obtain ⟨K, rfl⟩ := succ_of hK
    rw [impl_AllKept.l0, if_neg (by omega), hr K (by omega), Option.bind_some]
  | succ d ih =>
    intro i hi
    have il : i < l.length := by omega
    have w : wrap64 ((i : Int) + 1) = ((i + 1 : Nat) : Int) := wrn _ (by omega) (by omega)
    obtain ⟨b, hb, e⟩ := ih (i + 1) (by omega)
    by_cases c : (rd_T67 l (i : Int)).f2 = (((rd_T67 l (i : Int)).f1.size : Nat) : Int)
    · refine ⟨b, ⟨fun q => ⟨fun t h1 h2 => ?_, (hb.1 q).2⟩, fun q => hb.2 ⟨fun t h1 h2 => q.1 t (by omega) h2, q.2⟩⟩, fun K hK => ?_⟩
      · rcases Nat.eq_or_lt_of_le h1 with h | h
        · rw [← h]; exact c
        · exact (hb.1 q).1 t h h2
      · obtain ⟨K, rfl⟩ : ∃ m, K = m + 1 := ⟨K - 1, by omega⟩
        rw [impl_AllKept.l0, if_pos (by omega), if_pos (by omega), if_pos (by omega), if_pos c, w]
        exact e K (by omega)
    · refine ⟨false, ⟨fun q => (by cases q), fun q => absurd (q.1 i (Nat.le_refl _) il) c⟩, fun K hK => ?_⟩
      obtain ⟨K, rfl⟩ : ∃ m, K = m + 1 := ⟨K - 1, by omega⟩
      rw [impl_AllKept.l0, if_pos (by omega), if_pos (by omega), if_pos (by omega), if_neg c]
theorem okAt_kept (l : List S67) (i : Nat) (h : okAt l i = true) : (rd_T67 l (i : Int)).f2 ≤ (((rd_T67 l (i : Int)).f1.size : Nat) : Int) := by
  unfold okAt at h
  simp only [Bool.and_eq_true, decide_eq_true_eq] at h
  exact h.2.2.1.2
theorem AllKept_both (l : List S67) (hl : l.length < 1000000000) : ∃ b : Bool, ∀ K, 2 * l.length + 2 ≤ K → spec_AllKept.f K l = some b ∧ impl_AllKept.f K l = some b := by
  obtain ⟨r, hr, er⟩ := DiskOk_both l hl
  obtain ⟨b, hb, e⟩ := spec_kept_l0 l hl l.length 0 (by omega)
  obtain ⟨b', hb', e'⟩ := impl_kept_l0 l hl r (fun K hK => (er K hK).2) l.length 0 (by omega)
  refine ⟨b', fun K hK => ⟨?_, e' K (by omega)⟩⟩
  unfold spec_AllKept.f
  rw [(er K (by omega)).1, Option.bind_some]
  by_cases c : r = true
  · rw [if_pos c, show (0 : Int) = ((0 : Nat) : Int) from rfl, e K (by omega)]
    congr 1
    rw [Bool.eq_iff_iff, hb, hb']
    have rt := (hr.1 c).2
    constructor
    · intro q
      refine ⟨fun t h1 h2 => ?_, c⟩
      have := q t h1 h2
      have k := okAt_kept l t (rt t h1 h2)
      omega
    · intro q t h1 h2
      have := q.1 t h1 h2
      omega
  · rw [if_neg c]
    congr 1
    symm
    rw [← Bool.not_eq_true, hb']
    exact fun q => c q.2
theorem FnExactAllKept : laws_FnExactAllKept.Pure := by
  intro l hl hg
  refine ⟨3048580, ?_⟩
  unfold laws_FnExactAllKept.f
  obtain ⟨r, r0, r1, r2⟩ := szDisk_ok l hl hg
  rw [r2 _ (by omega), Option.bind_some]
  by_cases c : r < 0
  · rw [if_pos c]
  · obtain ⟨l1, l2⟩ := r1 (by omega)
    have lm : (l.map conv).length ≤ 1048576 := by rw [List.length_map]; exact l1
    obtain ⟨b, both⟩ := AllKept_both (l.map conv) (by omega)
    obtain ⟨e1, e2⟩ := both 3048580 (by omega)
    have bb : ¬ ((b != b) = true) := by cases b <;> decide
    rw [if_neg c, toDisk_f l _ l1 (by omega), Option.bind_some, e1, Option.bind_some, Option.bind_some, e2, Option.bind_some, if_neg bb, Option.bind_some, eqDisk_same _ _ lm (by omega), Option.bind_some, if_pos rfl]

end Go.Proofs.Yteghgeanbglmoaa.Pure
