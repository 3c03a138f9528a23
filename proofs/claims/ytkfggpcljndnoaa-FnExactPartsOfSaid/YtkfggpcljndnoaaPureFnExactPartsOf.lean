/- Of every line the program's PartsOf and the reference's give the same parts and the same flag; the parts are new memory each time. No condition but the form's own bound on a text's size. -/
import Derived.Test.YtkfggpcljndnoaaPFnExactPartsOfx3
set_option linter.unusedVariables false
set_option linter.unusedSimpArgs false
namespace Go.Proofs.Ytkfggpcljndnoaa.Pure
open Go.RowKit Go.Proofs.Ytkfggpcljndnoaa.PFnExactPartsOf Go.Proofs.YtkfggpcljndnoaaW.PrintWords Go.Proofs.YtkfggpcljndnoaaW.PrintLast Go.Proofs.YtkfggpcljndnoaaW.PrintMore

-- snippet plain
/-! bytes as numbers -/
def bl (s : ByteArray) : List Int := s.data.toList.map fun b => (b.toNat : Int)
theorem bl_len (s : ByteArray) : (bl s).length = s.size := by unfold bl; rw [List.length_map, Array.length_toList]; rfl
theorem map_u8_inj : ∀ {a b : List UInt8}, a.map (fun b => (b.toNat : Int)) = b.map (fun b => (b.toNat : Int)) → a = b
  | [], [], _ => rfl
  | [], _ :: _, h => by simp at h
  | _ :: _, [], h => by simp at h
  | x :: a, y :: b, h => by
    simp only [List.map_cons, List.cons.injEq] at h
    have e : x = y := UInt8.toNat_inj.mp (by omega)
    rw [e, map_u8_inj h.2]
theorem bl_inj {s t : ByteArray} (h : bl s = bl t) : s = t := by
  have := map_u8_inj h
  cases s; cases t
  simp only [ByteArray.mk.injEq] at *
  exact Array.toList_inj.mp this
theorem bl_eq {s t : ByteArray} : s = t ↔ bl s = bl t := ⟨fun h => by rw [h], bl_inj⟩
theorem toList_bl {s t : ByteArray} : s.toList = t.toList ↔ bl s = bl t := by
  rw [ByteArray.toList_eq, ByteArray.toList_eq]
  exact ⟨fun h => by unfold bl; rw [h], fun h => by rw [bl_inj h]⟩
theorem bl_range (s : ByteArray) : ∀ x ∈ bl s, 0 ≤ x ∧ x < 256 := by
  intro x hx
  simp only [bl, List.mem_map] at hx
  obtain ⟨b, _, rfl⟩ := hx
  have := b.toNat_lt
  omega
theorem bt_bl (s : ByteArray) (i : Int) : bt s i = (bl s).getD i.toNat 0 := by
  unfold bt bl
  split
  · rename_i h
    have h' : i.toNat < s.data.toList.length := by rw [Array.length_toList]; exact h
    rw [List.getD_eq_getElem?_getD, List.getElem?_map, List.getElem?_eq_getElem h']
    rfl
  · rename_i h
    have h' : s.data.toList.length ≤ i.toNat := by rw [Array.length_toList]; exact Nat.le_of_not_lt h
    rw [List.getD_eq_getElem?_getD, List.getElem?_map, List.getElem?_eq_none h']
    rfl
theorem bl_append (s t : ByteArray) : bl (s ++ t) = bl s ++ bl t := by simp [bl]
theorem bl_extract (s : ByteArray) (a b : Nat) : bl (s.extract a b) = ((bl s).drop a).take (b - a) := by
  simp [bl, List.map_take, List.map_drop]
theorem u8_ofNat (n : Int) (h : 0 ≤ n ∧ n < 256) : ((UInt8.ofNat n.toNat).toNat : Int) = n := by
  rw [UInt8.toNat_ofNat']
  omega
theorem bl_str (xs : List Int) (h : ∀ x ∈ xs, 0 ≤ x ∧ x < 256) : bl (strOfNums xs) = xs := by
  unfold bl
  rw [strOfNums_data, List.map_map]
  conv => rhs; rw [← List.map_id xs]
  exact List.map_congr_left fun x hx => u8_ofNat x (h x hx)
theorem str_bl (s : ByteArray) : strOfNums (bl s) = s := bl_inj (bl_str _ (bl_range s))
theorem str_size (xs : List Int) : (strOfNums xs).size = xs.length := strOfNums_size xs
theorem bl_nil : bl (⟨#[]⟩ : ByteArray) = [] := rfl
theorem bt_lo (s : ByteArray) (i : Int) : 0 ≤ bt s i := (bt_range s i).1
theorem bt_hi (s : ByteArray) (i : Int) : bt s i < 256 := by have := (bt_range s i).2; omega
theorem wr (n : Int) (h : -9223372036854775808 ≤ n) (h' : n ≤ 9223372036854775807) : wrap64 n = n := by unfold wrap64; omega
theorem tdiv_pos (a b : Int) (h : 0 ≤ a) : Int.tdiv a b = a / b := Int.tdiv_eq_ediv_of_nonneg h
theorem tmod_pos (a b : Int) (h : 0 ≤ a) : Int.tmod a b = a % b := Int.tmod_eq_emod_of_nonneg h
theorem succ_of {k d : Nat} (h : d < k) : ∃ m, k = m + 1 := ⟨k - 1, by omega⟩
theorem drop_bt (s : ByteArray) (i : Nat) (h : i < s.size) : (bl s).drop i = bt s i :: (bl s).drop (i + 1) := by
  have h' : i < (bl s).length := by rw [bl_len]; exact h
  rw [List.drop_eq_getElem_cons h', bt_bl, Int.toNat_natCast, List.getD_eq_getElem?_getD, List.getElem?_eq_getElem h']
  rfl
theorem drop_end (s : ByteArray) (i : Nat) (h : s.size ≤ i) : (bl s).drop i = [] := List.drop_eq_nil_of_le (by rw [bl_len]; exact h)
theorem take_snoc_cons {α : Type} (p : List α) (b : α) (l : List α) : (p ++ b :: l).take (p.length + 1) = p ++ [b] := by
  rw [List.take_length_add_append]; simp
attribute [local irreducible] bt

-- snippet marks
/-! marks in a list of texts -/
theorem markText_some : ∀ (d K : Nat) (n : Int) (x : ByteArray), 0 ≤ n → n < d → d < 4611686018427387904 → d ≤ K → x.size + d < 4611686018427387904 → ∃ t, laws_markText.l0 K n x = some t := by
  intro d
  induction d with
  | zero => intro K n x h h1; omega
  | succ d ih =>
    intro K n x h h1 hd hK hx
    obtain ⟨K, rfl⟩ := succ_of hK
    simp only [laws_markText.l0]
    by_cases c : n > 0
    · have e : wrap64 (Int.tdiv n 10) = n / 10 := by rw [tdiv_pos _ _ h, wr _ (by omega) (by omega)]
      rw [if_pos c, Option.bind_some, if_pos (by simp only [str_size, List.length_cons, List.length_nil]; omega), e]
      exact ih K (n / 10) _ (by omega) (by omega) (by omega) (by omega) (by simp only [ByteArray.size_append, str_size, List.length_cons, List.length_nil]; omega)
    · rw [if_neg c, if_pos (by omega)]
      exact ⟨_, rfl⟩
noncomputable def mt (n : Nat) : ByteArray := (laws_markText.f (n + 1) n).getD (⟨#[]⟩ : ByteArray)
theorem mt_of (n K : Nat) (h : n < 1000000000000) (hK : n + 1 ≤ K) : laws_markText.f K n = some (mt n) := by
  have : ∃ t, laws_markText.f (n + 1) n = some t := by
    unfold laws_markText.f
    split
    · exact ⟨_, rfl⟩
    · exact markText_some (n + 1) (n + 1) n _ (by omega) (by omega) (by omega) (Nat.le_refl _) (by rw [show (⟨#[]⟩ : ByteArray).size = 0 from rfl]; omega)
  obtain ⟨t, ht⟩ := this
  have e : mt n = t := by unfold mt; rw [ht]; rfl
  rw [e]
  exact at_rounds (fun k => laws_markText.mono _ k) hK ht
noncomputable def mks (c : Nat) : Nat → List ByteArray
  | 0 => []
  | n + 1 => mt c :: mks (c + 1) n
theorem mks_len : ∀ (n c : Nat), (mks c n).length = n
  | 0, _ => rfl
  | n + 1, c => by simp only [mks, List.length_cons, mks_len n]
theorem mark_l0 : ∀ (rest done : List ByteArray) (K c : Nat), done.length + rest.length < 1000000000 → c + rest.length < 1000000000 → c + 2 * rest.length + 2 ≤ K →
    laws_markStringS.l0 K (done ++ rest) c done.length = some (((c + rest.length : Nat) : Int), done ++ mks c rest.length)
  | [], done, K, c, h, h1, hK => by
    obtain ⟨K, rfl⟩ : ∃ m, K = m + 1 := ⟨K - 1, by omega⟩
    simp only [laws_markStringS.l0]
    rw [if_neg (by simp)]
    simp [mks]
  | x :: rest, done, K, c, h, h1, hK => by
    simp only [List.length_cons] at h h1 hK
    obtain ⟨K, rfl⟩ : ∃ m, K = m + 1 := ⟨K - 1, by omega⟩
    simp only [laws_markStringS.l0]
    rw [if_pos (by simp only [List.length_append, List.length_cons]; omega), mt_of c K (by omega) (by omega), Option.bind_some, if_pos (by omega), wr _ (by omega) (by omega), wr _ (by omega) (by omega), Int.toNat_natCast]
    have e : (done ++ x :: rest).set done.length (mt c) = (done ++ [mt c]) ++ rest := by simp [List.set_append]
    have := mark_l0 rest (done ++ [mt c]) K (c + 1) (by simp only [List.length_append, List.length_cons, List.length_nil]; omega) (by omega) (by omega)
    rw [List.length_append] at this
    rw [e]
    rw [show ((c : Int) + 1) = ((c + 1 : Nat) : Int) by omega, show ((done.length : Int) + 1) = ((done.length + [mt c].length : Nat) : Int) by simp, this]
    simp [mks]
    omega
theorem held_l0 : ∀ (n : Nat) (done : List ByteArray) (K c : Nat), done.length + n < 1000000000 → c + n < 1000000000 → c + 2 * n + 2 ≤ K →
    laws_heldStringS.l0 K (done ++ mks c n) c done.length = some ((c + n : Nat) : Int)
  | 0, done, K, c, h, h1, hK => by
    obtain ⟨K, rfl⟩ : ∃ m, K = m + 1 := ⟨K - 1, by omega⟩
    simp only [laws_heldStringS.l0]
    rw [if_neg (by simp [mks])]
    simp
  | n + 1, done, K, c, h, h1, hK => by
    obtain ⟨K, rfl⟩ : ∃ m, K = m + 1 := ⟨K - 1, by omega⟩
    simp only [laws_heldStringS.l0]
    have g : rdOf ByteArray.empty (done ++ mks c (n + 1)) (done.length : Int) = mt c := by simp [rdOf, mks]
    rw [if_pos (by simp only [List.length_append, mks_len]; omega), if_pos (by omega), mt_of c K (by omega) (by omega), Option.bind_some, g, if_pos rfl, wr _ (by omega) (by omega), wr _ (by omega) (by omega)]
    have := held_l0 n (done ++ [mt c]) K (c + 1) (by simp only [List.length_append, List.length_cons, List.length_nil]; omega) (by omega) (by omega)
    rw [List.length_append] at this
    have e : done ++ mks c (n + 1) = (done ++ [mt c]) ++ mks (c + 1) n := by simp [mks]
    rw [e, show ((c : Int) + 1) = ((c + 1 : Nat) : Int) by omega, show ((done.length : Int) + 1) = ((done.length + [mt c].length : Nat) : Int) by simp, this]
    congr 1
    omega
theorem mark_f (l : List ByteArray) (K : Nat) (h : l.length < 100000000) (hK : 2 * l.length + 10 ≤ K) : laws_markStringS.f K l 1 = some (((1 + l.length : Nat) : Int), mks 1 l.length) := by
  have := mark_l0 l [] K 1 (by simp; omega) (by omega) (by omega)
  unfold laws_markStringS.f
  simpa using this
theorem held_f (n K : Nat) (h : n < 100000000) (hK : 2 * n + 10 ≤ K) : laws_heldStringS.f K (mks 1 n) 1 = some ((1 + n : Nat) : Int) := by
  have := held_l0 n [] K 1 (by simp; omega) (by omega) (by omega)
  unfold laws_heldStringS.f
  simpa using this
theorem eqS_l0 (l : List ByteArray) (h : l.length < 1000000000) : ∀ (d K i : Nat), i + d = l.length → d < K → laws_eqStringS.l0 K l l i = some true := by
  intro d
  induction d with
  | zero =>
    intro K i hi hK
    obtain ⟨K, rfl⟩ := succ_of hK
    simp only [laws_eqStringS.l0]
    rw [if_neg (by omega)]
  | succ d ih =>
    intro K i hi hK
    obtain ⟨K, rfl⟩ := succ_of hK
    simp only [laws_eqStringS.l0]
    rw [if_pos (by omega), if_pos (by omega), if_pos (by omega), if_true, wr _ (by omega) (by omega), show ((i : Int) + 1) = ((i + 1 : Nat) : Int) by omega]
    exact ih K (i + 1) (by omega) (by omega)
theorem eqS_f (l : List ByteArray) (K : Nat) (h : l.length < 1000000000) (hK : l.length < K) : laws_eqStringS.f K l l = some true := by
  have := eqS_l0 l h l.length K 0 (by omega) hK
  unfold laws_eqStringS.f
  rw [if_pos rfl]
  simpa using this

-- snippet parts
/-! PartsOf: both go the same way; 'from' is -1 where the other has the place itself -/
theorem parts_same (s : ByteArray) (hs : s.size ≤ 600) : ∀ (d i b K K' : Nat) (acc : List ByteArray) (f : Int), i + d = s.size + 1 → b ≤ i → (f = (b : Int) ∧ b < i ∨ f = -1 ∧ b = i) → acc.length + d < 8796093022208 → 3 * d + 3 ≤ K → 3 * d + 3 ≤ K' →
    ∃ r : List ByteArray × Bool, r.1.length ≤ acc.length + d ∧ spec_PartsOf.l0 K s acc b i = some r ∧ impl_PartsOf.l0 K' s acc f i = some r := by
  intro d
  induction d with
  | zero =>
    intro i b K K' acc f h hb hf hl hK hK'
    obtain ⟨K, rfl⟩ : ∃ m, K = m + 1 := ⟨K - 1, by omega⟩
    obtain ⟨K', rfl⟩ : ∃ m, K' = m + 1 := ⟨K' - 1, by omega⟩
    simp only [spec_PartsOf.l0, impl_PartsOf.l0]
    simp only [if_neg (show ¬ (i : Int) ≤ (s.size : Int) by omega)]
    by_cases c : (acc.length : Int) > 10
    · simp only [if_pos c]; exact ⟨_, by simp, rfl, rfl⟩
    · simp only [if_neg c]; exact ⟨_, by simp, rfl, rfl⟩
  | succ d ih =>
    intro i b K K' acc f h hb hf hl hK hK'
    obtain ⟨K, rfl⟩ : ∃ m, K = m + 3 := ⟨K - 3, by omega⟩
    obtain ⟨K', rfl⟩ : ∃ m, K' = m + 2 := ⟨K' - 2, by omega⟩
    have u1 : spec_PartsOf.l0 (K + 3) s acc b i = if (i : Int) ≤ (s.size : Int) then (if (i : Int) < (s.size : Int) then (if 0 ≤ (i : Int) then (if (bt s i) < 32 then (spec_PartsOf.j1 (K + 2) s acc b i true) else (spec_PartsOf.j1 (K + 2) s acc b i (decide ((bt s i) > 126)))) else (none)) else (spec_PartsOf.j1 (K + 2) s acc b i false)) else (if (acc.length : Int) > 10 then (some ((([] : List ByteArray)), false)) else (some (acc, true))) := by simp only [spec_PartsOf.l0]
    have u2 : impl_PartsOf.l0 (K' + 2) s acc f i = if (i : Int) ≤ (s.size : Int) then (if (i : Int) = (s.size : Int) then (impl_PartsOf.j1 (K' + 1) s acc f i true) else (if 0 ≤ (i : Int) then (if (i : Int) < (s.size : Int) then (impl_PartsOf.j1 (K' + 1) s acc f i ((bt s i) == 32)) else (none)) else (none))) else (if (acc.length : Int) > 10 then (some (([] : List ByteArray), false)) else (some (acc, true))) := by simp only [impl_PartsOf.l0]
    have w1 : wrap64 ((i : Int) + 1) = ((i + 1 : Nat) : Int) := by rw [wr _ (by omega) (by omega)]; omega
    have le : (i : Int) ≤ (s.size : Int) := by omega
    have ge : 0 ≤ (i : Int) := by omega
    -- the end of a part
    have stop1 : spec_PartsOf.j2 (K + 1) s acc b i false = if (b : Int) < (i : Int) then spec_PartsOf.l0 K s (acc ++ [s.extract b i]) ((i + 1 : Nat) : Int) ((i + 1 : Nat) : Int) else spec_PartsOf.l0 K s acc ((i + 1 : Nat) : Int) ((i + 1 : Nat) : Int) := by
      simp only [spec_PartsOf.j2, Bool.false_eq_true, if_false]
      rw [w1, Int.toNat_natCast, Int.toNat_natCast]
      by_cases c : (b : Int) < (i : Int)
      · rw [if_pos c, if_pos c, if_pos (show 0 ≤ (b : Int) by omega), if_pos (show (b : Int) ≤ (i : Int) by omega), if_pos le, if_pos (show acc.length < 8796093022208 by omega)]
      · rw [if_neg c, if_neg c]
    have stop2 : impl_PartsOf.j1 (K' + 1) s acc f i true = if (b : Int) < (i : Int) then impl_PartsOf.l0 K' s (acc ++ [s.extract b i]) (-1) ((i + 1 : Nat) : Int) else impl_PartsOf.l0 K' s acc (-1) ((i + 1 : Nat) : Int) := by
      simp only [impl_PartsOf.j1, if_true]
      rw [w1, Int.toNat_natCast]
      rcases hf with ⟨rfl, hf⟩ | ⟨rfl, hf⟩
      · rw [if_pos (show (b : Int) ≥ 0 by omega), if_pos (show 0 ≤ (b : Int) by omega), if_pos (show (b : Int) ≤ (i : Int) by omega), if_pos le, if_pos (show acc.length < 8796093022208 by omega), if_pos (show (b : Int) < (i : Int) by omega), Int.toNat_natCast]
      · rw [if_neg (show ¬ (-1 : Int) ≥ 0 by omega), if_neg (show ¬ (b : Int) < (i : Int) by omega)]
    have both : ∃ r : List ByteArray × Bool, r.1.length ≤ acc.length + (d + 1) ∧ spec_PartsOf.j2 (K + 1) s acc b i false = some r ∧ impl_PartsOf.j1 (K' + 1) s acc f i true = some r := by
      rw [stop1, stop2]
      by_cases c : (b : Int) < (i : Int)
      · rw [if_pos c, if_pos c]
        obtain ⟨r, hr, h1, h2⟩ := ih (i + 1) (i + 1) K K' (acc ++ [s.extract b i]) (-1) (by omega) (Nat.le_refl _) (Or.inr ⟨rfl, rfl⟩) (by simp; omega) (by omega) (by omega)
        exact ⟨r, by simp at hr; omega, h1, h2⟩
      · rw [if_neg c, if_neg c]
        obtain ⟨r, hr, h1, h2⟩ := ih (i + 1) (i + 1) K K' acc (-1) (by omega) (Nat.le_refl _) (Or.inr ⟨rfl, rfl⟩) (by omega) (by omega) (by omega)
        exact ⟨r, by omega, h1, h2⟩
    rw [u1, u2, if_pos le, if_pos le]
    by_cases e : (i : Int) = (s.size : Int)
    · rw [if_neg (show ¬ (i : Int) < (s.size : Int) by omega), if_pos e]
      simp only [spec_PartsOf.j1, Bool.false_eq_true, if_false]
      rw [if_neg (show ¬ (i : Int) < (s.size : Int) by omega)]
      exact both
    · have lt : (i : Int) < (s.size : Int) := by omega
      have lo := bt_lo s i
      have hi := bt_hi s i
      rw [if_pos lt, if_neg e, if_pos ge, if_pos ge, if_pos lt]
      by_cases c1 : bt s i < 32
      · rw [if_pos c1]
        have g : (bt s i == 32) = false := by simp; omega
        rw [g]
        simp only [spec_PartsOf.j1, impl_PartsOf.j1, if_true, Bool.false_eq_true, if_false]
        rw [if_pos ge, if_pos lt, wr (bt s i) (by omega) (by omega)]
        have q : impl_in.f (bt s i) 32 126 = some false := by unfold impl_in.f; rw [if_neg (by omega)]
        rw [q, Option.bind_some]
        simp only [Bool.false_eq_true, if_false]
        exact ⟨_, by simp, rfl, rfl⟩
      · rw [if_neg c1]
        by_cases c2 : bt s i > 126
        · have g : (bt s i == 32) = false := by simp; omega
          rw [g]
          rw [show decide (bt s i > 126) = true by simp; omega]
          simp only [spec_PartsOf.j1, impl_PartsOf.j1, if_true, Bool.false_eq_true, if_false]
          rw [if_pos ge, if_pos lt, wr (bt s i) (by omega) (by omega)]
          have q : impl_in.f (bt s i) 32 126 = some false := by unfold impl_in.f; rw [if_pos (by omega)]; simp; omega
          rw [q, Option.bind_some]
          simp only [Bool.false_eq_true, if_false]
          exact ⟨_, by simp, rfl, rfl⟩
        · have dd : decide (bt s i > 126) = false := by simp; omega
          rw [dd]
          have j1e : spec_PartsOf.j1 (K + 2) s acc b i false = spec_PartsOf.j2 (K + 1) s acc b i (bt s i != 32) := by
            simp only [spec_PartsOf.j1, Bool.false_eq_true, if_false]
            rw [if_pos lt, if_pos ge]
          rw [j1e]
          by_cases c3 : bt s i = 32
          · rw [show (bt s i != 32) = false by simp [c3], show (bt s i == 32) = true by simp [c3]]
            exact both
          · rw [show (bt s i != 32) = true by simp [c3], show (bt s i == 32) = false by simp [c3]]
            simp only [spec_PartsOf.j2, impl_PartsOf.j1, if_true, Bool.false_eq_true, if_false]
            have q : impl_in.f (bt s i) 32 126 = some true := by unfold impl_in.f; rw [if_pos (by omega)]; simp; omega
            rw [if_pos ge, if_pos lt, wr (bt s i) (by omega) (by omega), q, Option.bind_some]
            simp only [if_true]
            rw [w1]
            rcases hf with ⟨rfl, hf⟩ | ⟨rfl, rfl⟩
            · rw [if_neg (show ¬ (b : Int) < 0 by omega)]
              obtain ⟨r, hr, h1, h2⟩ := ih (i + 1) b (K + 1 - 1) K' acc (b : Int) (by omega) (by omega) (Or.inl ⟨rfl, by omega⟩) (by omega) (by omega) (by omega)
              exact ⟨r, by omega, h1, h2⟩
            · rw [if_pos (show (-1 : Int) < 0 by omega)]
              obtain ⟨r, hr, h1, h2⟩ := ih (b + 1) b (K + 1 - 1) K' acc (b : Int) (by omega) (by omega) (Or.inl ⟨rfl, by omega⟩) (by omega) (by omega) (by omega)
              exact ⟨r, by omega, h1, h2⟩
theorem parts_f (K : Nat) (s : ByteArray) (hK : 4000 ≤ K) : ∃ r : List ByteArray × Bool, r.1.length ≤ 1000 ∧ spec_PartsOf.f K s = some r ∧ impl_PartsOf.f K s = some r := by
  unfold spec_PartsOf.f impl_PartsOf.f
  rw [Option.bind_some]
  by_cases h : (s.size : Int) > 600
  · simp only [if_pos h]; exact ⟨_, by simp, rfl, rfl⟩
  · simp only [if_neg h]
    obtain ⟨r, hr, h1, h2⟩ := parts_same s (by omega) (s.size + 1) 0 0 K K [] (-1) (by omega) (Nat.le_refl _) (Or.inr ⟨rfl, rfl⟩) (by simp; omega) (by omega) (by omega)
    exact ⟨r, by simp at hr; omega, by simpa using h1, by simpa using h2⟩

theorem FnExactPartsOf : laws_FnExactPartsOf.Pure := by
  intro s hs
  refine ⟨4010, ?_⟩
  unfold laws_FnExactPartsOf.f
  by_cases h : (s.size : Int) > 1048576
  · rw [if_pos h]
  · rw [if_neg h]
    obtain ⟨r, hr, e1, e2⟩ := parts_f 4010 s (by omega)
    obtain ⟨r', hr', e3, e4⟩ := parts_f 4009 s (by omega)
    have er : r' = r := by
      have := impl_PartsOf.mono _ 4009 _ e4
      rw [e2] at this
      exact (Option.some.inj this).symm
    subst er
    have f1 : (r'.2 != r'.2) = false := by simp
    rw [e1, Option.bind_some, e2, Option.bind_some, eqS_f _ _ (by omega) (by omega), Option.bind_some, if_pos rfl, f1]
    simp only [laws_FnExactPartsOf.j0, Bool.false_eq_true, if_false]
    rw [mark_f _ _ (by omega) (by omega), Option.bind_some]
    simp only []
    rw [held_f _ _ (by omega) (by omega), Option.bind_some, if_neg (show ¬ ((1 + r'.1.length : Nat) : Int) < 0 by omega), if_pos rfl, e4, Option.bind_some, eqS_f _ _ (by omega) (by omega), Option.bind_some, if_pos rfl, f1]
    simp only [laws_FnExactPartsOf.j1, Bool.false_eq_true, if_false]
    rw [held_f _ _ (by omega) (by omega), Option.bind_some, if_neg (show ¬ ((1 + r'.1.length : Nat) : Int) < 0 by omega), if_pos rfl]

end Go.Proofs.Ytkfggpcljndnoaa.Pure
