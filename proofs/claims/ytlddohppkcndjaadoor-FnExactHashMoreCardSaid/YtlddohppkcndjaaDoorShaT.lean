/- A text by the document and by the program: the same hasher, the same digest. -/
import Derived.Test.YtlddohppkcndjaaDoorShaR
import Derived.ChangeVars
import Derived.Carry
namespace Go.Proofs.YtlddohppkcndjaaDoor.Sha
open Go.RowKit Go.Proofs.YtlddohppkcndjaaDoorW.PrintWords Go.Proofs.YtlddohppkcndjaaDoorW.PrintLast Go.Proofs.YtlddohppkcndjaaDoorW.PrintMore Go.Proofs.YtlddohppkcndjaaDoor.Pending Go.Proofs.YtlddohppkcndjaaDoor.Pright Go.Proofs.YtlddohppkcndjaaDoor.PHashMore
set_option linter.unusedVariables false
set_option linter.unusedSimpArgs false

theorem rnd_range (k w : Int) (l : List Int) (h : ∀ x ∈ l, w32 x) : ∀ x ∈ rnd k w l, w32 x := by
  unfold rnd
  split
  · intro x hx
    simp only [List.mem_cons, List.not_mem_nil, or_false] at hx h
    rcases hx with rfl | rfl | rfl | rfl | rfl | rfl | rfl | rfl
    · exact w32_mod _
    · exact h _ (by simp)
    · exact h _ (by simp)
    · exact h _ (by simp)
    · exact w32_mod _
    · exact h _ (by simp)
    · exact h _ (by simp)
    · exact h _ (by simp)
  · exact h
theorem rnds_range (w st : List Int) (h : ∀ x ∈ st, w32 x) : ∀ t, ∀ x ∈ rnds w st t, w32 x
  | 0 => h
  | t + 1 => rnd_range _ _ _ (rnds_range w st h t)
theorem spec_l1_step (K : Nat) (x0 x7 l : List Int) (hl : l.length = 8) (hr : ∀ x ∈ l, w32 x) (t : Nat) (ht : t < 64) (h7 : x7.length = 64) : spec_l05Round.l1 (K + 9) x0 keys x7 l (t : Int) = spec_l05Round.l1 K x0 keys x7 (rnd (keys.getD t 0) (x7.getD t 0) l) ((t + 1 : Nat) : Int) := by
  obtain ⟨a, b, c, d, e, f, g, h, rfl⟩ := arr8 l hl
  have he : w32 e := hr e (by simp)
  have ha : w32 a := hr a (by simp)
  have n1 := not32 e he
  have n2 : (4294967295 - e) % 4294967296 = 4294967295 - e := by have := he.1; have := he.2; omega
  have hk : keys.length = 64 := rfl
  have r1 : rd keys (t : Int) = keys.getD t 0 := by unfold rd; rw [Int.toNat_natCast]
  have r7 : rd x7 (t : Int) = x7.getD t 0 := by unfold rd; rw [Int.toNat_natCast]
  have g0 : rd [a, b, c, d, e, f, g, h] 0 = a := rfl
  have g1 : rd [a, b, c, d, e, f, g, h] 1 = b := rfl
  have g2 : rd [a, b, c, d, e, f, g, h] 2 = c := rfl
  have g4 : rd [a, b, c, d, e, f, g, h] 4 = e := rfl
  have g5 : rd [a, b, c, d, e, f, g, h] 5 = f := rfl
  have g6 : rd [a, b, c, d, e, f, g, h] 6 = g := rfl
  have g7 : rd [a, b, c, d, e, f, g, h] 7 = h := rfl
  have hlen : ([a, b, c, d, e, f, g, h].length : Int) = 8 := rfl
  have hkl : (keys.length : Int) = 64 := rfl
  have h7l : (x7.length : Int) = 64 := by omega
  rw [show K + 9 = (K + 8) + 1 by omega, spec_l05Round.l1]
  simp only [r1, r7, g0, g1, g2, g4, g5, g6, g7, hlen, hkl, h7l, n2]
  rw [if_pos (by omega), if_pos (by decide), if_pos (by decide), if_pos (by decide), if_pos (by decide), SE e he]
  simp only [Option.bind_some]
  rw [if_pos (by omega), if_pos (by omega), if_pos (by omega), if_pos (by decide), if_pos (by decide), if_pos (by decide), SA a ha]
  simp only [Option.bind_some]
  rw [spec_l2 K x0 keys x7 a b c d e f g h t _ _ ⟨by omega, by omega⟩]
  unfold rnd
  simp only [n1]
  generalize Go.bits .xor .u32 (Go.bits .xor .u32 (rt e 6) (rt e 11)) (rt e 25) = q1
  generalize Go.bits .xor .u32 (Go.bits .and .u32 e f) (Go.bits .and .u32 (4294967295 - e) g) = q2
  generalize Go.bits .xor .u32 (Go.bits .xor .u32 (rt a 2) (rt a 13)) (rt a 22) = q3
  generalize Go.bits .xor .u32 (Go.bits .xor .u32 (Go.bits .and .u32 a b) (Go.bits .and .u32 a c)) (Go.bits .and .u32 b c) = q4
  generalize keys.getD t 0 = q5
  generalize x7.getD t 0 = q6
  have e1 : (((((h + q1) % 4294967296 + q2) % 4294967296 + q5) % 4294967296 + q6) % 4294967296 + (q3 + q4) % 4294967296) % 4294967296 = (h + q1 + q2 + q5 + q6 + (q3 + q4)) % 4294967296 := by omega
  have e2 : (d + ((((h + q1) % 4294967296 + q2) % 4294967296 + q5) % 4294967296 + q6) % 4294967296) % 4294967296 = (d + (h + q1 + q2 + q5 + q6)) % 4294967296 := by omega
  rw [e1, e2]
  rfl
theorem spec_l1 (x0 x7 : List Int) (h0 : x0.length = 8) (hr : ∀ x ∈ x0, w32 x) (h7 : x7.length = 64) : ∀ (d K t : Nat), t + d = 64 → spec_l05Round.l1 (K + 9 * d + 1) x0 keys x7 (rnds x7 x0 t) (t : Int) = spec_l05Round.l3 K x0 (rnds x7 x0 64) [] 0 := by
  intro d
  induction d with
  | zero =>
    intro K t h
    obtain rfl : t = 64 := by omega
    rw [Nat.mul_zero, Nat.add_zero, spec_l05Round.l1, if_neg (by decide)]
  | succ d ih =>
    intro K t h
    rw [show K + 9 * (d + 1) + 1 = (K + 9 * d + 1) + 9 by omega, spec_l1_step _ x0 x7 _ (rnds_len x7 x0 h0 t) (rnds_range x7 x0 hr t) t (by omega) h7]
    exact ih K (t + 1) (by omega)
theorem wds_exN (s : ByteArray) : exN ((List.range 16).map (wd s)) 48 = wds s := by
  unfold wds
  rw [wTo_eq, exTo_exN _ (by simp) 48 (Nat.le_refl _), Nat.sub_self, List.replicate_zero, List.append_nil]
theorem round_b (st w : List Int) (K : Nat) (h3 : (rnds w st 64).length = 8) (hl : st.length = 8) : spec_l05Round.l3 (K + 9) st (rnds w st 64) [] 0 = some (addTo (rnds w st 64) st 8) := by
  generalize rnds w st 64 = q at *
  obtain ⟨a', b', c', d', e', f', g', h', rfl⟩ := arr8 _ h3
  obtain ⟨a, b, c, d, e, f, g, h, rfl⟩ := arr8 st hl
  rw [addTo_eq, spec_l3]
theorem round_a (st w : List Int) (K : Nat) (hl : st.length = 8) (hr : ∀ x ∈ st, w32 x) (hw : w.length = 64) : spec_l05Round.l1 (K + 9 + 9 * 64 + 1) st keys w st 0 = some (addTo (rnds w st 64) st 8) := by
  have e2 := spec_l1 st w hl hr hw 64 (K + 9) 0 (Nat.zero_add _)
  rw [round_b st w K (rnds_len w st hl 64) hl] at e2
  exact e2
theorem round_0 (st w : List Int) (K : Nat) (hl : st.length = 8) (hr : ∀ x ∈ st, w32 x) (hw : w.length = 16) (hwr : ∀ x ∈ w, w32 x) : spec_l05Round.l0 (K + 9 + 9 * 64 + 1 + 48 + 1) st keys w 16 = some (addTo (rnds (exN w 48) st 64) st 8) := by
  have e := spec_l0 st keys w hw hwr 48 (K + 9 + 9 * 64 + 1) 0 (Nat.zero_add _)
  rw [if_pos (by omega), round_a st (exN w 48) K hl hr (by rw [exN_len w hw])] at e
  exact e
theorem spec_Round_f (st : List Int) (s : ByteArray) (K : Nat) (hl : st.length = 8) (hr : ∀ x ∈ st, w32 x) (hs : s.size = 64) (hK : 1000 ≤ K) : spec_l05Round.f K st keys s = some (one st s) := by
  have hw : ((List.range 16).map (wd s)).length = 16 := by rw [List.length_map, List.length_range]
  have hwr : ∀ x ∈ (List.range 16).map (wd s), w32 x := by
    intro x hx
    obtain ⟨i, _, rfl⟩ := List.mem_map.1 hx
    exact wd_range s i
  have h1 := spec_Words_f s 16 K hs (by omega) (by omega)
  have h2 : ∃ m, K = m + 9 + 9 * 64 + 1 + 48 + 1 := ⟨K - 635, by omega⟩
  unfold spec_l05Round.f
  rw [h1]
  obtain ⟨m, hm⟩ := h2
  rw [hm]
  have h3 := round_0 st _ m hl hr hw hwr
  rw [wds_exN] at h3
  unfold one
  exact (Option.bind_some _ _).trans h3
theorem one_range (st : List Int) (s : ByteArray) (hl : st.length = 8) : ∀ x ∈ one st s, w32 x := by
  obtain ⟨a', b', c', d', e', f', g', h', he⟩ := arr8 _ (rnds_len (wds s) st hl 64)
  unfold one
  rw [he]
  obtain ⟨a, b, c, d, e, f, g, h, rfl⟩ := arr8 st hl
  rw [addTo_eq]
  intro x hx
  simp only [List.mem_cons, List.not_mem_nil, or_false] at hx
  rcases hx with rfl | rfl | rfl | rfl | rfl | rfl | rfl | rfl <;> exact w32_mod _
theorem four_eq (x : Int) (h : w32 x) : [((Int.tdiv x 16777216) % 4294967296) % 256, ((Int.tdiv x 65536) % 4294967296) % 256, ((Int.tdiv x 256) % 4294967296) % 256, (Int.tmod x 256) % 256] = [(x / 16777216) % 256, (x / 65536) % 256, (x / 256) % 256, x % 256] := by
  have h0 := h.1
  have h1 := h.2
  rw [Int.tdiv_eq_ediv_of_nonneg h0, Int.tdiv_eq_ediv_of_nonneg h0, Int.tdiv_eq_ediv_of_nonneg h0, Int.tmod_eq_emod_of_nonneg h0]
  have e1 : x / 16777216 % 4294967296 % 256 = x / 16777216 % 256 := by omega
  have e2 : x / 65536 % 4294967296 % 256 = x / 65536 % 256 := by omega
  have e3 : x / 256 % 4294967296 % 256 = x / 256 % 256 := by omega
  have e4 : x % 256 % 256 = x % 256 := by omega
  rw [e1, e2, e3, e4]
theorem strOfNums_app (a b : List Int) : strOfNums (a ++ b) = strOfNums a ++ strOfNums b := by
  apply ByteArray.ext
  rw [ByteArray.data_append]
  apply Array.toList_inj.1
  rw [Array.toList_append, strOfNums_data, strOfNums_data, strOfNums_data, List.map_append]
theorem spec_Bytes_l0 (l : List Int) (hr : ∀ x ∈ l, w32 x) (hl : l.length ≤ 1000) : ∀ (d K i : Nat) (x3 : List Int), i + d = l.length → d + 1 ≤ K → x3.length = 4 * i → strOfNums x3 = stText (l.take i) → spec_l05Bytes.l0 K l x3 (i : Int) = some (stText l) := by
  intro d
  induction d with
  | zero =>
    intro K i x3 h hK h3 hx
    obtain ⟨K, rfl⟩ : ∃ m, K = m + 1 := ⟨K - 1, by omega⟩
    rw [spec_l05Bytes.l0, if_neg (by omega), hx, List.take_of_length_le (by omega)]
  | succ d ih =>
    intro K i x3 h hK h3 hx
    obtain ⟨K, rfl⟩ : ∃ m, K = m + 1 := ⟨K - 1, by omega⟩
    have hi : i < l.length := by omega
    have r : rd l (i : Int) = l.getD i 0 := by unfold rd; rw [Int.toNat_natCast]
    have e1 : wrap64 ((i : Int) + 1) = ((i + 1 : Nat) : Int) := by unfold wrap64; omega
    rw [spec_l05Bytes.l0, if_pos (by omega), if_pos (by omega), r, four_eq _ (getD_w32 hr i), e1]
    simp only [Option.bind_some]
    rw [if_pos (by simp only [List.length_cons, List.length_nil]; omega)]
    refine ih K (i + 1) _ (by omega) (by omega) (by simp only [List.length_append, List.length_cons, List.length_nil]; omega) ?_
    rw [strOfNums_app, hx, List.take_add_one, List.getElem?_eq_getElem hi]
    simp only [Option.toList]
    rw [stText_snoc, List.getD_eq_getElem?_getD, List.getElem?_eq_getElem hi]
    rfl
theorem spec_Bytes_f (l : List Int) (hr : ∀ x ∈ l, w32 x) (hl : l.length ≤ 1000) (K : Nat) (hK : l.length + 1 ≤ K) : spec_l05Bytes.f K l = some (stText l) :=
  spec_Bytes_l0 l hr hl l.length K 0 [] (by omega) hK rfl (by simp [stText]; rfl)
theorem bTo_range (st : List Int) (s : ByteArray) (h : st.length = 8) (hr : ∀ x ∈ st, w32 x) : ∀ k, ∀ x ∈ (bTo st s k).1, w32 x
  | 0 => hr
  | k + 1 => one_range _ _ (bTo_len st s h k)
theorem ex_ex (s : ByteArray) (a b : Nat) : (s.extract a s.size).extract b (s.extract a s.size).size = s.extract (a + b) s.size := by
  rw [ByteArray.extract_extract, ByteArray.size_extract]
  congr 1
  omega
theorem bTo_snd (st : List Int) (s : ByteArray) : ∀ k, (bTo st s k).2 = s.extract (64 * k) s.size
  | 0 => by show s = _; simp
  | k + 1 => by
    show (bTo st s k).2.extract 64 (bTo st s k).2.size = _
    rw [bTo_snd st s k, ex_ex]
    rfl
theorem ex_head (s : ByteArray) (a : Nat) (h : a + 64 ≤ s.size) : (s.extract a s.size).extract 0 64 = s.extract a (a + 64) := by
  rw [ByteArray.extract_extract]
  congr 1
  omega
theorem spec_loop (buf a1 x0 x1 : ByteArray) (c : Int) (st : List Int) (hst : st.length = 8) (hr : ∀ x ∈ st, w32 x) (hb : buf.size ≤ 2000000000) : ∀ (d K i : Nat), i + d = buf.size / 64 → spec_HashMore.l0 (K + 1000 + d + 1) a1 (bTo st buf i).1 keys buf ((64 * i : Nat) : Int) x0 x1 c = some (stText (blks st buf).1, (blks st buf).2, wrap64 (c + a1.size)) := by
  intro d
  induction d with
  | zero =>
    intro K i h
    obtain rfl : i = buf.size / 64 := by omega
    have e1 : wrap64 (((64 * (buf.size / 64) : Nat) : Int) + 64) = ((64 * (buf.size / 64) + 64 : Nat) : Int) := by unfold wrap64; omega
    have hB := spec_Bytes_f (bTo st buf (buf.size / 64)).1 (bTo_range st buf hst hr _) (by rw [bTo_len st buf hst]; decide) (K + 1000) (by rw [bTo_len st buf hst]; omega)
    rw [Nat.add_zero, spec_HashMore.l0, e1, if_neg (by omega), hB]
    refine (Option.bind_some _ _).trans ?_
    rw [if_pos (by omega), if_pos (by omega), Int.toNat_natCast]
    unfold blks
    rw [bTo_snd]
  | succ d ih =>
    intro K i h
    have hi : 64 * i + 64 ≤ buf.size := by omega
    have e1 : wrap64 (((64 * i : Nat) : Int) + 64) = ((64 * (i + 1) : Nat) : Int) := by unfold wrap64; omega
    have hsz : (buf.extract (64 * i) (64 * (i + 1))).size = 64 := by rw [ByteArray.size_extract]; omega
    have hR := spec_Round_f (bTo st buf i).1 (buf.extract (64 * i) (64 * (i + 1))) (K + 1000 + d + 1) (bTo_len st buf hst i) (bTo_range st buf hst hr i) hsz (by omega)
    rw [show K + 1000 + (d + 1) + 1 = (K + 1000 + d + 1) + 1 by omega, spec_HashMore.l0, e1, if_pos (by omega), if_pos (by omega), if_pos (by omega), Int.toNat_natCast, Int.toNat_natCast, hR]
    refine (Option.bind_some _ _).trans ?_
    have e2 : one (bTo st buf i).1 (buf.extract (64 * i) (64 * (i + 1))) = (bTo st buf (i + 1)).1 := by
      show _ = one (bTo st buf i).1 ((bTo st buf i).2.extract 0 64)
      rw [bTo_snd, ex_head buf _ hi]
      rfl
    rw [e2]
    exact ih K (i + 1) (by omega)
theorem txState_range (s : ByteArray) : ∀ x ∈ txState s, w32 x := by
  rw [txState_eq]
  intro x hx
  obtain ⟨i, _, rfl⟩ := List.mem_map.1 hx
  exact wd_range s i
theorem first8_range : ∀ x ∈ first8, w32 x := by
  intro x hx
  simp only [first8, List.mem_cons, List.not_mem_nil, or_false] at hx
  rcases hx with rfl | rfl | rfl | rfl | rfl | rfl | rfl | rfl <;> exact ⟨by decide, by decide⟩
theorem specOk_f (st r : ByteArray) (c : Int) : spec_HasherOk.f st r c = some (hOk st r c) := by
  unfold spec_HasherOk.f spec_l01In.f hOk
  by_cases h1 : st.size = 32
  · rw [if_pos (by omega)]
    by_cases h2 : 0 ≤ c
    · have e := Int.tmod_eq_emod_of_nonneg (b := 64) h2
      rw [e]
      by_cases h3 : c ≤ 1000000000
      · by_cases h4 : (r.size : Int) = c % 64
        · have h5 : (r.size : Int) < 64 := by omega
          simp [h1, h2, h3, h4, h5]
          omega
        · have h6 : ¬ (c % 64 = (r.size : Int)) := fun h => h4 h.symm
          by_cases h5 : (r.size : Int) < 64 <;> simp [h1, h2, h3, h4, h5, h6]
      · by_cases h5 : (r.size : Int) < 64 <;> simp [h1, h2, h3, h5]
    · by_cases h5 : (r.size : Int) < 64 <;> simp [h1, h2, h5]
  · rw [if_neg (by omega)]
    simp [h1]
theorem specHashMore_f (st r : ByteArray) (c : Int) (s : ByteArray) (hc : -9223372036854775808 ≤ c ∧ c ≤ 9223372036854775807) (hs : s.size ≤ 1152921504606846975) : spec_HashMore.f (1000 + (r.size + s.size) / 64 + 1 + 1) st r c s = some (hashMore st r c s) := by
  unfold spec_HashMore.f
  rw [specOk_f]
  refine (Option.bind_some _ _).trans ?_
  by_cases hok : hOk st r c = true
  · rw [if_pos hok, spec_HashMore.j0]
    have hok' := hok
    unfold hOk at hok'
    simp only [decide_eq_true_eq] at hok'
    obtain ⟨h32, h0, h9, h64⟩ := hok'
    have e1 : wrap64 (c + (s.size : Int)) = c + s.size := by unfold wrap64; omega
    rw [e1]
    by_cases hfit : (s.size : Int) ≤ 1000000000 - c
    · rw [if_neg (by simp only [decide_eq_true_eq]; omega)]
      have hW : spec_l05Words.f (1000 + (r.size + s.size) / 64 + 1) st = some (txState st) := by
        rw [spec_Words_f st 8 _ (by omega) (by omega) (by omega), txState_eq]
      rw [hW]
      refine (Option.bind_some _ _).trans ?_
      refine (Option.bind_some keys _).trans ?_
      rw [if_pos (by omega)]
      have hL := spec_loop (r ++ s) s st r c (txState st) (txState_len st) (txState_range st) (by rw [ByteArray.size_append]; omega) ((r.size + s.size) / 64) 0 0 (by rw [ByteArray.size_append]; omega)
      rw [Nat.zero_add 1000, show ((64 * 0 : Nat) : Int) = 0 from rfl, show bTo (txState st) (r ++ s) 0 = (txState st, r ++ s) from rfl] at hL
      have hm : hashMore st r c s = (stText (blks (txState st) (r ++ s)).1, (blks (txState st) (r ++ s)).2, c + s.size) := by unfold hashMore; rw [if_pos ⟨hok, hfit⟩]
      rw [hm, ← e1]
      rw [hL]
    · rw [if_pos (by simp only [decide_eq_true_eq]; omega)]
      unfold hashMore
      rw [if_neg (fun h => hfit h.2)]
  · rw [if_neg hok, spec_HashMore.j0, if_pos rfl]
    unfold hashMore
    rw [if_neg (fun h => hok h.1)]
/-- The document's HashMore, at every hasher and text. -/
theorem specHashMore_calls (st r : ByteArray) (c : Int) (s : ByteArray) (hc : -9223372036854775808 ≤ c ∧ c ≤ 9223372036854775807) (hs : s.size ≤ 1152921504606846975) (w : World) : Calls Tryd.prog 18 #[.agg #[.string st, .string r, .int .i64 c], .string s] w fun e_ w' => e_ = .returned (.agg #[.string (hashMore st r c s).1, .string (hashMore st r c s).2.1, .int .i64 (hashMore st r c s).2.2]) ∧ Below w.heap.size w w' :=
  spec_HashMore.calls _ st r c s _ _ _ w (specHashMore_f st r c s hc hs)
theorem gTabType : (Tryd.prog.globals[0]?).map (·.type) = some 101 := by kernel_rfl
theorem cells66 : Tryd.prog.cellsOf 66 = 1 := by kernel_rfl
theorem cells101 : Tryd.prog.cellsOf 101 = 64 := by kernel_rfl
theorem laidOut : laidOutB Tryd.prog = true := by kernel_rfl
/-- The program's own table reads behind a call as it did before. -/
theorem vars_stay {H : Type} {enc : TypeId × Value → H} {W W' : World} {gs : List (DataW H)} {ps : List MemPlace} (hV : DataW.TrodVars enc Tryd.prog W (fun _ => true) ["loop.example/g00186/impl.roundKeys"] gs ps) (hb : Below W.heap.size W W') :
    ∃ pv, DataW.TrodVars enc Tryd.prog W' (fun b => decide (b < W.heap.size)) ["loop.example/g00186/impl.roundKeys"] gs pv := by
  obtain ⟨g, t, cs, fuel, d, p, rfl, hg, ht, hv, hd, rfl⟩ := ChangeShapes.trodVars_one hV
  obtain rfl : g = 0 := Option.some.inj (hg.symm.trans gTab)
  obtain rfl : t = 101 := Option.some.inj (ht.symm.trans gTabType)
  have k : DataW.Trod enc Tryd.prog W 0 (fun _ => true) true 101 (.agg cs) d p := ⟨fuel, hd⟩
  obtain ⟨fuel', hd'⟩ := Below.trod laidOut (by kernel_rfl) (of_decide_eq_true (by kernel_rfl)) k hb (DataW.trod_lt _ _ _ _ hd)
  have hv' : W'.var? Tryd.prog "loop.example/g00186/impl.roundKeys" = some cs := by
    have hlt : 0 < W.heap.size := by
      unfold World.var? at hv
      rw [gTab] at hv
      simp only [Option.bind_some] at hv
      rcases Nat.lt_or_ge 0 W.heap.size with h' | h'
      · exact h'
      · rw [Array.getElem?_eq_none h'] at hv; simp at hv
    unfold World.var? at hv ⊢
    rw [gTab] at hv ⊢
    simp only [Option.bind_some] at hv ⊢
    rw [hb.block 0 hlt]
    exact hv
  exact ⟨_, ChangeShapes.trodVars_mk1 gTab gTabType hv' hd'⟩
end Go.Proofs.YtlddohppkcndjaaDoor.Sha
