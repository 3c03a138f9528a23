/- The sum under a key: the document's and the program's. -/
import Derived.Test.YtlddohppkcndjaaDoorShaX
import Derived.Test.YtlddohppkcndjaaDoorPFnExactMacOfx1
namespace Go.Proofs.YtlddohppkcndjaaDoor.Sha
open Go.RowKit Go.Proofs.YtlddohppkcndjaaDoorW.PrintWords Go.Proofs.YtlddohppkcndjaaDoorW.PrintLast Go.Proofs.YtlddohppkcndjaaDoorW.PrintMore Go.Proofs.YtlddohppkcndjaaDoor.PFnExactMacOf
set_option linter.unusedVariables false
set_option linter.unusedSimpArgs false
def padL (k : ByteArray) : List Int := bys k ++ List.replicate (64 - k.size) 0
def pad (k : ByteArray) : ByteArray := k ++ strOfNums (List.replicate (64 - k.size) 0)
def key64 (k : ByteArray) : ByteArray := if k.size > 64 then digest k else k
theorem digest_size (s : ByteArray) : (digest s).size = 32 := stText8 _ (blks_len first8 _ rfl)
theorem key64_size (k : ByteArray) : (key64 k).size ≤ 64 := by
  unfold key64
  split
  · rw [digest_size]; decide
  · omega
theorem bys_pad (k : ByteArray) : bys (pad k) = padL k := by
  unfold pad padL
  rw [bys_append, bys_str _ (fun x hx => by rw [List.mem_replicate] at hx; rw [hx.2]; decide)]
theorem padL_len (k : ByteArray) (h : k.size ≤ 64) : (padL k).length = 64 := by
  unfold padL
  rw [List.length_append, bys_len, List.length_replicate]
  omega
def mac (key s : ByteArray) : ByteArray := digest (xorText (pad (key64 key)) 92 ++ digest (xorText (pad (key64 key)) 54 ++ s))
theorem mac_size (key s : ByteArray) : (mac key s).size = 32 := digest_size _
theorem xorText_size (s : ByteArray) (x : Int) : (xorText s x).size = s.size := by
  unfold xorText xorL
  rw [strOfNums_size, List.length_map, bys_len]
theorem pad_size (k : ByteArray) (h : k.size ≤ 64) : (pad k).size = 64 := by
  rw [← bys_len, bys_pad, padL_len k h]
def mTo (P : List Int) (x : Int) (i : Nat) : List Int := xorL (P.take i) x ++ List.replicate (64 - i) 0
theorem mTo_len (P : List Int) (x : Int) (i : Nat) (hP : P.length = 64) (h : i ≤ 64) : (mTo P x i).length = 64 := by
  unfold mTo xorL
  rw [List.length_append, List.length_map, List.length_take, List.length_replicate]
  omega
theorem mTo_set (P : List Int) (x y : Int) (i : Nat) (hP : P.length = 64) (h : i < 64) : (mTo P x i).set i y = xorL (P.take i) x ++ y :: List.replicate (64 - (i + 1)) 0 := by
  have hl : (xorL (P.take i) x).length = i := by unfold xorL; rw [List.length_map, List.length_take]; omega
  unfold mTo
  rw [List.set_append_right _ _ (by omega), hl, Nat.sub_self, show 64 - i = (64 - (i + 1)) + 1 by omega, List.replicate_succ]
  rfl
theorem mTo_get (P : List Int) (x y : Int) (i : Nat) (hP : P.length = 64) (h : i < 64) (r : List Int) : (xorL (P.take i) x ++ y :: r).getD i 0 = y := by
  have hl : (xorL (P.take i) x).length = i := by unfold xorL; rw [List.length_map, List.length_take]; omega
  rw [List.getD_eq_getElem?_getD, List.getElem?_append_right (by omega), hl, Nat.sub_self]
  rfl
theorem mTo_next (P : List Int) (x : Int) (i : Nat) (hP : P.length = 64) (h : i < 64) : xorL (P.take i) x ++ Go.bits .xor .u8 (P.getD i 0) x :: List.replicate (64 - (i + 1)) 0 = mTo P x (i + 1) := by
  unfold mTo
  rw [List.take_add_one, List.getElem?_eq_getElem (by omega)]
  unfold xorL
  rw [List.map_append, List.getD_eq_getElem?_getD, List.getElem?_eq_getElem (by omega), List.append_assoc]
  rfl
theorem set_set (P : List Int) (x y z : Int) (i : Nat) (hP : P.length = 64) (h : i < 64) (r : List Int) : (xorL (P.take i) x ++ y :: r).set i z = xorL (P.take i) x ++ z :: r := by
  have hl : (xorL (P.take i) x).length = i := by unfold xorL; rw [List.length_map, List.length_take]; omega
  rw [List.set_append_right _ _ (by omega), hl, Nat.sub_self]
  rfl
theorem mask_l0 (k : ByteArray) (hk : k.size ≤ 64) (x : Int) : ∀ (d K i : Nat), i + d = 64 → d + 1 ≤ K → spec_l06Mask.l0 K k x (mTo (padL k) x i) (i : Int) = some (xorText (pad k) x) := by
  have hP := padL_len k hk
  intro d
  induction d with
  | zero =>
    intro K i h hK
    obtain ⟨K, rfl⟩ : ∃ m, K = m + 1 := ⟨K - 1, by omega⟩
    obtain rfl : i = 64 := by omega
    rw [spec_l06Mask.l0, if_neg (by decide)]
    unfold mTo xorText
    rw [bys_pad, List.take_of_length_le (by omega), Nat.sub_self, List.replicate_zero, List.append_nil]
  | succ d ih =>
    intro K i h hK
    obtain ⟨K, rfl⟩ : ∃ m, K = m + 1 := ⟨K - 1, by omega⟩
    have hi : i < 64 := by omega
    have hl := mTo_len (padL k) x i hP (by omega)
    have e1 : wrap64 ((i : Int) + 1) = ((i + 1 : Nat) : Int) := by unfold wrap64; omega
    rw [spec_l06Mask.l0, if_pos (by omega), e1]
    by_cases hs : (i : Int) < (k.size : Int)
    · have hg : bt k (i : Int) = (padL k).getD i 0 := by
        rw [bt_bys]
        unfold padL
        rw [List.getD_eq_getElem?_getD, List.getD_eq_getElem?_getD, List.getElem?_append_left (by rw [bys_len]; omega)]
      rw [if_pos hs, if_pos (by omega), if_pos (by omega), Int.toNat_natCast, hg]
      refine (Option.bind_some _ _).trans ?_
      have hr : rd ((mTo (padL k) x i).set i ((padL k).getD i 0)) (i : Int) = (padL k).getD i 0 := by
        unfold rd
        rw [Int.toNat_natCast, mTo_set _ _ _ _ hP hi, mTo_get _ _ _ _ hP hi]
      rw [hr, mTo_set _ _ _ _ hP hi, set_set _ _ _ _ _ hP hi, mTo_next _ _ _ hP hi]
      exact ih K (i + 1) (by omega) (by omega)
    · have hg : (padL k).getD i 0 = 0 := by
        unfold padL
        rw [List.getD_eq_getElem?_getD, List.getElem?_append_right (by rw [bys_len]; omega), List.getElem?_replicate]
        split <;> rfl
      have hr : rd (mTo (padL k) x i) (i : Int) = (padL k).getD i 0 := by
        unfold rd mTo
        rw [Int.toNat_natCast, show 64 - i = (64 - (i + 1)) + 1 by omega, List.replicate_succ, mTo_get _ _ _ _ hP hi, hg]
      rw [if_neg hs, if_pos (by omega), if_pos (by omega), Int.toNat_natCast, hr, mTo_set _ _ _ _ hP hi, mTo_next _ _ _ hP hi]
      exact ih K (i + 1) (by omega) (by omega)
theorem mask_j0 (k : ByteArray) (hk : k.size ≤ 64) (x : Int) (K : Nat) (hK : 70 ≤ K) : spec_l06Mask.j0 K k x = some (xorText (pad k) x) := by
  obtain ⟨K, rfl⟩ : ∃ m, K = m + 1 := ⟨K - 1, by omega⟩
  rw [spec_l06Mask.j0, if_pos (by decide)]
  exact mask_l0 k hk x 64 K 0 (by decide) (by omega)
theorem mask_f (k : ByteArray) (hk : k.size ≤ 1000000000) (x : Int) (K : Nat) (hK : 70 ≤ K) : spec_l06Mask.f K k x = some (xorText (pad (key64 k)) x) := by
  unfold spec_l06Mask.f key64
  by_cases h : k.size > 64
  · rw [if_pos (by omega), if_pos h]
    unfold spec_DigestOf.f
    rw [if_pos hk]
    refine (Option.bind_some _ _).trans ?_
    exact mask_j0 _ (by rw [digest_size]; decide) x K hK
  · rw [if_neg (by omega), if_neg h]
    exact mask_j0 k (by omega) x K hK
theorem specMac_f (key s : ByteArray) (hk : key.size ≤ 900000000) (hs : s.size ≤ 900000000) : spec_MacOf.f 70 key s = some (mac key s) := by
  have p := pad_size (key64 key) (key64_size key)
  have x1 := xorText_size (pad (key64 key)) 92
  have x2 := xorText_size (pad (key64 key)) 54
  have d1 := digest_size (xorText (pad (key64 key)) 54 ++ s)
  unfold spec_MacOf.f spec_DigestOf.f
  rw [mask_f key (by omega) 92 70 (by decide), mask_f key (by omega) 54 70 (by decide)]
  simp only [Option.bind_some]
  rw [if_pos (by omega), if_pos (by rw [ByteArray.size_append]; omega)]
  simp only [Option.bind_some]
  rw [if_pos (by omega), if_pos (by rw [ByteArray.size_append]; omega)]
  rfl
theorem mac_j0 (k s : ByteArray) (hk : k.size ≤ 64) (hs : s.size ≤ 900000000) : impl_MacOf.j0 70 k s = some (digest (xorText (pad k) 92 ++ digest (xorText (pad k) 54 ++ s))) := by
  have p := pad_size k hk
  have x1 := xorText_size (pad k) 92
  have x2 := xorText_size (pad k) 54
  have d1 := digest_size (xorText (pad k) 54 ++ s)
  have e1 : wrap64 (64 - (k.size : Int)) = ((64 - k.size : Nat) : Int) := by unfold wrap64; omega
  have hz : impl_zeros.f ((64 - k.size : Nat) : Int) = some (strOfNums (List.replicate (64 - k.size) 0)) := by
    unfold impl_zeros.f
    rw [if_pos (by omega), Int.toNat_natCast, if_pos (by omega)]
  rw [show (70 : Nat) = 69 + 1 from rfl, impl_MacOf.j0]
  unfold impl_xored.f impl_DigestOf.f
  rw [e1, hz]
  refine (Option.bind_some _ _).trans ?_
  rw [if_pos (by rw [strOfNums_size, List.length_replicate]; omega)]
  change ((if (pad k).size ≤ _ then some (xorText (pad k) 92) else none).bind fun t119 => (if (pad k).size ≤ _ then some (xorText (pad k) 54) else none).bind _) = _
  rw [if_pos (by omega), if_pos (by omega)]
  simp only [Option.bind_some]
  rw [if_pos (by omega), if_pos (by rw [ByteArray.size_append]; omega)]
  simp only [Option.bind_some]
  rw [if_pos (by omega), if_pos (by rw [ByteArray.size_append]; omega)]
  rfl
theorem mac_f (key s : ByteArray) (hk : key.size ≤ 900000000) (hs : s.size ≤ 900000000) : impl_MacOf.f 70 key s = some (mac key s) := by
  unfold impl_MacOf.f mac key64 impl_DigestOf.f
  by_cases h : key.size > 64
  · rw [if_pos (by omega), if_pos (by omega), if_pos h]
    refine (Option.bind_some _ _).trans ?_
    exact mac_j0 _ s (by rw [digest_size]; decide) hs
  · rw [if_neg (by omega), if_neg h]
    exact mac_j0 key s (by omega) hs
theorem mac_calls (key s : ByteArray) (hk : key.size ≤ 900000000) (hs : s.size ≤ 900000000) (w : World) (htab : Tab w) : Calls Tryd.prog 25 #[.string key, .string s] w fun e_ w' => e_ = .returned (.string (mac key s)) ∧ Below w.heap.size w w' :=
  impl_MacOf.calls 70 key s _ w (mac_f key s hk hs) htab
theorem specMac_calls (key s : ByteArray) (hk : key.size ≤ 900000000) (hs : s.size ≤ 900000000) (w : World) : Calls Tryd.prog 24 #[.string key, .string s] w fun e_ w' => e_ = .returned (.string (mac key s)) ∧ Below w.heap.size w w' :=
  spec_MacOf.calls 70 key s _ w (specMac_f key s hk hs)
end Go.Proofs.YtlddohppkcndjaaDoor.Sha
