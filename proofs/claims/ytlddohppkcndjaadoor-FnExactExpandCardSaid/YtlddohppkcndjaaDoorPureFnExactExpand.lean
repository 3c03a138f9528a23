/- Of every key, text and number, of up to 1048576 bytes together, what the program expands is what the reference expands. Condition: the table of the rounds' numbers reads as the program's text lays it (tied to that text). -/
import Derived.Test.YtlddohppkcndjaaDoorPFnExactExpandx1
set_option linter.unusedVariables false
set_option linter.unusedSimpArgs false
namespace Go.Proofs.YtlddohppkcndjaaDoor.Pure
open Go.RowKit Go.Proofs.YtlddohppkcndjaaDoor.PFnExactExpand Go.Proofs.YtlddohppkcndjaaDoorW.PrintWords Go.Proofs.YtlddohppkcndjaaDoorW.PrintLast Go.Proofs.YtlddohppkcndjaaDoorW.PrintMore

-- snippet plain
/-! bytes as numbers -/
def bl (s : ByteArray) : List Int := s.data.toList.map fun b => (b.toNat : Int)
theorem wr (n : Int) (h : -9223372036854775808 ≤ n) (h' : n ≤ 9223372036854775807) : wrap64 n = n := by unfold wrap64; omega
theorem succ_of {k d : Nat} (h : d < k) : ∃ m, k = m + 1 := ⟨k - 1, by omega⟩
theorem expand_l0 (key info : ByteArray) (hk : key.size ≤ 100000000) (hi : info.size ≤ 100000000) (n : Nat) (hn : n ≤ 8160) : ∀ (d i K : Nat), i + d = (n + 31) / 32 → d < K → impl_Expand.l0 K key info (n : Int) (Sha.xpTo key info i).2 (Sha.xpTo key info i).1 ((i + 1 : Nat) : Int) = some ((Sha.xpTo key info ((n + 31) / 32)).2.extract 0 n, true) := by
  intro d
  induction d with
  | zero =>
    intro i K h hK
    obtain ⟨K, rfl⟩ := succ_of hK
    obtain ⟨s1, s2⟩ := Sha.xpTo_size key info i
    simp only [impl_Expand.l0]
    rw [if_neg (by omega), if_pos (by omega), if_pos (by omega), Int.toNat_natCast, ← h, Nat.add_zero]
  | succ d ih =>
    intro i K h hK
    obtain ⟨K, rfl⟩ := succ_of hK
    obtain ⟨s1, s2⟩ := Sha.xpTo_size key info i
    have ob : impl_oneByte.f ((i + 1 : Nat) : Int) = some (Sha.oneB (i + 1)) := by
      unfold impl_oneByte.f Sha.oneB
      congr 3
    have os := Sha.oneB_size (i + 1)
    have hm : impl_MacOf.f key (((Sha.xpTo key info i).1 ++ info) ++ Sha.oneB (i + 1)) = some (Sha.mac key (((Sha.xpTo key info i).1 ++ info) ++ Sha.oneB (i + 1))) := by
      unfold impl_MacOf.f
      rw [if_pos ⟨by omega, by rw [ByteArray.size_append, ByteArray.size_append]; omega⟩]
    have ms := Sha.mac_size key (((Sha.xpTo key info i).1 ++ info) ++ Sha.oneB (i + 1))
    have e := ih (i + 1) K (by omega) (by omega)
    simp only [impl_Expand.l0]
    rw [if_pos (by omega), if_pos (by omega), ob, Option.bind_some, if_pos (by rw [ByteArray.size_append]; omega), hm, Option.bind_some, if_pos (by omega), wr (((i + 1 : Nat) : Int) + 1) (by omega) (by omega)]
    exact e
theorem expand_f (key info : ByteArray) (hk : key.size ≤ 100000000) (hi : info.size ≤ 100000000) (n : Int) (K : Nat) (hK : 300 ≤ K) : impl_Expand.f K key info n = some (Sha.expand key info n) := by
  unfold impl_Expand.f impl_in.f Sha.expand
  by_cases h : 0 ≤ n ∧ n ≤ 8160
  · obtain ⟨m, rfl⟩ := Int.eq_ofNat_of_zero_le h.1
    rw [if_pos h.1, Option.bind_some, if_pos (decide_eq_true h.2), if_pos h, Int.toNat_natCast]
    exact expand_l0 key info hk hi m (by omega) ((m + 31) / 32) 0 K (by omega) (by omega)
  · rw [if_neg h]
    by_cases h1 : n ≥ 0
    · rw [if_pos h1, Option.bind_some, if_neg (by simp; omega)]
    · rw [if_neg h1, Option.bind_some]
      simp

theorem FnExactExpand : laws_FnExactExpand.Pure := by
  intro key info n hk hi hn
  refine ⟨300, ?_⟩
  unfold laws_FnExactExpand.f
  by_cases h1 : (key.size : Int) > 1048576
  · rw [if_pos h1]
  · rw [if_neg h1]
    by_cases h2 : (info.size : Int) > 1048576
    · rw [if_pos h2]
    · rw [if_neg h2]
      unfold spec_Expand.f
      rw [if_pos ⟨by omega, by omega⟩, expand_f key info (by omega) (by omega) n 300 (by decide)]
      simp

end Go.Proofs.YtlddohppkcndjaaDoor.Pure
