/- Of every pool and count the bytes taken and the pool behind them are the reference's. Condition: the table of the rounds' numbers reads as the program's text lays it (tied to that text). -/
import Derived.Test.YtlddohppkcndjaaDoorPFnExactPoolTakex1
set_option linter.unusedVariables false
set_option linter.unusedSimpArgs false
namespace Go.Proofs.YtlddohppkcndjaaDoor.Pure
open Go.RowKit Go.Proofs.YtlddohppkcndjaaDoor.PFnExactPoolTake Go.Proofs.YtlddohppkcndjaaDoorW.PrintWords Go.Proofs.YtlddohppkcndjaaDoorW.PrintLast Go.Proofs.YtlddohppkcndjaaDoorW.PrintMore

-- snippet plain
/-! bytes as numbers -/
def bl (s : ByteArray) : List Int := s.data.toList.map fun b => (b.toNat : Int)
theorem wr (n : Int) (h : -9223372036854775808 ≤ n) (h' : n ≤ 9223372036854775807) : wrap64 n = n := by unfold wrap64; omega
theorem pool_cases (st r : ByteArray) (c : Int) (hst : st.size ≤ 9223372036854775807) (hr : r.size ≤ 9223372036854775807) : laws_szPool.f st r c 1048576 = some (-1) ∨ ∃ v : Int, laws_szPool.f st r c 1048576 = some v ∧ 0 ≤ v ∧ st.size ≤ 1048576 ∧ r.size ≤ 1048576 := by
  unfold laws_szPool.f
  rw [wr (1048576 - (st.size : Int)) (by omega) (by omega)]
  by_cases h : 1048576 - (st.size : Int) < 0
  · rw [if_pos h]; exact .inl rfl
  · rw [if_neg h, wr (1048576 - (st.size : Int) - (r.size : Int)) (by omega) (by omega)]
    by_cases h2 : 1048576 - (st.size : Int) - (r.size : Int) < 0
    · rw [if_pos h2]; exact .inl rfl
    · rw [if_neg h2]; exact .inr ⟨_, rfl, by omega, by omega, by omega⟩
theorem FnExactPoolTake : laws_FnExactPoolTake.Pure := by
  intro k v t n hk hv ht hn
  unfold laws_FnExactPoolTake.f
  rcases pool_cases k v t hk hv with e | ⟨z, e, hz, hk', hv'⟩
  · rw [e, Option.bind_some, if_pos (by decide)]
  · rw [e, Option.bind_some, if_neg (by omega)]
    unfold laws_toPool.f impl_PoolTake.f spec_PoolTake.f
    simp only [Option.bind_some]
    obtain ⟨a, b, c, d, f⟩ := Sha.takeP k v t n
    unfold laws_eqPool.f
    simp

end Go.Proofs.YtlddohppkcndjaaDoor.Pure
