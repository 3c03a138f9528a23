/- One byte of a text turned: the law's own function. -/
import Derived.Test.YtlddohppkcndjaaDoorShaX
namespace Go.Proofs.YtlddohppkcndjaaDoor.Sha
open Go.RowKit Go.Proofs.YtlddohppkcndjaaDoorW.PrintWords Go.Proofs.YtlddohppkcndjaaDoorW.PrintLast Go.Proofs.YtlddohppkcndjaaDoorW.PrintMore
set_option linter.unusedVariables false
set_option linter.unusedSimpArgs false
theorem two_cells {w : World} {A : Option Addr} {l : List Int} (h : Kd.C (Kd.int .i64) w A l.length l) (hl : 2 ≤ l.length) : ∃ ad, A = some ad ∧ ∀ W, Below w.heap.size w W → W.cell? ad = some (.int .i64 (l.getD 0 0)) ∧ W.cell? ⟨ad.block, ad.off + 1, none⟩ = some (.int .i64 (l.getD 1 0)) := by
  obtain ⟨ad, c, e, _, _, _⟩ := Kd.C_get h 0 0 (by omega) (by omega)
  refine ⟨ad, e, fun W hb => ?_⟩
  have h2 := Kd.C_below h hb
  subst e
  constructor
  · obtain ⟨ad', c, e, hc, hk, hr⟩ := Kd.C_get h2 0 0 (by omega) (by omega)
    injection e with e
    subst e
    have := hr 0 (.int .i64 (l.getD 0 0)) (by rw [show c = [.int .i64 (l.getD 0 0)] from hk]; rfl)
    exact this
  · obtain ⟨ad', c, e, hc, hk, hr⟩ := Kd.C_get h2 0 1 (by omega) (by omega)
    injection e with e
    subst e
    have := hr 0 (.int .i64 (l.getD 1 0)) (by rw [show c = [.int .i64 (l.getD 1 0)] from hk]; rfl)
    exact this
set_option maxHeartbeats 4000000 in
set_option maxRecDepth 100000 in
theorem turned_calls (s : ByteArray) (hs : s.size ≤ 1152921504606846975) (A : Option Addr) (l : List Int) (cap : Nat) (hl : 2 ≤ l.length) (h0 : 0 ≤ l.getD 0 0) (w : World) (hR : Kd.C (Kd.int .i64) w A l.length l) : Calls Tryd.prog 47 #[.string s, .slice A l.length cap] w fun e_ w' => e_ = .returned (.string (turnText s (l.getD 0 0) (l.getD 1 0))) ∧ Below w.heap.size w w' := by
  obtain ⟨ad, rfl, hcell⟩ := two_cells hR hl
  obtain ⟨p0, hp0⟩ : ∃ p, l.getD 0 0 = p := ⟨_, rfl⟩
  obtain ⟨p1, hp1⟩ : ∃ p, l.getD 1 0 = p := ⟨_, rfl⟩
  rw [hp0, hp1] at hcell
  rw [hp0] at h0
  rw [hp0, hp1]
  have HC := Aside0.mk hcell
  have HB := Aside0.mk (Below.refl w.heap.size w)
  have hl0 : (0 : Int) < (l.length : Int) := by omega
  have hl1 : (1 : Int) < (l.length : Int) := by omega
  clear hcell hR hp0 hp1 hl
  by_cases hz : s.size = 0
  · have e : turnText s p0 p1 = ⟨#[120]⟩ := by unfold turnText; rw [if_pos hz]
    rw [e]
    have hz1 : ((s.size : Int) == 0) = true := by rw [hz]; rfl
    have hz2 : (s.size : Int) = 0 := by omega
    clear e hz
    go_enter Tryd.func47, Tryd.ntmps47
    go_wp2_with ((with_reducible refine gate_dst (N := 8) rfl ?_); refine wpList_bytes rfl (.tmp 7) rfl (base := w.heap.size) (s := s) (Nat.le_refl _) rfl ?_; intro v3 w2 hv3 hb2; have HR := Aside0.mk hv3; have HB2 := Aside0.mk hb2; clear hv3 hb2; obtain ⟨g3, cap3, hg3⟩ : ∃ g cap, v3 = .slice (some ⟨g, 0, none⟩) s.size cap := (by obtain ⟨g, cap, _, _, h, _⟩ := HR.out; rw [bys_len] at h; exact ⟨g, cap, h⟩); subst hg3)
    go_ret
    exact ⟨rfl, HB2.out⟩
  · have e : turnText s p0 p1 = strOfNums ((bys s).set (Int.tmod p0 s.size).toNat (Go.bits .xor .u8 ((bys s).getD (Int.tmod p0 s.size).toNat 0) ((wrap64 (1 + Int.tmod p1 255)) % 256))) := by unfold turnText; rw [if_neg hz]
    rw [e]
    clear e
    have hz1 : ((s.size : Int) == 0) = false := beq_eq_false_iff_ne.mpr (by omega)
    have hz2 : ¬ (s.size : Int) = 0 := by omega
    have q0 : 0 ≤ Int.tmod p0 s.size := Int.tmod_nonneg _ h0
    have q1 : Int.tmod p0 s.size < s.size := Int.tmod_lt_of_pos _ (by omega)
    obtain ⟨j, hj⟩ := Int.eq_ofNat_of_zero_le q0
    obtain ⟨x, hx⟩ : ∃ x, (wrap64 (1 + Int.tmod p1 255)) % 256 = x := ⟨_, rfl⟩
    rw [hj] at q1
    rw [hj, hx, Int.toNat_natCast]
    obtain ⟨z, hzz⟩ : ∃ z, (bys s).getD j 0 = z := ⟨_, rfl⟩
    rw [hzz]
    have hj0 : (0 : Int) ≤ (j : Int) := by omega
    have HZ := Aside0.mk hzz
    have HS := Aside0.mk hs
    clear q0 hzz h0 hz hs
    go_enter Tryd.func47, Tryd.ntmps47
    go_wp2_with ((with_reducible refine gate_dst (N := 8) rfl ?_); refine wpList_bytes rfl (.tmp 7) rfl (base := w.heap.size) (s := s) (Nat.le_refl _) rfl ?_; intro v3 w2 hv3 hb2; have HR := Aside0.mk hv3; have HB2 := Aside0.mk hb2; clear hv3 hb2; obtain ⟨g3, cap3, hg3⟩ : ∃ g cap, v3 = .slice (some ⟨g, 0, none⟩) s.size cap := (by obtain ⟨g, cap, _, _, h, _⟩ := HR.out; rw [bys_len] at h; exact ⟨g, cap, h⟩); subst hg3; obtain ⟨hc0, hc1⟩ := HC.out _ HB2.out; have hc := (brow_at HR.out j (by omega)).1; have hf := (brow_at HR.out j (by omega)).2; rw [HZ.out] at hc)
    go_region
    obtain ⟨hs1, hs2⟩ := brow_set HR.out j (Go.bits .xor .u8 z x)
    have hs3 : BRow w.heap.size (w2.setCell ⟨g3, j, none⟩ (.int .u8 (Go.bits .xor .u8 z x))).drew (.slice (some ⟨g3, 0, none⟩) s.size cap3) ((bys s).set j (Go.bits .xor .u8 z x)) := hs1
    have hcv := brow_string hs3
    have HE := Aside0.mk (show Below w.heap.size w (w2.setCell ⟨g3, j, none⟩ (.int .u8 (Go.bits .xor .u8 z x))).drew from (HB2.out.setCell hs2 _).drew)
    clear hs1 hs2 hs3
    go_wp2
    go_ret
    exact ⟨rfl, HE.out⟩
end Go.Proofs.YtlddohppkcndjaaDoor.Sha
