/- The law FnTurned, walked. No condition. -/
import Derived.Test.YtkfggpcljndnoaaTuR
namespace Go.Proofs.Ytkfggpcljndnoaa.PFnTurned
open Go.RowKit Go.Proofs.YtkfggpcljndnoaaW.PrintWords Go.Proofs.YtkfggpcljndnoaaW.PrintLast Go.Proofs.YtkfggpcljndnoaaW.PrintMore
set_option linter.unusedVariables false
set_option linter.unusedSimpArgs false
theorem two_cells {w : World} {A : Option Addr} {l : List Int} (h : Kd.C (Kd.int .i64) w A l.length l) (hl : 2 ≤ l.length) : ∃ ad, A = some ad ∧ ∀ W, Below w.heap.size w W → W.cell? ad = some (.int .i64 (l.getD 0 0)) ∧ W.cell? ⟨ad.block, ad.off + 1, none⟩ = some (.int .i64 (l.getD 1 0)) := by
  obtain ⟨ad, c, e, _, _, _⟩ := Kd.C_get h 0 0 (by omega) (by omega)
  refine ⟨ad, e, fun W hb => ?_⟩
  have h2 := Kd.C_below h hb
  subst e
  constructor
  · obtain ⟨ad', c, e, hc, hk, hr⟩ := Kd.C_get h2 0 0 (by omega) (by omega)
    injection e with e
    subst e
    have := hr 0 (.int .i64 (l.getD 0 0)) (by rw [show c = [.int .i64 (l.getD 0 0)] from hk]; rfl)
    exact this
  · obtain ⟨ad', c, e, hc, hk, hr⟩ := Kd.C_get h2 0 1 (by omega) (by omega)
    injection e with e
    subst e
    have := hr 0 (.int .i64 (l.getD 1 0)) (by rw [show c = [.int .i64 (l.getD 1 0)] from hk]; rfl)
    exact this

set_option maxHeartbeats 8000000 in
set_option maxRecDepth 100000 in
theorem turned_big (A0 : Option Addr) (c0 : Nat) (l0 : List Int) (w : World) (hr0 : Kd.C (Kd.int .u8) w A0 l0.length l0) (hc0 : l0.length ≤ c0) (h : laws_big.f l0 = some true) :
    Calls Try.prog 10 #[.slice A0 l0.length c0] w fun e w' => e = .returned (.bool true) ∧ Below w.heap.size w w' := by
  have HR0 := Aside0.mk hr0
  have HC0 := Aside0.mk hc0
  have A2 := Aside0.mk h
  clear hr0 hc0 h
  have HB := Aside0.mk (Below.refl w.heap.size w)
  go_enter Try.func10, Try.ntmps10
  go_wp2_with (first | ((with_reducible refine gate_callee (f := 30) rfl ?_); refine goesL_ (some 14) rfl rfl Try.func30 (by kernel_rfl) rfl #[.slice A0 l0.length c0] rfl (by (try simp only [List.map_toArray, List.map_cons, List.map_nil]); first | done | rfl | (simp only [List.length_drop, List.length_take]; rfl)) ?_; (with_reducible refine (laws_big.calls _ _ l0 true _ ?side1 ?side2 A2.out).mono ?_); (case side1 => repeat (first | exact HR0.out | exact (Kd.C_below HR0.out HB.out) | (with_reducible refine Kd.C_alloc ?_ _) | (with_reducible refine Kd.C_drewN ?_ _) | (with_reducible refine Kd.C_drew ?_))); (case side2 => exact HC0.out); rintro e w' ⟨rfl, ⟨nd, rfl⟩⟩; refine ⟨_, rfl, ?_⟩))
  go_ret
  exact ⟨rfl, by repeat (first | (with_reducible first | exact HB.out | apply below_alloc | apply pw_below_drewN | apply below_drew1) | exact HB.out)⟩
set_option maxHeartbeats 800000 in
set_option maxRecDepth 100000 in
theorem turned_law (k : Nat) (A0 : Option Addr) (c0 : Nat) (l0 : List Int) (s t x : ByteArray) (p : List Int) (p0 p1 : Int) (a b : Int) (j : Nat) (m z : Int) (w : World) (hr0 : Kd.C (Kd.int .u8) w A0 l0.length l0) (hc0 : l0.length ≤ c0) (h2 : laws_big.f l0 = some false) (h3 : spec_DrawSumOf.f k l0 = some s) (h4 : spec_DrawPlaces.f k l0 = some p) (h5 : impl_Sealed.f k s = some (t, true)) (h6 : impl_Unsealed.f k t = some (s, true)) (hlen : t.size = s.size + 4) (hsz : t.size ≤ 1000) (hp2 : 2 ≤ p.length) (hp0 : p.getD 0 0 = p0) (hp1 : p.getD 1 0 = p1) (hj : Int.tmod p0 (t.size : Int) = (j : Int)) (hjt : j < t.size) (hm : (wrap64 (1 + Int.tmod p1 255)) % 256 = m) (hz : (Sha.bys t).getD j 0 = z) (h7 : impl_Unsealed.f k (strOfNums ((Sha.bys t).set j (Go.bits .xor .u8 z m))) = some (x, false)) (h8 : impl_SumOf.f k s = some a) (h9 : impl_SumMore.f k a (⟨#[120]⟩ : ByteArray) = some b) (h10 : impl_SumOf.f k (s ++ (⟨#[120]⟩ : ByteArray)) = some b) :
    Calls Try.prog 10 #[.slice A0 l0.length c0] w fun e w' => e = .returned (.bool true) ∧ Below w.heap.size w w' := by
  have hcat : s.size + (⟨#[120]⟩ : ByteArray).size ≤ 9223372036854775807 := by clear hj hm; have : (⟨#[120]⟩ : ByteArray).size = 1 := rfl; omega
  have hcat2 : s.size + 1 ≤ 9223372036854775807 := hcat
  have hl0 : (0 : Int) < (p.length : Int) := by clear hj hm hlen hjt; omega
  have hl1 : (1 : Int) < (p.length : Int) := by clear hj hm hlen hjt; omega
  have hz1 : ((t.size : Int) == 0) = false := beq_eq_false_iff_ne.mpr (by clear hj hm; omega)
  have hz2 : ¬ (t.size : Int) = 0 := by clear hj hm; omega
  have hj0 : (0 : Int) ≤ (j : Int) := Int.natCast_nonneg j
  have hj1 : (j : Int) < (t.size : Int) := Int.ofNat_lt.2 hjt
  have HR0 := Aside0.mk hr0
  have HC0 := Aside0.mk hc0
  have A2 := Aside0.mk h2
  have A3 := Aside0.mk h3
  have A4 := Aside0.mk h4
  have A5 := Aside0.mk h5
  have A6 := Aside0.mk h6
  have A7 := Aside0.mk h7
  have A8 := Aside0.mk h8
  have A9 := Aside0.mk h9
  have A10 := Aside0.mk h10
  have HP2 := Aside0.mk hp2
  have HP0 := Aside0.mk hp0
  have HP1 := Aside0.mk hp1
  have HJ := Aside0.mk hj
  have HZ := Aside0.mk hz
  have hss : (s.toList == s.toList) = true := beq_self_eq_true _
  have hss2 : (s.toList != s.toList) = false := by rw [bne, hss]; rfl
  have hll : wrap64 ((s.size : Int) + 4) = (t.size : Int) := by clear hj hm; unfold wrap64; omega
  have HLL := Aside0.mk hll
  have hl2 : ((t.size : Int) != (t.size : Int)) = false := by simp
  clear hr0 hc0 h2 h3 h4 h5 h6 h7 h8 h9 h10 hp2 hp0 hp1 hll hz
  have HB := Aside0.mk (Below.refl w.heap.size w)
  go_enter Try.func10, Try.ntmps10
  go_upto_region 7 with (first | ((with_reducible refine gate_callee (f := 30) rfl ?_); refine goesL_ (some 14) rfl rfl Try.func30 (by kernel_rfl) rfl #[.slice A0 l0.length c0] rfl (by (try simp only [List.map_toArray, List.map_cons, List.map_nil]); first | done | rfl | (simp only [List.length_drop, List.length_take]; rfl)) ?_; (with_reducible refine (laws_big.calls _ _ l0 false _ ?side1 ?side2 A2.out).mono ?_); (case side1 => repeat (first | exact HR0.out | exact (Kd.C_below HR0.out HB.out) | (with_reducible refine Kd.C_alloc ?_ _) | (with_reducible refine Kd.C_drewN ?_ _) | (with_reducible refine Kd.C_drew ?_))); (case side2 => exact HC0.out); rintro e w' ⟨rfl, ⟨nd, rfl⟩⟩; refine ⟨_, rfl, ?_⟩) | ((with_reducible refine gate_callee (f := 31) rfl ?_); refine goesL_ (some 16) rfl rfl Try.func31 (by kernel_rfl) rfl #[.slice A0 l0.length c0] rfl (by (try simp only [List.map_toArray, List.map_cons, List.map_nil]); first | done | rfl | (simp only [List.length_drop, List.length_take]; rfl)) ?_; (with_reducible refine (spec_DrawSumOf.calls k _ _ l0 s _ ?side1 ?side2 A3.out).mono ?_); (case side1 => repeat (first | exact HR0.out | exact (Kd.C_below HR0.out HB.out) | (with_reducible refine Kd.C_alloc ?_ _) | (with_reducible refine Kd.C_drewN ?_ _) | (with_reducible refine Kd.C_drew ?_))); (case side2 => exact HC0.out); rintro e w3 ⟨rfl, hb⟩; refine ⟨_, rfl, ?_⟩; have n1_ := Aside0.mk (below_step (by repeat (first | (with_reducible first | exact HB.out | apply below_alloc | apply pw_below_drewN | apply below_drew1) | exact HB.out)) hb); clear HB; have HB := n1_; clear n1_; clear hb) | ((with_reducible refine gate_callee (f := 32) rfl ?_); refine goesL_ (some 18) rfl rfl Try.func32 (by kernel_rfl) rfl #[.slice A0 l0.length c0] rfl (by (try simp only [List.map_toArray, List.map_cons, List.map_nil]); first | done | rfl | (simp only [List.length_drop, List.length_take]; rfl)) ?_; (with_reducible refine (spec_DrawPlaces.calls k _ _ l0 p _ ?side1 ?side2 A4.out).mono ?_); (case side1 => repeat (first | exact HR0.out | exact (Kd.C_below HR0.out HB.out) | (with_reducible refine Kd.C_alloc ?_ _) | (with_reducible refine Kd.C_drewN ?_ _) | (with_reducible refine Kd.C_drew ?_))); (case side2 => exact HC0.out); rintro e w4 ⟨v4, rfl, ho0, hb⟩; refine ⟨_, rfl, ?_⟩; have n1_ := Aside0.mk (below_step (by repeat (first | (with_reducible first | exact HB.out | apply below_alloc | apply pw_below_drewN | apply below_drew1) | exact HB.out)) hb); clear HB; have HB := n1_; clear n1_; clear hb; obtain ⟨Ap, cp, rfl, _, hcp⟩ := Kd.R_reads ho0; clear ho0; obtain ⟨ad, rfl, hcell⟩ := two_cells hcp HP2.out; clear hcp; rw [HP0.out, HP1.out] at hcell; have HC := Aside0.mk hcell; clear hcell; have HD := Aside0.mk (Below.refl w4.heap.size w4)) | ((with_reducible refine gate_callee (f := 20) rfl ?_); refine goesL_ (some 21) rfl rfl Try.func20 (by kernel_rfl) rfl #[.string s] rfl (by (try simp only [List.map_toArray, List.map_cons, List.map_nil]); first | done | rfl | (simp only [List.length_drop, List.length_take]; rfl)) ?_; (with_reducible refine (impl_Sealed.calls k s t true _ A5.out).mono ?_); rintro e w5 ⟨rfl, hb⟩; refine ⟨_, rfl, ?_⟩; have n1_ := Aside0.mk (below_step (by repeat (first | (with_reducible first | exact HB.out | apply below_alloc | apply pw_below_drewN | apply below_drew1) | exact HB.out)) hb); have n2_ := Aside0.mk (below_step (by repeat (first | (with_reducible first | exact HD.out | apply below_alloc | apply pw_below_drewN | apply below_drew1) | exact HD.out)) hb); clear HB HD; have HB := n1_; have HD := n2_; clear n1_ n2_ hb) | ((with_reducible refine gate_callee (f := 22) rfl ?_); refine goesL_ (some 26) rfl rfl Try.func22 (by kernel_rfl) rfl #[.string t] rfl (by (try simp only [List.map_toArray, List.map_cons, List.map_nil]); first | done | rfl | (simp only [List.length_drop, List.length_take]; rfl)) ?_; (with_reducible refine (impl_Unsealed.calls k t s true _ A6.out).mono ?_); rintro e w6 ⟨rfl, hb⟩; refine ⟨_, rfl, ?_⟩; have n1_ := Aside0.mk (below_step (by repeat (first | (with_reducible first | exact HB.out | apply below_alloc | apply pw_below_drewN | apply below_drew1) | exact HB.out)) hb); have n2_ := Aside0.mk (below_step (by repeat (first | (with_reducible first | exact HD.out | apply below_alloc | apply pw_below_drewN | apply below_drew1) | exact HD.out)) hb); clear HB HD; have HB := n1_; have HD := n2_; clear n1_ n2_ hb))
  clear HR0 HC0 A2 A3 A4 A5 A6
  go_wp2_with (first | ((with_reducible refine gate_dst (N := 49) rfl ?_); clear hlen; refine Sha.wpList_bytes rfl (.tmp 48) rfl (base := w.heap.size) (s := t) (below_size (by repeat (first | (with_reducible first | exact HB.out | apply below_alloc | apply pw_below_drewN | apply below_drew1) | exact HB.out))) rfl ?_; intro v7 w7 hv7 hb; have n1_ := Aside0.mk (below_step (by repeat (first | (with_reducible first | exact HB.out | apply below_alloc | apply pw_below_drewN | apply below_drew1) | exact HB.out)) hb); have n2_ := Aside0.mk (below_step (by repeat (first | (with_reducible first | exact HD.out | apply below_alloc | apply pw_below_drewN | apply below_drew1) | exact HD.out)) hb); clear HB HD; have HB := n1_; have HD := n2_; clear n1_ n2_ hb; have HR := Aside0.mk hv7; clear hv7; obtain ⟨g7, cap7, hg7⟩ : ∃ g cap, v7 = .slice (some ⟨g, 0, none⟩) t.size cap := (by obtain ⟨g, cap, _, _, h, _⟩ := HR.out; rw [Sha.bys_len] at h; exact ⟨g, cap, h⟩); subst hg7; obtain ⟨hc0, hc1⟩ := HC.out _ HD.out; have hc := (Sha.brow_at HR.out j hjt).1; have hf := (Sha.brow_at HR.out j hjt).2; rw [HZ.out] at hc))
  go_region
  obtain ⟨hs1, hs2⟩ := Sha.brow_set HR.out j (Go.bits .xor .u8 z m)
  have hs3 : Sha.BRow w.heap.size (w7.setCell ⟨g7, j, none⟩ (.int .u8 (Go.bits .xor .u8 z m))).drew (.slice (some ⟨g7, 0, none⟩) t.size cap7) ((Sha.bys t).set j (Go.bits .xor .u8 z m)) := hs1
  have hcv := Sha.brow_string hs3
  have HE := Aside0.mk (show Below w.heap.size w (w7.setCell ⟨g7, j, none⟩ (.int .u8 (Go.bits .xor .u8 z m))).drew from (HB.out.setCell hs2 _).drew)
  clear hs1 hs2 hs3 hc hc0 hc1 hf HR HB HD HC hz1 hz2 hj hm hj0 hj1 hl0 hl1
  go_upto_region 13 with (first | ((with_reducible refine gate_callee (f := 22) rfl ?_); refine goesL_ (some 73) rfl rfl Try.func22 (by kernel_rfl) rfl #[.string (strOfNums ((Sha.bys t).set j (Go.bits .xor .u8 z m)))] rfl (by (try simp only [List.map_toArray, List.map_cons, List.map_nil]); first | done | rfl | (simp only [List.length_drop, List.length_take]; rfl)) ?_; (with_reducible refine (impl_Unsealed.calls k _ x false _ A7.out).mono ?_); rintro e w8 ⟨rfl, hb⟩; refine ⟨_, rfl, ?_⟩; have n1_ := Aside0.mk (below_step HE.out hb); clear HE; have HB := n1_; clear n1_ hb))
  go_wp2_with (first | (go_at_call 18; refine (impl_SumOf.calls k s a _ A8.out).mono ?_; rintro e_ w' ⟨rfl, ⟨n1, rfl⟩⟩) | (go_at_call 16; refine (impl_SumMore.calls k a _ b _ A9.out).mono ?_; rintro e_ w' ⟨rfl, ⟨n2, rfl⟩⟩) | (go_at_call 18; refine (impl_SumOf.calls k _ b _ A10.out).mono ?_; rintro e_ w' ⟨rfl, ⟨n3, rfl⟩⟩))
  go_ret
  exact ⟨rfl, by repeat (first | (with_reducible first | exact HB.out | apply below_alloc | apply pw_below_drewN | apply below_drew1) | exact HB.out)⟩
/-- What the law's walk wants to be told of the drawn text. -/
def laws_FnTurned.Ok (k : Nat) (l0 : List Int) : Prop := laws_big.f l0 = some true ∨ (laws_big.f l0 = some false ∧ ∃ (s t x : ByteArray) (p : List Int) (p0 p1 a b : Int) (j : Nat) (m z : Int), spec_DrawSumOf.f k l0 = some s ∧ spec_DrawPlaces.f k l0 = some p ∧ impl_Sealed.f k s = some (t, true) ∧ impl_Unsealed.f k t = some (s, true) ∧ t.size = s.size + 4 ∧ t.size ≤ 1000 ∧ 2 ≤ p.length ∧ p.getD 0 0 = p0 ∧ p.getD 1 0 = p1 ∧ Int.tmod p0 (t.size : Int) = (j : Int) ∧ j < t.size ∧ (wrap64 (1 + Int.tmod p1 255)) % 256 = m ∧ (Sha.bys t).getD j 0 = z ∧ impl_Unsealed.f k (strOfNums ((Sha.bys t).set j (Go.bits .xor .u8 z m))) = some (x, false) ∧ impl_SumOf.f k s = some a ∧ impl_SumMore.f k a (⟨#[120]⟩ : ByteArray) = some b ∧ impl_SumOf.f k (s ++ (⟨#[120]⟩ : ByteArray)) = some b)
def laws_FnTurned.Pure : Prop := ∀ (l0 : List Int), l0.length ≤ maxLen → l0.length * 1 ≤ 140737488351232 → (∀ x ∈ l0, (Lit.int .u8 x).wf = true) → ∃ k, laws_FnTurned.Ok k l0
theorem laws_FnTurned.walk (P : laws_FnTurned.Pure) (a0 : Option Addr) (len0 cap0 : Nat) (z0 : List Int) (w : World) (w0 : (a0 = none ∧ len0 = 0 ∧ cap0 = 0 ∧ z0 = []) ∨ ∃ x, a0 = some x ∧ len0 ≤ cap0 ∧ cap0 ≤ maxLen ∧ z0.length = cap0 ∧ (∀ i, i < z0.length → w.cell? (x.add i) = some (.int .u8 (z0.getD i 0))) ∧ ∀ n ∈ z0, (Lit.int .u8 n).wf = true) (y0 : len0 * 1 ≤ 140737488351232) :
    Calls Try.prog 10 #[.slice a0 len0 cap0] w fun e w' => e = .returned (.bool true) ∧ Below w.heap.size w w' := by
  obtain ⟨l0, rfl, hr0, hm0, hw0, hc0⟩ := ReadsInt.ofRowC w0
  obtain ⟨k, h⟩ := P l0 hm0 y0 hw0
  have hr := Kd.C_of_reads (d := (0 : Int)) (h1 := fun _ => rfl) hr0
  rcases h with h | ⟨h2, s, t, x, p, p0, p1, a, b, j, m, z, h3, h4, h5, h6, g1, g2, g3, g4, g5, g6, g7, g8, g9, h7, h8, h9, h10⟩
  · exact turned_big a0 cap0 l0 w hr hc0 h
  · exact turned_law k a0 cap0 l0 s t x p p0 p1 a b j m z w hr hc0 h2 h3 h4 h5 h6 g1 g2 g3 g4 g5 g6 g7 g8 g9 h7 h8 h9 h10
end Go.Proofs.Ytkfggpcljndnoaa.PFnTurned
