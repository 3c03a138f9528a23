/- Pools: mixed, new, fed; more bytes behind a row: walked. Condition: the table of the rounds' numbers. -/
import Derived.Test.YtlddohppkcndjaaDoorShaM
import Derived.Deep.RegionLaw
import Derived.BigRegion
import Derived.Test.YtlddohppkcndjaaDoorPPoolOkx1
import Derived.Lib.SlBuf
namespace Go.Proofs.YtlddohppkcndjaaDoor.Sha
open Go.RowKit Go.Proofs.YtlddohppkcndjaaDoorW.PrintWords Go.Proofs.YtlddohppkcndjaaDoorW.PrintLast Go.Proofs.YtlddohppkcndjaaDoorW.PrintMore Go.Proofs.YtlddohppkcndjaaDoor.PFnExactMacOf
set_option linter.unusedVariables false
set_option linter.unusedSimpArgs false
/-- What lies before block b and the others stays; b may change. -/
structure Kb (b : Nat) (w w' : World) : Prop where
  os : w'.os = w.os
  tape : w'.tape = w.tape
  output : w'.output = w.output
  size : w.heap.size ≤ w'.heap.size
  block : ∀ i, i < w.heap.size → i ≠ b → w'.heap[i]? = w.heap[i]?
theorem Kb.refl (b : Nat) (w : World) : Kb b w w := ⟨rfl, rfl, rfl, Nat.le_refl _, fun _ _ _ => rfl⟩
theorem Kb.step {b : Nat} {w W W2 : World} (h : Kb b w W) (k : Below W.heap.size W W2) : Kb b w W2 :=
  ⟨k.os.trans h.os, k.tape.trans h.tape, k.output.trans h.output, Nat.le_trans h.size k.size, fun i hi hne => (k.block i (Nat.lt_of_lt_of_le hi h.size)).trans (h.block i hi hne)⟩
theorem Kb.set {b : Nat} {w W : World} (h : Kb b w W) (i : Nat) (v : Value) : Kb b w (W.setCell ⟨b, i, none⟩ v) :=
  ⟨h.os, h.tape, h.output, by show w.heap.size ≤ (W.heap.modify _ _).size; rw [Array.size_modify]; exact h.size, fun j hj hne => (heap_setCell_other W ⟨b, i, none⟩ j v hne).trans (h.block j hj hne)⟩
theorem Kb.below {b : Nat} {w W W2 : World} (h : Below b w W) (k : Kb b W W2) (hb : b < W.heap.size) (hw : w.heap.size ≤ b) : Below w.heap.size w W2 :=
  ⟨k.os.trans h.os, k.tape.trans h.tape, k.output.trans h.output, Nat.le_trans (by omega) k.size, fun i hi => (k.block i (by omega) (by omega)).trans (h.block i (by omega))⟩
abbrev PoolAt (W : World) (b : Nat) (k v : ByteArray) (t : Int) : Prop := W.heap[b]? = some (.cells #[.string k, .string v, .int .i64 t] 40)
theorem pool_below {W W2 : World} {b : Nat} {k v : ByteArray} {t : Int} (h : PoolAt W b k v t) (hb : Below W.heap.size W W2) : PoolAt W2 b k v t := blk_below h hb
theorem pool_cells {W : World} {b : Nat} {k v : ByteArray} {t : Int} (h : PoolAt W b k v t) : W.cell? ⟨b, 0, none⟩ = some (.string k) ∧ W.cell? ⟨b, 1, none⟩ = some (.string v) ∧ W.cell? ⟨b, 2, none⟩ = some (.int .i64 t) ∧ W.frozen? ⟨b, 0, none⟩ = false ∧ W.frozen? ⟨b, 1, none⟩ = false ∧ W.frozen? ⟨b, 2, none⟩ = false :=
  ⟨blk_cell h 0, blk_cell h 1, blk_cell h 2, blk_frozen h 0, blk_frozen h 1, blk_frozen h 2⟩
theorem pool_key {W : World} {b : Nat} {k v : ByteArray} {t : Int} (h : PoolAt W b k v t) (k' : ByteArray) : PoolAt (W.setCell ⟨b, 0, none⟩ (.string k')) b k' v t := blk_put h 0 _ rfl
theorem pool_val {W : World} {b : Nat} {k v : ByteArray} {t : Int} (h : PoolAt W b k v t) (v' : ByteArray) : PoolAt (W.setCell ⟨b, 1, none⟩ (.string v')) b k v' t := blk_put h 1 _ rfl
theorem pool_takes {W : World} {b : Nat} {k v : ByteArray} {t : Int} (h : PoolAt W b k v t) (t' : Int) : PoolAt (W.setCell ⟨b, 2, none⟩ (.int .i64 t')) b k v t' := blk_put h 2 _ rfl
/-- A pool's key and value, mixed with a text. -/
def mixP (k v s : ByteArray) : ByteArray × ByteArray :=
  let k1 := mac k ((v ++ ⟨#[0]⟩) ++ s)
  let v1 := mac k1 v
  if s.size = 0 then (k1, v1) else
    let k2 := mac k1 ((v1 ++ ⟨#[1]⟩) ++ s)
    (k2, mac k2 v1)
theorem mixP_size (k v s : ByteArray) : (mixP k v s).1.size = 32 ∧ (mixP k v s).2.size = 32 := by
  unfold mixP
  simp only
  split <;> exact ⟨mac_size _ _, mac_size _ _⟩
set_option maxHeartbeats 8000000 in
set_option maxRecDepth 100000 in
theorem mix_calls0 (b : Nat) (k v s : ByteArray) (t : Int) (hk : k.size ≤ 100000000) (hv : v.size ≤ 100000000) (hs : s.size ≤ 100000000) (h0 : s = ⟨#[]⟩) (w : World) (hp : PoolAt w b k v t) (hb0 : b ≠ 0) (htab : Tab w) :
    Calls Tryd.prog 70 #[.pointer (some ⟨b, 0, none⟩), .string s] w fun e_ w' => e_ = .returned (.tuple #[]) ∧ PoolAt w' b (mixP k v s).1 (mixP k v s).2 t ∧ Kb b w w' := by
  have HA := Aside0.mk (And.intro hp (And.intro (Kb.refl b w) htab))
  have r0 : (9223372036854775807 < v.size + 1) = False := eq_false (by omega)
  obtain ⟨x0, hx0⟩ : ∃ x, v ++ (⟨#[0]⟩ : ByteArray) = x := ⟨_, rfl⟩
  have x0s : x0.size = v.size + 1 := by rw [← hx0, ByteArray.size_append]; rfl
  have r1 : (9223372036854775807 < x0.size + s.size) = False := eq_false (by omega)
  have H0 := Aside0.mk h0
  clear h0
  obtain ⟨m1, hm1⟩ : ∃ m, mac k (x0 ++ s) = m := ⟨_, rfl⟩
  obtain ⟨m2, hm2⟩ : ∃ m, mac m1 v = m := ⟨_, rfl⟩
  have m1s : m1.size = 32 := by rw [← hm1, mac_size]
  have m2s : m2.size = 32 := by rw [← hm2, mac_size]
  have HX := Aside0.mk (And.intro hk (And.intro hv (And.intro hs (And.intro x0s (And.intro m1s (And.intro m2s (And.intro hm1 (And.intro hm2 hm1))))))))
  clear hp htab hk hv hs x0s m1s m2s hm1 hm2
  go_enter Tryd.func70, Tryd.ntmps70
  go_wp2_with fail
  obtain ⟨c0, c1, c2, _, _, _⟩ := pool_cells HA.out.1
  have HM : Aside0 (∀ W : World, Tab W → Calls Tryd.prog 25 #[.string (k), .string (x0 ++ s)] W fun e_ w' => e_ = .returned (.string (m1)) ∧ Below W.heap.size W w') := ⟨fun W hT => HX.out.2.2.2.2.2.2.1 ▸ mac_calls (k) (x0 ++ s) (by have := HX.out.1; omega) (by rw [ByteArray.size_append]; have := HX.out.2.1; have := HX.out.2.2.1; have := HX.out.2.2.2.1; omega) W hT⟩
  have HP : Aside0 (PoolAt w.drew b (k) (v) t ∧ Kb b w w.drew) := ⟨HA.out.1, HA.out.2.1.step (below_drew (Below.refl _ _))⟩
  have HT : Aside0 (Tab w.drew) := ⟨tab_below HA.out.2.2 (below_drew (Below.refl _ _))⟩
  go_region_law (first | (go_simp; go_at_call 25; refine (HM.out _ HT.out).mono ?_; rintro e_ w2 ⟨rfl, hb2⟩; have P2 := pool_below HP.out.1 hb2; obtain ⟨d0, d1, d2, f0, f1, f2⟩ := pool_cells P2; have HP2 := Aside0.mk (And.intro P2 (And.intro (HP.out.2.step hb2) (tab_below HT.out hb2))); clear P2 hb2))
  all_goals
    go_step
    go_step
    refine wp_world (fun V1 hV1 => ?_)
    have HB_ : Aside0 (PoolAt V1 b (m1) (v) t ∧ Kb b w V1 ∧ Tab V1) := by
      rw [hV1]
      exact ⟨pool_key HP2.out.1 _, HP2.out.2.1.set _ _, tab_set HP2.out.2.2 hb0 _ _⟩
    clear hV1 HA HP HT HM HP2 c0 c1 c2 d0 d1 d2 f0 f1 f2
    have HA := HB_
    clear HB_
    go_wp2_with fail
    obtain ⟨c0, c1, c2, _, _, _⟩ := pool_cells HA.out.1
    have HM : Aside0 (∀ W : World, Tab W → Calls Tryd.prog 25 #[.string (m1), .string (v)] W fun e_ w' => e_ = .returned (.string (m2)) ∧ Below W.heap.size W w') := ⟨fun W hT => HX.out.2.2.2.2.2.2.2.1 ▸ mac_calls (m1) (v) (by have := HX.out.2.2.2.2.1; omega) (by have := HX.out.2.1; omega) W hT⟩
    have HP : Aside0 (PoolAt V1.drew b (m1) (v) t ∧ Kb b w V1.drew) := ⟨HA.out.1, HA.out.2.1.step (below_drew (Below.refl _ _))⟩
    have HT : Aside0 (Tab V1.drew) := ⟨tab_below HA.out.2.2 (below_drew (Below.refl _ _))⟩
    go_region_law (first | (go_simp; go_at_call 25; refine (HM.out _ HT.out).mono ?_; rintro e_ w2 ⟨rfl, hb2⟩; have P2 := pool_below HP.out.1 hb2; obtain ⟨d0, d1, d2, f0, f1, f2⟩ := pool_cells P2; have HP2 := Aside0.mk (And.intro P2 (And.intro (HP.out.2.step hb2) (tab_below HT.out hb2))); clear P2 hb2))
    all_goals
      go_step
      go_step
      refine wp_world (fun V2 hV2 => ?_)
      have HB_ : Aside0 (PoolAt V2 b (m1) (m2) t ∧ Kb b w V2 ∧ Tab V2) := by
        rw [hV2]
        exact ⟨pool_val HP2.out.1 _, HP2.out.2.1.set _ _, tab_set HP2.out.2.2 hb0 _ _⟩
      clear hV2 HA HP HT HM HP2 c0 c1 c2 d0 d1 d2 f0 f1 f2
      have HA := HB_
      clear HB_
      have h0 := H0.out
      go_wp2
      go_end0
      refine ⟨rfl, ?_, HA.out.2.1⟩
      have e : mixP k v s = (m1, m2) := by
        unfold mixP
        simp only [hx0, HX.out.2.2.2.2.2.2.1, HX.out.2.2.2.2.2.2.2.1]
        rw [if_pos (by rw [H0.out]; rfl)]
      rw [e]
      exact HA.out.1
set_option maxHeartbeats 8000000 in
set_option maxRecDepth 100000 in
theorem mix_calls1 (b : Nat) (k v s : ByteArray) (t : Int) (hk : k.size ≤ 100000000) (hv : v.size ≤ 100000000) (hs : s.size ≤ 100000000) (h0 : ¬ s = ⟨#[]⟩) (w : World) (hp : PoolAt w b k v t) (hb0 : b ≠ 0) (htab : Tab w) :
    Calls Tryd.prog 70 #[.pointer (some ⟨b, 0, none⟩), .string s] w fun e_ w' => e_ = .returned (.tuple #[]) ∧ PoolAt w' b (mixP k v s).1 (mixP k v s).2 t ∧ Kb b w w' := by
  have HA := Aside0.mk (And.intro hp (And.intro (Kb.refl b w) htab))
  have r0 : (9223372036854775807 < v.size + 1) = False := eq_false (by omega)
  obtain ⟨x0, hx0⟩ : ∃ x, v ++ (⟨#[0]⟩ : ByteArray) = x := ⟨_, rfl⟩
  have x0s : x0.size = v.size + 1 := by rw [← hx0, ByteArray.size_append]; rfl
  have r1 : (9223372036854775807 < x0.size + s.size) = False := eq_false (by omega)
  have H0 := Aside0.mk h0
  clear h0
  obtain ⟨m1, hm1⟩ : ∃ m, mac k (x0 ++ s) = m := ⟨_, rfl⟩
  obtain ⟨m2, hm2⟩ : ∃ m, mac m1 v = m := ⟨_, rfl⟩
  have m1s : m1.size = 32 := by rw [← hm1, mac_size]
  have m2s : m2.size = 32 := by rw [← hm2, mac_size]
  obtain ⟨y0, hy0⟩ : ∃ x, m2 ++ (⟨#[1]⟩ : ByteArray) = x := ⟨_, rfl⟩
  have y0s : y0.size = 33 := by rw [← hy0, ByteArray.size_append, m2s]; rfl
  obtain ⟨m3, hm3⟩ : ∃ m, mac m1 (y0 ++ s) = m := ⟨_, rfl⟩
  obtain ⟨m4, hm4⟩ : ∃ m, mac m3 m2 = m := ⟨_, rfl⟩
  have m3s : m3.size = 32 := by rw [← hm3, mac_size]
  have r2 : (9223372036854775807 < m2.size + 1) = False := eq_false (by omega)
  have r3 : (9223372036854775807 < y0.size + s.size) = False := eq_false (by omega)
  have HX := Aside0.mk (And.intro hk (And.intro hv (And.intro hs (And.intro x0s (And.intro m1s (And.intro m2s (And.intro hm1 (And.intro hm2 (And.intro y0s (And.intro m3s (And.intro hm3 hm4)))))))))))
  clear hp htab hk hv hs x0s m1s m2s hm1 hm2 y0s m3s hm3 hm4
  go_enter Tryd.func70, Tryd.ntmps70
  go_wp2_with fail
  obtain ⟨c0, c1, c2, _, _, _⟩ := pool_cells HA.out.1
  have HM : Aside0 (∀ W : World, Tab W → Calls Tryd.prog 25 #[.string (k), .string (x0 ++ s)] W fun e_ w' => e_ = .returned (.string (m1)) ∧ Below W.heap.size W w') := ⟨fun W hT => HX.out.2.2.2.2.2.2.1 ▸ mac_calls (k) (x0 ++ s) (by have := HX.out.1; omega) (by rw [ByteArray.size_append]; have := HX.out.2.1; have := HX.out.2.2.1; have := HX.out.2.2.2.1; omega) W hT⟩
  have HP : Aside0 (PoolAt w.drew b (k) (v) t ∧ Kb b w w.drew) := ⟨HA.out.1, HA.out.2.1.step (below_drew (Below.refl _ _))⟩
  have HT : Aside0 (Tab w.drew) := ⟨tab_below HA.out.2.2 (below_drew (Below.refl _ _))⟩
  go_region_law (first | (go_simp; go_at_call 25; refine (HM.out _ HT.out).mono ?_; rintro e_ w2 ⟨rfl, hb2⟩; have P2 := pool_below HP.out.1 hb2; obtain ⟨d0, d1, d2, f0, f1, f2⟩ := pool_cells P2; have HP2 := Aside0.mk (And.intro P2 (And.intro (HP.out.2.step hb2) (tab_below HT.out hb2))); clear P2 hb2))
  all_goals
    go_step
    go_step
    refine wp_world (fun V1 hV1 => ?_)
    have HB_ : Aside0 (PoolAt V1 b (m1) (v) t ∧ Kb b w V1 ∧ Tab V1) := by
      rw [hV1]
      exact ⟨pool_key HP2.out.1 _, HP2.out.2.1.set _ _, tab_set HP2.out.2.2 hb0 _ _⟩
    clear hV1 HA HP HT HM HP2 c0 c1 c2 d0 d1 d2 f0 f1 f2
    have HA := HB_
    clear HB_
    go_wp2_with fail
    obtain ⟨c0, c1, c2, _, _, _⟩ := pool_cells HA.out.1
    have HM : Aside0 (∀ W : World, Tab W → Calls Tryd.prog 25 #[.string (m1), .string (v)] W fun e_ w' => e_ = .returned (.string (m2)) ∧ Below W.heap.size W w') := ⟨fun W hT => HX.out.2.2.2.2.2.2.2.1 ▸ mac_calls (m1) (v) (by have := HX.out.2.2.2.2.1; omega) (by have := HX.out.2.1; omega) W hT⟩
    have HP : Aside0 (PoolAt V1.drew b (m1) (v) t ∧ Kb b w V1.drew) := ⟨HA.out.1, HA.out.2.1.step (below_drew (Below.refl _ _))⟩
    have HT : Aside0 (Tab V1.drew) := ⟨tab_below HA.out.2.2 (below_drew (Below.refl _ _))⟩
    go_region_law (first | (go_simp; go_at_call 25; refine (HM.out _ HT.out).mono ?_; rintro e_ w2 ⟨rfl, hb2⟩; have P2 := pool_below HP.out.1 hb2; obtain ⟨d0, d1, d2, f0, f1, f2⟩ := pool_cells P2; have HP2 := Aside0.mk (And.intro P2 (And.intro (HP.out.2.step hb2) (tab_below HT.out hb2))); clear P2 hb2))
    all_goals
      go_step
      go_step
      refine wp_world (fun V2 hV2 => ?_)
      have HB_ : Aside0 (PoolAt V2 b (m1) (m2) t ∧ Kb b w V2 ∧ Tab V2) := by
        rw [hV2]
        exact ⟨pool_val HP2.out.1 _, HP2.out.2.1.set _ _, tab_set HP2.out.2.2 hb0 _ _⟩
      clear hV2 HA HP HT HM HP2 c0 c1 c2 d0 d1 d2 f0 f1 f2
      have HA := HB_
      clear HB_
      have h0 := H0.out
      have h2 : ¬ s.toList = [] := fun h => h0 (by apply ba_ext; rw [show bys (⟨#[]⟩ : ByteArray) = [] from rfl]; unfold bys; rw [← ByteArray.toList_eq, h]; rfl)
      have h1 : (!s.toList.isEmpty) = true := by cases hl : s.toList with
        | nil => exact absurd hl h2
        | cons _ _ => rfl
      have HE := Aside0.mk h2
      clear h0 h2
      go_wp2_with fail
      obtain ⟨c0, c1, c2, _, _, _⟩ := pool_cells HA.out.1
      have HM : Aside0 (∀ W : World, Tab W → Calls Tryd.prog 25 #[.string (m1), .string (y0 ++ s)] W fun e_ w' => e_ = .returned (.string (m3)) ∧ Below W.heap.size W w') := ⟨fun W hT => HX.out.2.2.2.2.2.2.2.2.2.2.1 ▸ mac_calls (m1) (y0 ++ s) (by have := HX.out.2.2.2.2.1; omega) (by rw [ByteArray.size_append]; have := HX.out.2.2.1; have := HX.out.2.2.2.2.2.2.2.2.1; omega) W hT⟩
      have HP : Aside0 (PoolAt V2.drew b (m1) (m2) t ∧ Kb b w V2.drew) := ⟨HA.out.1, HA.out.2.1.step (below_drew (Below.refl _ _))⟩
      have HT : Aside0 (Tab V2.drew) := ⟨tab_below HA.out.2.2 (below_drew (Below.refl _ _))⟩
      go_region_law (first | (go_simp; go_at_call 25; refine (HM.out _ HT.out).mono ?_; rintro e_ w2 ⟨rfl, hb2⟩; have P2 := pool_below HP.out.1 hb2; obtain ⟨d0, d1, d2, f0, f1, f2⟩ := pool_cells P2; have HP2 := Aside0.mk (And.intro P2 (And.intro (HP.out.2.step hb2) (tab_below HT.out hb2))); clear P2 hb2))
      all_goals
        go_step
        go_step
        refine wp_world (fun V3 hV3 => ?_)
        have HB_ : Aside0 (PoolAt V3 b (m3) (m2) t ∧ Kb b w V3 ∧ Tab V3) := by
          rw [hV3]
          exact ⟨pool_key HP2.out.1 _, HP2.out.2.1.set _ _, tab_set HP2.out.2.2 hb0 _ _⟩
        clear hV3 HA HP HT HM HP2 c0 c1 c2 d0 d1 d2 f0 f1 f2
        have HA := HB_
        clear HB_
        go_wp2_with fail
        obtain ⟨c0, c1, c2, _, _, _⟩ := pool_cells HA.out.1
        have HM : Aside0 (∀ W : World, Tab W → Calls Tryd.prog 25 #[.string (m3), .string (m2)] W fun e_ w' => e_ = .returned (.string (m4)) ∧ Below W.heap.size W w') := ⟨fun W hT => HX.out.2.2.2.2.2.2.2.2.2.2.2 ▸ mac_calls (m3) (m2) (by have := HX.out.2.2.2.2.2.2.2.2.2.1; omega) (by have := HX.out.2.2.2.2.2.1; omega) W hT⟩
        have HP : Aside0 (PoolAt V3.drew b (m3) (m2) t ∧ Kb b w V3.drew) := ⟨HA.out.1, HA.out.2.1.step (below_drew (Below.refl _ _))⟩
        have HT : Aside0 (Tab V3.drew) := ⟨tab_below HA.out.2.2 (below_drew (Below.refl _ _))⟩
        go_region_law (first | (go_simp; go_at_call 25; refine (HM.out _ HT.out).mono ?_; rintro e_ w2 ⟨rfl, hb2⟩; have P2 := pool_below HP.out.1 hb2; obtain ⟨d0, d1, d2, f0, f1, f2⟩ := pool_cells P2; have HP2 := Aside0.mk (And.intro P2 (And.intro (HP.out.2.step hb2) (tab_below HT.out hb2))); clear P2 hb2))
        all_goals
          (try simp only [Exit.inBlock, Exit.then])
          have HB_ : PoolAt (w2.setCell ⟨b, 1, none⟩ (.string m4)) b m3 m4 t ∧ Kb b w (w2.setCell ⟨b, 1, none⟩ (.string m4)) := ⟨pool_val HP2.out.1 _, HP2.out.2.1.set _ _⟩
          have e : mixP k v s = (m3, m4) := by
            unfold mixP
            simp only [hx0, HX.out.2.2.2.2.2.2.1, HX.out.2.2.2.2.2.2.2.1]
            rw [if_neg (fun h => HE.out (by rw [ByteArray.toList_eq]; exact List.eq_nil_of_length_eq_zero (by rw [Array.length_toList]; exact h))), hy0, HX.out.2.2.2.2.2.2.2.2.2.2.1, HX.out.2.2.2.2.2.2.2.2.2.2.2]
          go_wp2_with fail
          go_end0
          refine ⟨rfl, ?_, HB_.2⟩
          rw [e]
          exact HB_.1
end Go.Proofs.YtlddohppkcndjaaDoor.Sha
namespace Go.Proofs.YtlddohppkcndjaaDoor.Sha
open Go.RowKit Go.Proofs.YtlddohppkcndjaaDoorW.PrintWords Go.Proofs.YtlddohppkcndjaaDoorW.PrintLast Go.Proofs.YtlddohppkcndjaaDoorW.PrintMore
set_option linter.unusedVariables false
set_option linter.unusedSimpArgs false
theorem mix_calls (b : Nat) (k v s : ByteArray) (t : Int) (hk : k.size ≤ 100000000) (hv : v.size ≤ 100000000) (hs : s.size ≤ 100000000) (w : World) (hp : PoolAt w b k v t) (hb0 : b ≠ 0) (htab : Tab w) :
    Calls Tryd.prog 70 #[.pointer (some ⟨b, 0, none⟩), .string s] w fun e_ w' => e_ = .returned (.tuple #[]) ∧ PoolAt w' b (mixP k v s).1 (mixP k v s).2 t ∧ Kb b w w' := by
  by_cases h : s = ⟨#[]⟩
  · exact mix_calls0 b k v s t hk hv hs h w hp hb0 htab
  · exact mix_calls1 b k v s t hk hv hs h w hp hb0 htab
theorem size40 : (Tryd.prog.info? 40).map (·.size) = some 3 := by kernel_rfl
section
variable {ops : Array Oper} {rest : List Oper} {o : Oper} {a : Act} {w : World} {Q : Exit → Act → World → Prop} {x y z x' y' z' : Value} {b : Nat} {t : TypeId}
theorem ld40 (hb : w.heap[b]? = some (.cells #[x, y, z] t (0, 0))) (u : Operand) (hgd : o.guard = none) (ho : o.op = .load 40 u) (hx : a.eval u = .pointer (some ⟨b, 0, none⟩)) (h : wpList Tryd.prog ops Q rest (a.put o.dst (.agg #[x, y, z])) w) : wpList Tryd.prog ops Q (o :: rest) a w :=
  wpList_load_row hgd 40 u ho b hx t _ _ _ hb Tryd.underlying40 rfl (by rw [size40]; rfl) h
theorem st40 (hb : w.heap[b]? = some (.cells #[x, y, z] t (0, 0))) (u v : Operand) (hgd : o.guard = none) (ho : o.op = .store 40 u v) (hx : a.eval u = .pointer (some ⟨b, 0, none⟩)) (hy : a.eval v = .agg #[x', y', z']) (h1 : (#[x', y', z'] : Array Value).all (·.oneCell') = true) (h : wpList Tryd.prog ops Q rest (a.put o.dst undef) (w.setRow b #[x', y', z'])) : wpList Tryd.prog ops Q (o :: rest) a w :=
  wpList_store_row hgd 40 u v ho b _ hx hy t _ hb (by rw [size40]; rfl) rfl h1 h
end
theorem ret40 {fn : Func} {p : Tmp} {x y z : Value} (h : fn.results = #[.cell p 40]) (tmps : Array Value) (w : World) {b : Nat} {t : TypeId} (hb : w.heap[b]? = some (.cells #[x, y, z] t (0, 0))) (hp : tmps.getD p undef = .pointer (some ⟨b, 0, none⟩)) : (results fn tmps).run Tryd.prog w = .ok (.agg #[x, y, z]) w :=
  results_cell_row h tmps w b t _ _ _ hp hb Tryd.underlying40 rfl (by rw [size40]; rfl)
theorem setRow_far {w : World} {b i : Nat} {cs : Array Value} (hne : i ≠ b) : (w.setRow b cs).heap[i]? = w.heap[i]? := by
  show (w.heap.modify b _)[i]? = _
  rw [Array.getElem?_modify, if_neg (fun h => hne h.symm)]
theorem kb_below {b : Nat} {w W W2 : World} (h : Below w.heap.size w W) (k : Kb b W W2) (hw : w.heap.size ≤ b) : Below w.heap.size w W2 :=
  ⟨k.os.trans h.os, k.tape.trans h.tape, k.output.trans h.output, Nat.le_trans h.size k.size, fun i hi => (k.block i (Nat.lt_of_lt_of_le hi h.size) (by omega)).trans (h.block i hi)⟩
def z32 : ByteArray := strOfNums (List.replicate 32 0)
def o32 : ByteArray := xorText z32 1
theorem z32_size : z32.size = 32 := by unfold z32; rw [strOfNums_size, List.length_replicate]
theorem o32_size : o32.size = 32 := by unfold o32; rw [xorText_size, z32_size]
theorem zeros32 : Pending.impl_zeros.f 32 = some z32 := by
  unfold Pending.impl_zeros.f
  rw [if_pos (by decide), if_pos (by decide)]
  rfl
set_option maxHeartbeats 4000000 in
set_option maxRecDepth 100000 in
theorem poolNew_calls (s : ByteArray) (hs : s.size ≤ 100000000) (w : World) (htab : Tab w) : Calls Tryd.prog 29 #[.string s] w fun e_ w' => e_ = .returned (.agg #[.string (mixP z32 o32 s).1, .string (mixP z32 o32 s).2, .int .i64 0]) ∧ Below w.heap.size w w' := by
  have HB := Aside0.mk (Below.refl w.heap.size w)
  have HT := Aside0.mk htab
  have HX := Aside0.mk (show xorText z32 1 = o32 from rfl)
  have HO := Aside0.mk o32_size
  have HZ := Aside0.mk z32_size
  have HZ3 := Aside0.mk zeros32
  generalize z32 = Z at *
  generalize o32 = O at *
  obtain ⟨⟨K', V'⟩, hm⟩ : ∃ q, mixP Z O s = q := ⟨_, rfl⟩
  have HM := Aside0.mk hm
  rw [hm]
  clear htab hm
  go_enter Tryd.func29, Tryd.ntmps29
  go_wp2_with (first | (go_at_call 62; refine (Pending.impl_zeros.calls 32 Z _ HZ3.out).mono ?_; rintro e_ w1 ⟨rfl, hb1⟩; have HQ_ : Aside0 (Below (w.heap.size + 1) (w.alloc (.cells #[.string ⟨#[]⟩, .string ⟨#[]⟩, .int .i64 0] 40)) w1) := (by first | exact ⟨(by rw [← sz_alloc w (.cells #[.string ⟨#[]⟩, .string ⟨#[]⟩, .int .i64 0] 40)]; exact hb1)⟩ | exact ⟨HQ.out.trans (hb1.mono (by have := HQ.out.size; rw [sz_alloc] at this; exact this))⟩); (try clear HQ); have HQ := HQ_; clear HQ_ hb1) | (go_at_call 63; refine (xored_calls Z 1 (by have := HZ.out; omega) _).mono ?_; rw [HX.out]; rintro e_ w2 ⟨rfl, hb2⟩; have HQ_ : Aside0 (Below (w.heap.size + 1) (w.alloc (.cells #[.string ⟨#[]⟩, .string ⟨#[]⟩, .int .i64 0] 40)) w2) := ⟨HQ.out.trans (hb2.mono (by have := HQ.out.size; rw [sz_alloc] at this; exact this))⟩; clear HQ; have HQ := HQ_; clear HQ_ hb2) | ((with_reducible refine gate_store (t := 40) (p := 3) rfl ?_); refine st40 (heap_alloc_last _ _) (.tmp 3) (.tmp 7) rfl rfl rfl rfl (by simp [Value.oneCell']) ?_) | (go_at_call 70; have hq2 := HQ.out.size; rw [sz_alloc] at hq2; have hb1 : Below w.heap.size w w2 := (HB.out.alloc (Nat.le_refl _) (.cells #[.string ⟨#[]⟩, .string ⟨#[]⟩, .int .i64 0] 40)).trans (HQ.out.mono (by omega)); have hbW := setRow_below (below_alloc hb1 (.cells #[.string ⟨#[]⟩, .string ⟨#[]⟩, .int .i64 0] 40)) (show w.heap.size ≤ w2.heap.size by omega) (#[.string Z, .string O, .int .i64 0] : Array Value); have hr0 : ((w2.alloc (.cells #[.string ⟨#[]⟩, .string ⟨#[]⟩, .int .i64 0] 40)).setRow w2.heap.size #[.string Z, .string O, .int .i64 0]).heap[w.heap.size]? = some (.cells #[.string ⟨#[]⟩, .string ⟨#[]⟩, .int .i64 0] 40) := (setRow_far (by omega)).trans (blk_alloc ((HQ.out.block _ (by omega)).trans (heap_alloc_last w (.cells #[.string ⟨#[]⟩, .string ⟨#[]⟩, .int .i64 0] 40))) _); refine (mix_calls w2.heap.size Z O s 0 (by have := HZ.out; omega) (by have := HO.out; omega) hs _ (setRow_heap _ _ _ _ _ _ (heap_alloc_last _ _)) (by omega) (tab_below HT.out hbW)).mono ?_; rw [HM.out]; rintro e_ w3 ⟨rfl, hp3, hk3⟩; have HF := Aside0.mk (And.intro hp3 (And.intro (kb_below hbW hk3 (by omega)) ((hk3.block _ (by rw [size_setRow, sz_alloc]; omega) (by omega)).trans hr0))); clear hp3 hk3 hr0 hbW hb1 hq2) | ((with_reducible refine gate_dst (N := 10) rfl ?_); refine ld40 HF.out.1 (.tmp 3) rfl rfl rfl ?_) | ((with_reducible refine gate_store (t := 40) (p := 2) rfl ?_); refine st40 HF.out.2.2 (.tmp 2) (.tmp 10) rfl rfl rfl rfl (by simp [Value.oneCell']) ?_))
  (try simp only [Exit.inBlock, Exit.then])
  exact bodyPost_ret (ret40 (x := .string K') (y := .string V') (z := .int .i64 0) rfl _ _ (setRow_heap _ _ _ _ _ _ HF.out.2.2) rfl) rfl ⟨rfl, setRow_below HF.out.2.1 (Nat.le_refl _) _⟩
/-- Is a pool right? -/
def pOk (k v : ByteArray) (t : Int) : Bool := decide (k.size = 32 ∧ v.size = 32 ∧ 0 ≤ t ∧ t ≤ 20)
theorem poolOk_f (k v : ByteArray) (t : Int) : PPoolOk.impl_PoolOk.f k v t = some (pOk k v t) := by
  unfold PPoolOk.impl_PoolOk.f PPoolOk.impl_in.f pOk
  by_cases h1 : k.size = 32
  · rw [if_pos (by omega)]
    by_cases h2 : v.size = 32
    · rw [if_pos (by omega)]
      by_cases h3 : 0 ≤ t <;> simp [h1, h2, h3]
    · rw [if_neg (by omega)]; simp [h2]
  · rw [if_neg (by omega)]; simp [h1]
def feedP (k v : ByteArray) (t : Int) (s : ByteArray) : ByteArray × ByteArray × Int := if pOk k v t = true then ((mixP k v s).1, (mixP k v s).2, 0) else (k, v, t)
set_option maxHeartbeats 4000000 in
set_option maxRecDepth 100000 in
theorem poolFeed_calls (k v : ByteArray) (t : Int) (s : ByteArray) (hs : s.size ≤ 100000000) (w : World) (htab : Tab w) : Calls Tryd.prog 36 #[.agg #[.string k, .string v, .int .i64 t], .string s] w fun e_ w' => e_ = .returned (.agg #[.string (feedP k v t s).1, .string (feedP k v t s).2.1, .int .i64 (feedP k v t s).2.2]) ∧ Below w.heap.size w w' := by
  have HB := Aside0.mk (Below.refl w.heap.size w)
  have HT := Aside0.mk htab
  clear htab
  have hof := poolOk_f k v t
  obtain ⟨B, hB⟩ : ∃ B, pOk k v t = B := ⟨_, rfl⟩
  rw [hB] at hof
  have HO := Aside0.mk hof
  clear hof
  have b0 : ∀ W, Below (w.heap.size + 2) ((w.alloc (.cells #[.string k, .string v, .int .i64 t] 40)).alloc (.cells #[.string ⟨#[]⟩, .string ⟨#[]⟩, .int .i64 0] 40)) W → Below w.heap.size w W ∧ PoolAt W w.heap.size k v t ∧ W.heap[w.heap.size + 1]? = some (.cells #[.string ⟨#[]⟩, .string ⟨#[]⟩, .int .i64 0] 40) ∧ w.heap.size + 2 ≤ W.heap.size := fun W h =>
    ⟨((HB.out.alloc (Nat.le_refl _) _).alloc (by rw [sz_alloc]; omega) _).trans (h.mono (by omega)), (h.block _ (by omega)).trans (blk_alloc (blk_new _ _) _), (h.block _ (by omega)).trans (heap_alloc2_new w _ _), by have := h.size; rw [sz_alloc, sz_alloc] at this; exact this⟩
  have HB0 := Aside0.mk b0
  clear b0
  cases B with
  | false =>
    have e : feedP k v t s = (k, v, t) := by unfold feedP; rw [hB]; rfl
    rw [e]
    clear e hB
    go_enter Tryd.func36, Tryd.ntmps36
    go_wp2_with (first | ((with_reducible refine gate_dst (N := 5) rfl ?_); refine ld40 (blk_alloc (blk_new _ _) _) (.tmp 2) rfl rfl rfl ?_) | (go_at_call 49; refine (PPoolOk.impl_PoolOk.calls k v t _ _ HO.out).mono ?_; rintro e_ w1 ⟨rfl, hb1⟩; have HQ := Aside0.mk (HB0.out w1 (by rw [sz_alloc, sz_alloc] at hb1; exact hb1)); clear hb1) | ((with_reducible refine gate_dst (N := 10) rfl ?_); refine ld40 HQ.out.2.1 (.tmp 2) rfl rfl rfl ?_) | ((with_reducible refine gate_store (t := 40) (p := 4) rfl ?_); refine st40 HQ.out.2.2.1 (.tmp 4) (.tmp 10) rfl rfl rfl rfl (by simp [Value.oneCell']) ?_))
    (try simp only [Exit.inBlock, Exit.then])
    exact bodyPost_ret (ret40 (x := .string k) (y := .string v) (z := .int .i64 t) rfl _ _ (setRow_heap _ _ _ _ _ _ HQ.out.2.2.1) rfl) rfl ⟨rfl, setRow_below HQ.out.1 (by omega) _⟩
  | true =>
    have hok := hB
    unfold pOk at hok
    simp only [decide_eq_true_eq] at hok
    obtain ⟨hk32, hv32, _, _⟩ := hok
    obtain ⟨⟨K', V'⟩, hm⟩ : ∃ q, mixP k v s = q := ⟨_, rfl⟩
    have e : feedP k v t s = (K', V', 0) := by unfold feedP; rw [hB, hm]; rfl
    rw [e]
    have HM := Aside0.mk (And.intro hm (And.intro hk32 hv32))
    clear e hB hm hk32 hv32
    go_enter Tryd.func36, Tryd.ntmps36
    go_wp2_with (first | ((with_reducible refine gate_dst (N := 5) rfl ?_); refine ld40 (blk_alloc (blk_new _ _) _) (.tmp 2) rfl rfl rfl ?_) | (go_at_call 49; refine (PPoolOk.impl_PoolOk.calls k v t _ _ HO.out).mono ?_; rintro e_ w1 ⟨rfl, hb1⟩; have HQ := Aside0.mk (HB0.out w1 (by rw [sz_alloc, sz_alloc] at hb1; exact hb1)); clear hb1) | (go_at_call 70; have h0 := tab_lt HT.out; refine (mix_calls w.heap.size k v s t (by have := HM.out.2.1; omega) (by have := HM.out.2.2; omega) hs _ HQ.out.2.1 (by omega) (tab_below HT.out HQ.out.1)).mono ?_; clear h0; rw [HM.out.1]; rintro e_ w3 ⟨rfl, hp3, hk3⟩; have HF := Aside0.mk (And.intro hp3 (And.intro (kb_below HQ.out.1 hk3 (Nat.le_refl _)) ((hk3.block _ (by have := HQ.out.2.2.2; omega) (by omega)).trans HQ.out.2.2.1))); have c2 := (pool_cells hp3).2.2.1; have f2 := (pool_cells hp3).2.2.2.2.2; clear hp3 hk3) | ((with_reducible refine gate_dst (N := 10) rfl ?_); refine ld40 (pool_takes HF.out.1 0) (.tmp 2) rfl rfl rfl ?_) | ((with_reducible refine gate_store (t := 40) (p := 4) rfl ?_); refine st40 (blk_far HF.out.2.2 (by show w.heap.size + 1 ≠ w.heap.size; omega) _) (.tmp 4) (.tmp 10) rfl rfl rfl rfl (by simp [Value.oneCell']) ?_))
    (try simp only [Exit.inBlock, Exit.then])
    exact bodyPost_ret (ret40 (x := .string K') (y := .string V') (z := .int .i64 0) rfl _ _ (setRow_heap _ _ _ _ _ _ (blk_far HF.out.2.2 (by show w.heap.size + 1 ≠ w.heap.size; omega) _)) rfl) rfl ⟨rfl, setRow_below (HF.out.2.1.setCell (Nat.le_refl _) _) (by omega) _⟩
end Go.Proofs.YtlddohppkcndjaaDoor.Sha
namespace Go.Proofs.YtlddohppkcndjaaDoor.Sha
open Go.RowKit Go.Proofs.YtlddohppkcndjaaDoorW.PrintWords Go.Proofs.YtlddohppkcndjaaDoorW.PrintLast Go.Proofs.YtlddohppkcndjaaDoorW.PrintMore
set_option linter.unusedVariables false
set_option linter.unusedSimpArgs false
set_option maxRecDepth 100000
theorem heap_setCells {g : Nat} {fr : Nat × Nat} {e : TypeId} : ∀ (ys xs : List Int) (w : World) (cur : Array Value), w.heap[g]? = some (.cells cur e fr) → xs.length + ys.length ≤ cur.size → cur.toList.take xs.length = u8s xs →
    ∃ cur', (w.setCells g xs.length (u8s ys)).heap[g]? = some (.cells cur' e fr) ∧ cur'.size = cur.size ∧ cur'.toList.take (xs ++ ys).length = u8s (xs ++ ys)
  | [], xs, w, cur, hg, _, ht => ⟨cur, hg, rfl, by rw [List.append_nil]; exact ht⟩
  | y :: ys, xs, w, cur, hg, hs, ht => by
    have hs' : xs.length < cur.size := by simp only [List.length_cons] at hs; omega
    obtain ⟨cur', h1, h2, h3⟩ := heap_setCells ys (xs ++ [y]) (w.setCell ⟨g, xs.length, none⟩ (.int .u8 y)) (cur.setIfInBounds xs.length (.int .u8 y)) (heap_set hg _) (by rw [Array.size_setIfInBounds, List.length_append]; simp only [List.length_cons, List.length_nil] at hs ⊢; omega) (by
      rw [Array.toList_setIfInBounds, List.length_append, List.length_singleton, List.take_add_one, List.take_set_of_le (Nat.le_refl _), ht]
      unfold u8s
      rw [List.map_append]
      congr 1
      rw [List.getElem?_set_self (by simp only [Array.length_toList]; omega)]
      rfl)
    refine ⟨cur', ?_, by rw [h2, Array.size_setIfInBounds], by rw [List.append_assoc] at h3; exact h3⟩
    rw [List.length_append] at h1
    exact h1
theorem below_setCells_ {B g : Nat} {a : World} (hb : B ≤ g) : ∀ (vs : List Value) (o : Nat) {w : World}, Below B a w → Below B a (w.setCells g o vs)
  | [], _, _, h => h
  | v :: r, o, _, h => below_setCells_ hb r (o + 1) (h.setCell (p := ⟨g, o, none⟩) hb v)
/-- More bytes. -/
theorem run_append_bytes {base : Nat} {w : World} {v : Value} {xs ys : List Int} {ad : Addr} {c : Nat} (h : BRow base w v xs) (hbase : base ≤ w.heap.size) (hsrc : ∀ j u, (u8s ys)[j]? = some u → w.cell? (ad.add j) = some u) (hl : xs.length + ys.length ≤ 1000000000000) (hy : 0 < ys.length) (ty : TypeId) :
    ∃ v' w', (Builtin.append_ #[51, 51] ty #[v, .slice (some ad) ys.length c]).run Tryd.prog w = .ok v' w' ∧ BRow base w' v' (xs ++ ys) ∧ Below base w w' := by
  obtain ⟨i5, hi5, hz5, hs5, hb5⟩ : ∃ i, Tryd.prog.info? 5 = some i ∧ i.zero = some (.int .u8 0) ∧ i.size = 1 ∧ i.bytes = 1 := by
    have := info5
    cases hq : Tryd.prog.info? 5 with
    | none => rw [hq] at this; cases this
    | some i =>
      rw [hq] at this
      simp only [Option.map_some, Option.some.injEq, Prod.mk.injEq] at this
      exact ⟨i, rfl, this.1, this.2.1, this.2.2⟩
  obtain ⟨g, cap, cur, fr, hv, hb0, hg, h1, h2, hf, ht⟩ := h
  have hlt : g < w.heap.size := (Array.getElem?_eq_some_iff.1 hg).1
  subst hv
  have hsr : Src Tryd.prog i5.size 51 (.slice (some ad) ys.length c) ys.length (u8s ys) w :=
    Src.ofSlice w Tryd.underlying51 ad ys.length c (u8s ys) (by rw [hs5, u8s_length, Nat.mul_one]) hsrc (fun u hu => by
      unfold u8s at hu
      obtain ⟨_, _, rfl⟩ := List.mem_map.1 hu
      rfl)
  by_cases hroom : xs.length + ys.length ≤ cap
  · have hcell : ∀ j, w.cell? ⟨g, j, none⟩ = cur[j]? := fun j => cell_of_row w g _ cur 5 fr hg
    have hrun := run_append_room_src (P := Tryd.prog) w 51 51 ty 5 i5 Tryd.underlying51 hi5 g 0 xs.length cap (.slice (some ad) ys.length c) ys.length (u8s ys) hsr hroom
      (fun j hj => by
        rw [u8s_length] at hj
        rw [hs5, Nat.zero_add, Nat.mul_one, hcell, Array.getElem?_eq_getElem (by omega)]
        rfl)
      (fun j hj => by
        rw [u8s_length] at hj
        rw [hs5, Nat.zero_add, Nat.mul_one]
        exact hf _ (by omega))
    rw [hs5, Nat.zero_add, Nat.mul_one] at hrun
    obtain ⟨cur', h3, h4, h5⟩ := heap_setCells ys xs w cur hg (by omega) ht
    refine ⟨_, _, hrun, ⟨g, cap, cur', fr, by rw [List.length_append], hb0, h3, by rw [List.length_append]; exact hroom, by rw [h4]; exact h2, fun j hj => by
      rw [World.frozen?_setCells]; exact hf j hj, h5⟩, ?_⟩
    exact below_setCells_ hb0 _ _ (Below.refl base w)
  · have hcl : (Builtin.firstCells i5.size xs.length (.slice (some ⟨g, 0, none⟩) xs.length cap)).run Tryd.prog w.drew = .ok (u8s xs).toArray w.drew := by
      refine run_firstCells_some w.drew i5.size xs.length ⟨g, 0, none⟩ xs.length cap (u8s xs) (by rw [u8s_length, hs5, Nat.mul_one]) (fun j u hu => ?_)
      have e : (⟨g, 0, none⟩ : Addr).add j = ⟨g, j, none⟩ := by unfold Addr.add; split <;> simp_all
      rw [e]
      exact (brow_cell (w := w) ⟨g, cap, cur, fr, rfl, hb0, hg, h1, h2, hf, ht⟩).2 j u hu
    have hrun := run_append_grow_src (P := Tryd.prog) w 51 51 ty 5 i5 (.int .u8 0) Tryd.underlying51 hi5 hz5 (some ⟨g, 0, none⟩) xs.length cap (u8s xs) hcl (.slice (some ad) ys.length c) ys.length (u8s ys) hsr (by omega) (by omega) (growslice_fits (by omega) (by rw [hb5]; omega))
    have hge : xs.length + ys.length ≤ grownCap w (xs.length + ys.length) cap 5 := grownCap_ge w _ _ _
    refine ⟨_, _, hrun, ⟨w.heap.size, grownCap w (xs.length + ys.length) cap 5, _, (0, 0), by rw [List.length_append], hbase, heap_alloc_last w.drew _, by rw [List.length_append]; exact hge, ?_, fun j hj => ?_, ?_⟩, ?_⟩
    · rw [Array.size_append, size_zeroCells]
      simp only [List.size_toArray, List.length_append, u8s_length]
      show _ ≤ xs.length + ys.length + _ * 1
      omega
    · exact blk_frozen (heap_alloc_last w.drew _) j
    · rw [Array.toList_append, List.take_left' (by simp [u8s_length])]
      simp [u8s]
    · exact (Below.drew (Below.refl base w)).alloc hbase _
theorem wpList_append_bytes {ops : Array Oper} {rest : List Oper} {o : Oper} {a : Act} {Q : Exit → Act → World → Prop} {w : World} (hgd : o.guard = none) (s x : Operand)
    (ho : o.op = .call { callee := .builtin .append, args := #[s, x], argTypes := #[51, 51] }) {base : Nat} {v : Value} {xs ys : List Int} {ad : Addr} {n c : Nat} (hr : BRow base w v xs) (hbase : base ≤ w.heap.size)
    (hv : a.eval s = v) (hx : a.eval x = .slice (some ad) n c) (hn : n = ys.length) (hsrc : ∀ j u, (u8s ys)[j]? = some u → w.cell? (ad.add j) = some u) (hl : xs.length + ys.length ≤ 1000000000000) (hy : 0 < ys.length)
    (hK : ∀ v' w', BRow base w' v' (xs ++ ys) → Below base w w' → wpList Tryd.prog ops Q rest (a.put o.dst v') w') : wpList Tryd.prog ops Q (o :: rest) a w := by
  subst hn
  refine wpList_plain hgd fun K hK' => ?_
  obtain ⟨v', w', hrun, r', bb⟩ := run_append_bytes (c := c) hr hbase hsrc hl hy o.type
  unfold Oper.wp
  simp [execOp, ho, resolve, invoke, builtin, hv, hx, hrun, Result.andThen]
  exact hK' _ _ (hK v' w' r' bb)
theorem run_bytes_nil (w : World) : (Instr.buildSlice 51 0 #[]).run Tryd.prog w = .ok (.slice (some ⟨w.heap.size, 0, none⟩) 0 0) (w.alloc (.cells #[] 5)) := by kernel_rfl
theorem brow_nil {base : Nat} (w : World) (hb : base ≤ w.heap.size) : BRow base (w.alloc (.cells #[] 5)) (.slice (some ⟨w.heap.size, 0, none⟩) 0 0) [] :=
  ⟨w.heap.size, 0, #[], (0, 0), rfl, hb, heap_alloc_last _ _, Nat.le_refl _, Nat.le_refl _, fun j hj => absurd hj (Nat.not_lt_zero _), rfl⟩
theorem brow_take {base : Nat} {w : World} {g L cap n c : Nat} {T : List Int} (h : BRow base w (.slice (some ⟨g, 0, none⟩) L cap) T) (hn : n ≤ L) : (convert 51 9 (.slice (some ⟨g, 0, none⟩) n c)).run Tryd.prog w = .ok (.string ((strOfNums T).extract 0 n)) w := by
  obtain ⟨hL, hc⟩ := brow_cell h
  have e : strOfNums (T.take n) = (strOfNums T).extract 0 n := by
    have := str_take T 0 n
    rw [List.drop_zero, Nat.zero_add] at this
    exact this
  rw [← e]
  refine run_convert_bytes_arg w 51 5 Tryd.underlying51 Tryd.underlying5 g 0 n c (T.take n) (by rw [List.length_take]; omega) (fun i hi => ?_) 9 Tryd.underlying9
  rw [Nat.zero_add]
  refine hc i _ ?_
  unfold u8s
  rw [List.getElem?_map, List.getD_eq_getElem?_getD, List.getElem?_take, if_pos hi, List.getElem?_eq_getElem (by omega)]
  rfl
theorem brow_src {base : Nat} {w : World} {g n cap : Nat} {xs : List Int} (h : BRow base w (.slice (some ⟨g, 0, none⟩) n cap) xs) : ∀ j u, (u8s xs)[j]? = some u → w.cell? ((⟨g, 0, none⟩ : Addr).add j) = some u := fun j u hu => by
  have e : (⟨g, 0, none⟩ : Addr).add j = ⟨g, j, none⟩ := by unfold Addr.add; split <;> simp_all
  rw [e]
  exact (brow_cell h).2 j u hu
theorem bys_app2 (a b : ByteArray) : bys a ++ bys b = bys (a ++ b) := by unfold bys; simp
theorem wpl_world {P : Program} {ops : Array Oper} {os : List Oper} {Q : Exit → Act → World → Prop} {a : Act} {W : World} (h : ∀ V, V = W → wpList P ops Q os a V) : wpList P ops Q os a W := h W rfl
theorem brow_lt {base : Nat} {w : World} {g n cap : Nat} {xs : List Int} (h : BRow base w (.slice (some ⟨g, 0, none⟩) n cap) xs) : base ≤ g ∧ g < w.heap.size := by
  obtain ⟨g2, cap', cur, fr, hv, hb, hg, h1, h2, hf, ht⟩ := h
  injection hv with ha hn hc
  injection ha with ha
  injection ha with hgg
  subst hgg
  exact ⟨hb, (Array.getElem?_eq_some_iff.1 hg).1⟩
theorem brow_cap {base : Nat} {w : World} {g n cap : Nat} {xs : List Int} (h : BRow base w (.slice (some ⟨g, 0, none⟩) n cap) xs) : n ≤ cap := by
  obtain ⟨g2, cap', cur, fr, hv, hb, hg, h1, h2, hf, ht⟩ := h
  injection hv with ha hn hc
  omega
theorem brow_far {base : Nat} {w : World} {g g' n cap i : Nat} {xs : List Int} (h : BRow base w (.slice (some ⟨g, 0, none⟩) n cap) xs) (hne : g ≠ g') (v : Value) : BRow base (w.setCell ⟨g', i, none⟩ v) (.slice (some ⟨g, 0, none⟩) n cap) xs := by
  obtain ⟨g2, cap', cur, fr, hv, hb, hg, h1, h2, hf, ht⟩ := h
  injection hv with ha hn hc
  injection ha with ha
  injection ha with hgg
  subst hgg
  have e : (w.setCell ⟨g', i, none⟩ v).heap[g]? = w.heap[g]? := Below.heap_setCell w ⟨g', i, none⟩ v g hne
  refine ⟨g, cap', cur, fr, by rw [hn, hc], hb, e.trans hg, h1, h2, fun j hj => ?_, ht⟩
  have := hf j hj
  simp only [World.frozen?, e]
  simp only [World.frozen?] at this
  exact this
end Go.Proofs.YtlddohppkcndjaaDoor.Sha
