/- A pool, mixed through its pointer; a new pool; a pool that is fed. -/
import Derived.Test.YtlddohppkcndjaaDoorShaM
import Derived.Deep.RegionLaw
import Derived.BigRegion
namespace Go.Proofs.YtlddohppkcndjaaDoor.Sha
open Go.RowKit Go.Proofs.YtlddohppkcndjaaDoorW.PrintWords Go.Proofs.YtlddohppkcndjaaDoorW.PrintLast Go.Proofs.YtlddohppkcndjaaDoorW.PrintMore Go.Proofs.YtlddohppkcndjaaDoor.PFnExactMacOf
set_option linter.unusedVariables false
set_option linter.unusedSimpArgs false
/-- What lies before block b and the others stays; b may change. -/
structure Kb (b : Nat) (w w' : World) : Prop where
  os : w'.os = w.os
  tape : w'.tape = w.tape
  output : w'.output = w.output
  size : w.heap.size ≤ w'.heap.size
  block : ∀ i, i < w.heap.size → i ≠ b → w'.heap[i]? = w.heap[i]?
theorem Kb.refl (b : Nat) (w : World) : Kb b w w := ⟨rfl, rfl, rfl, Nat.le_refl _, fun _ _ _ => rfl⟩
theorem Kb.step {b : Nat} {w W W2 : World} (h : Kb b w W) (k : Below W.heap.size W W2) : Kb b w W2 :=
  ⟨k.os.trans h.os, k.tape.trans h.tape, k.output.trans h.output, Nat.le_trans h.size k.size, fun i hi hne => (k.block i (Nat.lt_of_lt_of_le hi h.size)).trans (h.block i hi hne)⟩
theorem Kb.set {b : Nat} {w W : World} (h : Kb b w W) (i : Nat) (v : Value) : Kb b w (W.setCell ⟨b, i, none⟩ v) :=
  ⟨h.os, h.tape, h.output, by show w.heap.size ≤ (W.heap.modify _ _).size; rw [Array.size_modify]; exact h.size, fun j hj hne => (heap_setCell_other W ⟨b, i, none⟩ j v hne).trans (h.block j hj hne)⟩
theorem Kb.below {b : Nat} {w W W2 : World} (h : Below b w W) (k : Kb b W W2) (hb : b < W.heap.size) (hw : w.heap.size ≤ b) : Below w.heap.size w W2 :=
  ⟨k.os.trans h.os, k.tape.trans h.tape, k.output.trans h.output, Nat.le_trans (by omega) k.size, fun i hi => (k.block i (by omega) (by omega)).trans (h.block i (by omega))⟩
abbrev PoolAt (W : World) (b : Nat) (k v : ByteArray) (t : Int) : Prop := W.heap[b]? = some (.cells #[.string k, .string v, .int .i64 t] 40)
theorem pool_below {W W2 : World} {b : Nat} {k v : ByteArray} {t : Int} (h : PoolAt W b k v t) (hb : Below W.heap.size W W2) : PoolAt W2 b k v t := blk_below h hb
theorem pool_cells {W : World} {b : Nat} {k v : ByteArray} {t : Int} (h : PoolAt W b k v t) : W.cell? ⟨b, 0, none⟩ = some (.string k) ∧ W.cell? ⟨b, 1, none⟩ = some (.string v) ∧ W.cell? ⟨b, 2, none⟩ = some (.int .i64 t) ∧ W.frozen? ⟨b, 0, none⟩ = false ∧ W.frozen? ⟨b, 1, none⟩ = false ∧ W.frozen? ⟨b, 2, none⟩ = false :=
  ⟨blk_cell h 0, blk_cell h 1, blk_cell h 2, blk_frozen h 0, blk_frozen h 1, blk_frozen h 2⟩
theorem pool_key {W : World} {b : Nat} {k v : ByteArray} {t : Int} (h : PoolAt W b k v t) (k' : ByteArray) : PoolAt (W.setCell ⟨b, 0, none⟩ (.string k')) b k' v t := blk_put h 0 _ rfl
theorem pool_val {W : World} {b : Nat} {k v : ByteArray} {t : Int} (h : PoolAt W b k v t) (v' : ByteArray) : PoolAt (W.setCell ⟨b, 1, none⟩ (.string v')) b k v' t := blk_put h 1 _ rfl
theorem pool_takes {W : World} {b : Nat} {k v : ByteArray} {t : Int} (h : PoolAt W b k v t) (t' : Int) : PoolAt (W.setCell ⟨b, 2, none⟩ (.int .i64 t')) b k v t' := blk_put h 2 _ rfl
/-- A pool's key and value, mixed with a text. -/
def mixP (k v s : ByteArray) : ByteArray × ByteArray :=
  let k1 := mac k ((v ++ ⟨#[0]⟩) ++ s)
  let v1 := mac k1 v
  if s.size = 0 then (k1, v1) else
    let k2 := mac k1 ((v1 ++ ⟨#[1]⟩) ++ s)
    (k2, mac k2 v1)
theorem mixP_size (k v s : ByteArray) : (mixP k v s).1.size = 32 ∧ (mixP k v s).2.size = 32 := by
  unfold mixP
  simp only
  split <;> exact ⟨mac_size _ _, mac_size _ _⟩
set_option maxHeartbeats 8000000 in
set_option maxRecDepth 100000 in
theorem mix_calls0 (b : Nat) (k v s : ByteArray) (t : Int) (hk : k.size ≤ 100000000) (hv : v.size ≤ 100000000) (hs : s.size ≤ 100000000) (h0 : s = ⟨#[]⟩) (w : World) (hp : PoolAt w b k v t) (hb0 : b ≠ 0) (htab : Tab w) :
    Calls Tryd.prog 70 #[.pointer (some ⟨b, 0, none⟩), .string s] w fun e_ w' => e_ = .returned (.tuple #[]) ∧ PoolAt w' b (mixP k v s).1 (mixP k v s).2 t ∧ Kb b w w' := by
  have HA := Aside0.mk (And.intro hp (And.intro (Kb.refl b w) htab))
  have r0 : (9223372036854775807 < v.size + 1) = False := eq_false (by omega)
  obtain ⟨x0, hx0⟩ : ∃ x, v ++ (⟨#[0]⟩ : ByteArray) = x := ⟨_, rfl⟩
  have x0s : x0.size = v.size + 1 := by rw [← hx0, ByteArray.size_append]; rfl
  have r1 : (9223372036854775807 < x0.size + s.size) = False := eq_false (by omega)
  have H0 := Aside0.mk h0
  clear h0
  obtain ⟨m1, hm1⟩ : ∃ m, mac k (x0 ++ s) = m := ⟨_, rfl⟩
  obtain ⟨m2, hm2⟩ : ∃ m, mac m1 v = m := ⟨_, rfl⟩
  have m1s : m1.size = 32 := by rw [← hm1, mac_size]
  have m2s : m2.size = 32 := by rw [← hm2, mac_size]
  have HX := Aside0.mk (And.intro hk (And.intro hv (And.intro hs (And.intro x0s (And.intro m1s (And.intro m2s (And.intro hm1 (And.intro hm2 hm1))))))))
  clear hp htab hk hv hs x0s m1s m2s hm1 hm2
  go_enter Tryd.func70, Tryd.ntmps70
  go_wp2_with fail
  obtain ⟨c0, c1, c2, _, _, _⟩ := pool_cells HA.out.1
  have HM : Aside0 (∀ W : World, Tab W → Calls Tryd.prog 25 #[.string (k), .string (x0 ++ s)] W fun e_ w' => e_ = .returned (.string (m1)) ∧ Below W.heap.size W w') := ⟨fun W hT => HX.out.2.2.2.2.2.2.1 ▸ mac_calls (k) (x0 ++ s) (by have := HX.out.1; omega) (by rw [ByteArray.size_append]; have := HX.out.2.1; have := HX.out.2.2.1; have := HX.out.2.2.2.1; omega) W hT⟩
  have HP : Aside0 (PoolAt w.drew b (k) (v) t ∧ Kb b w w.drew) := ⟨HA.out.1, HA.out.2.1.step (below_drew (Below.refl _ _))⟩
  have HT : Aside0 (Tab w.drew) := ⟨tab_below HA.out.2.2 (below_drew (Below.refl _ _))⟩
  go_region_law (first | (go_simp; go_at_call 25; refine (HM.out _ HT.out).mono ?_; rintro e_ w2 ⟨rfl, hb2⟩; have P2 := pool_below HP.out.1 hb2; obtain ⟨d0, d1, d2, f0, f1, f2⟩ := pool_cells P2; have HP2 := Aside0.mk (And.intro P2 (And.intro (HP.out.2.step hb2) (tab_below HT.out hb2))); clear P2 hb2))
  all_goals
    go_step
    go_step
    refine wp_world (fun V1 hV1 => ?_)
    have HB_ : Aside0 (PoolAt V1 b (m1) (v) t ∧ Kb b w V1 ∧ Tab V1) := by
      rw [hV1]
      exact ⟨pool_key HP2.out.1 _, HP2.out.2.1.set _ _, tab_set HP2.out.2.2 hb0 _ _⟩
    clear hV1 HA HP HT HM HP2 c0 c1 c2 d0 d1 d2 f0 f1 f2
    have HA := HB_
    clear HB_
    go_wp2_with fail
    obtain ⟨c0, c1, c2, _, _, _⟩ := pool_cells HA.out.1
    have HM : Aside0 (∀ W : World, Tab W → Calls Tryd.prog 25 #[.string (m1), .string (v)] W fun e_ w' => e_ = .returned (.string (m2)) ∧ Below W.heap.size W w') := ⟨fun W hT => HX.out.2.2.2.2.2.2.2.1 ▸ mac_calls (m1) (v) (by have := HX.out.2.2.2.2.1; omega) (by have := HX.out.2.1; omega) W hT⟩
    have HP : Aside0 (PoolAt V1.drew b (m1) (v) t ∧ Kb b w V1.drew) := ⟨HA.out.1, HA.out.2.1.step (below_drew (Below.refl _ _))⟩
    have HT : Aside0 (Tab V1.drew) := ⟨tab_below HA.out.2.2 (below_drew (Below.refl _ _))⟩
    go_region_law (first | (go_simp; go_at_call 25; refine (HM.out _ HT.out).mono ?_; rintro e_ w2 ⟨rfl, hb2⟩; have P2 := pool_below HP.out.1 hb2; obtain ⟨d0, d1, d2, f0, f1, f2⟩ := pool_cells P2; have HP2 := Aside0.mk (And.intro P2 (And.intro (HP.out.2.step hb2) (tab_below HT.out hb2))); clear P2 hb2))
    all_goals
      go_step
      go_step
      refine wp_world (fun V2 hV2 => ?_)
      have HB_ : Aside0 (PoolAt V2 b (m1) (m2) t ∧ Kb b w V2 ∧ Tab V2) := by
        rw [hV2]
        exact ⟨pool_val HP2.out.1 _, HP2.out.2.1.set _ _, tab_set HP2.out.2.2 hb0 _ _⟩
      clear hV2 HA HP HT HM HP2 c0 c1 c2 d0 d1 d2 f0 f1 f2
      have HA := HB_
      clear HB_
      have h0 := H0.out
      go_wp2
      go_end0
      refine ⟨rfl, ?_, HA.out.2.1⟩
      have e : mixP k v s = (m1, m2) := by
        unfold mixP
        simp only [hx0, HX.out.2.2.2.2.2.2.1, HX.out.2.2.2.2.2.2.2.1]
        rw [if_pos (by rw [H0.out]; rfl)]
      rw [e]
      exact HA.out.1
set_option maxHeartbeats 8000000 in
set_option maxRecDepth 100000 in
theorem mix_calls1 (b : Nat) (k v s : ByteArray) (t : Int) (hk : k.size ≤ 100000000) (hv : v.size ≤ 100000000) (hs : s.size ≤ 100000000) (h0 : ¬ s = ⟨#[]⟩) (w : World) (hp : PoolAt w b k v t) (hb0 : b ≠ 0) (htab : Tab w) :
    Calls Tryd.prog 70 #[.pointer (some ⟨b, 0, none⟩), .string s] w fun e_ w' => e_ = .returned (.tuple #[]) ∧ PoolAt w' b (mixP k v s).1 (mixP k v s).2 t ∧ Kb b w w' := by
  have HA := Aside0.mk (And.intro hp (And.intro (Kb.refl b w) htab))
  have r0 : (9223372036854775807 < v.size + 1) = False := eq_false (by omega)
  obtain ⟨x0, hx0⟩ : ∃ x, v ++ (⟨#[0]⟩ : ByteArray) = x := ⟨_, rfl⟩
  have x0s : x0.size = v.size + 1 := by rw [← hx0, ByteArray.size_append]; rfl
  have r1 : (9223372036854775807 < x0.size + s.size) = False := eq_false (by omega)
  have H0 := Aside0.mk h0
  clear h0
  obtain ⟨m1, hm1⟩ : ∃ m, mac k (x0 ++ s) = m := ⟨_, rfl⟩
  obtain ⟨m2, hm2⟩ : ∃ m, mac m1 v = m := ⟨_, rfl⟩
  have m1s : m1.size = 32 := by rw [← hm1, mac_size]
  have m2s : m2.size = 32 := by rw [← hm2, mac_size]
  obtain ⟨y0, hy0⟩ : ∃ x, m2 ++ (⟨#[1]⟩ : ByteArray) = x := ⟨_, rfl⟩
  have y0s : y0.size = 33 := by rw [← hy0, ByteArray.size_append, m2s]; rfl
  obtain ⟨m3, hm3⟩ : ∃ m, mac m1 (y0 ++ s) = m := ⟨_, rfl⟩
  obtain ⟨m4, hm4⟩ : ∃ m, mac m3 m2 = m := ⟨_, rfl⟩
  have m3s : m3.size = 32 := by rw [← hm3, mac_size]
  have r2 : (9223372036854775807 < m2.size + 1) = False := eq_false (by omega)
  have r3 : (9223372036854775807 < y0.size + s.size) = False := eq_false (by omega)
  have HX := Aside0.mk (And.intro hk (And.intro hv (And.intro hs (And.intro x0s (And.intro m1s (And.intro m2s (And.intro hm1 (And.intro hm2 (And.intro y0s (And.intro m3s (And.intro hm3 hm4)))))))))))
  clear hp htab hk hv hs x0s m1s m2s hm1 hm2 y0s m3s hm3 hm4
  go_enter Tryd.func70, Tryd.ntmps70
  go_wp2_with fail
  obtain ⟨c0, c1, c2, _, _, _⟩ := pool_cells HA.out.1
  have HM : Aside0 (∀ W : World, Tab W → Calls Tryd.prog 25 #[.string (k), .string (x0 ++ s)] W fun e_ w' => e_ = .returned (.string (m1)) ∧ Below W.heap.size W w') := ⟨fun W hT => HX.out.2.2.2.2.2.2.1 ▸ mac_calls (k) (x0 ++ s) (by have := HX.out.1; omega) (by rw [ByteArray.size_append]; have := HX.out.2.1; have := HX.out.2.2.1; have := HX.out.2.2.2.1; omega) W hT⟩
  have HP : Aside0 (PoolAt w.drew b (k) (v) t ∧ Kb b w w.drew) := ⟨HA.out.1, HA.out.2.1.step (below_drew (Below.refl _ _))⟩
  have HT : Aside0 (Tab w.drew) := ⟨tab_below HA.out.2.2 (below_drew (Below.refl _ _))⟩
  go_region_law (first | (go_simp; go_at_call 25; refine (HM.out _ HT.out).mono ?_; rintro e_ w2 ⟨rfl, hb2⟩; have P2 := pool_below HP.out.1 hb2; obtain ⟨d0, d1, d2, f0, f1, f2⟩ := pool_cells P2; have HP2 := Aside0.mk (And.intro P2 (And.intro (HP.out.2.step hb2) (tab_below HT.out hb2))); clear P2 hb2))
  all_goals
    go_step
    go_step
    refine wp_world (fun V1 hV1 => ?_)
    have HB_ : Aside0 (PoolAt V1 b (m1) (v) t ∧ Kb b w V1 ∧ Tab V1) := by
      rw [hV1]
      exact ⟨pool_key HP2.out.1 _, HP2.out.2.1.set _ _, tab_set HP2.out.2.2 hb0 _ _⟩
    clear hV1 HA HP HT HM HP2 c0 c1 c2 d0 d1 d2 f0 f1 f2
    have HA := HB_
    clear HB_
    go_wp2_with fail
    obtain ⟨c0, c1, c2, _, _, _⟩ := pool_cells HA.out.1
    have HM : Aside0 (∀ W : World, Tab W → Calls Tryd.prog 25 #[.string (m1), .string (v)] W fun e_ w' => e_ = .returned (.string (m2)) ∧ Below W.heap.size W w') := ⟨fun W hT => HX.out.2.2.2.2.2.2.2.1 ▸ mac_calls (m1) (v) (by have := HX.out.2.2.2.2.1; omega) (by have := HX.out.2.1; omega) W hT⟩
    have HP : Aside0 (PoolAt V1.drew b (m1) (v) t ∧ Kb b w V1.drew) := ⟨HA.out.1, HA.out.2.1.step (below_drew (Below.refl _ _))⟩
    have HT : Aside0 (Tab V1.drew) := ⟨tab_below HA.out.2.2 (below_drew (Below.refl _ _))⟩
    go_region_law (first | (go_simp; go_at_call 25; refine (HM.out _ HT.out).mono ?_; rintro e_ w2 ⟨rfl, hb2⟩; have P2 := pool_below HP.out.1 hb2; obtain ⟨d0, d1, d2, f0, f1, f2⟩ := pool_cells P2; have HP2 := Aside0.mk (And.intro P2 (And.intro (HP.out.2.step hb2) (tab_below HT.out hb2))); clear P2 hb2))
    all_goals
      go_step
      go_step
      refine wp_world (fun V2 hV2 => ?_)
      have HB_ : Aside0 (PoolAt V2 b (m1) (m2) t ∧ Kb b w V2 ∧ Tab V2) := by
        rw [hV2]
        exact ⟨pool_val HP2.out.1 _, HP2.out.2.1.set _ _, tab_set HP2.out.2.2 hb0 _ _⟩
      clear hV2 HA HP HT HM HP2 c0 c1 c2 d0 d1 d2 f0 f1 f2
      have HA := HB_
      clear HB_
      have h0 := H0.out
      have h2 : ¬ s.toList = [] := fun h => h0 (by apply ba_ext; rw [show bys (⟨#[]⟩ : ByteArray) = [] from rfl]; unfold bys; rw [← ByteArray.toList_eq, h]; rfl)
      have h1 : (!s.toList.isEmpty) = true := by cases hl : s.toList with
        | nil => exact absurd hl h2
        | cons _ _ => rfl
      have HE := Aside0.mk h2
      clear h0 h2
      go_wp2_with fail
      obtain ⟨c0, c1, c2, _, _, _⟩ := pool_cells HA.out.1
      have HM : Aside0 (∀ W : World, Tab W → Calls Tryd.prog 25 #[.string (m1), .string (y0 ++ s)] W fun e_ w' => e_ = .returned (.string (m3)) ∧ Below W.heap.size W w') := ⟨fun W hT => HX.out.2.2.2.2.2.2.2.2.2.2.1 ▸ mac_calls (m1) (y0 ++ s) (by have := HX.out.2.2.2.2.1; omega) (by rw [ByteArray.size_append]; have := HX.out.2.2.1; have := HX.out.2.2.2.2.2.2.2.2.1; omega) W hT⟩
      have HP : Aside0 (PoolAt V2.drew b (m1) (m2) t ∧ Kb b w V2.drew) := ⟨HA.out.1, HA.out.2.1.step (below_drew (Below.refl _ _))⟩
      have HT : Aside0 (Tab V2.drew) := ⟨tab_below HA.out.2.2 (below_drew (Below.refl _ _))⟩
      go_region_law (first | (go_simp; go_at_call 25; refine (HM.out _ HT.out).mono ?_; rintro e_ w2 ⟨rfl, hb2⟩; have P2 := pool_below HP.out.1 hb2; obtain ⟨d0, d1, d2, f0, f1, f2⟩ := pool_cells P2; have HP2 := Aside0.mk (And.intro P2 (And.intro (HP.out.2.step hb2) (tab_below HT.out hb2))); clear P2 hb2))
      all_goals
        go_step
        go_step
        refine wp_world (fun V3 hV3 => ?_)
        have HB_ : Aside0 (PoolAt V3 b (m3) (m2) t ∧ Kb b w V3 ∧ Tab V3) := by
          rw [hV3]
          exact ⟨pool_key HP2.out.1 _, HP2.out.2.1.set _ _, tab_set HP2.out.2.2 hb0 _ _⟩
        clear hV3 HA HP HT HM HP2 c0 c1 c2 d0 d1 d2 f0 f1 f2
        have HA := HB_
        clear HB_
        go_wp2_with fail
        obtain ⟨c0, c1, c2, _, _, _⟩ := pool_cells HA.out.1
        have HM : Aside0 (∀ W : World, Tab W → Calls Tryd.prog 25 #[.string (m3), .string (m2)] W fun e_ w' => e_ = .returned (.string (m4)) ∧ Below W.heap.size W w') := ⟨fun W hT => HX.out.2.2.2.2.2.2.2.2.2.2.2 ▸ mac_calls (m3) (m2) (by have := HX.out.2.2.2.2.2.2.2.2.2.1; omega) (by have := HX.out.2.2.2.2.2.1; omega) W hT⟩
        have HP : Aside0 (PoolAt V3.drew b (m3) (m2) t ∧ Kb b w V3.drew) := ⟨HA.out.1, HA.out.2.1.step (below_drew (Below.refl _ _))⟩
        have HT : Aside0 (Tab V3.drew) := ⟨tab_below HA.out.2.2 (below_drew (Below.refl _ _))⟩
        go_region_law (first | (go_simp; go_at_call 25; refine (HM.out _ HT.out).mono ?_; rintro e_ w2 ⟨rfl, hb2⟩; have P2 := pool_below HP.out.1 hb2; obtain ⟨d0, d1, d2, f0, f1, f2⟩ := pool_cells P2; have HP2 := Aside0.mk (And.intro P2 (And.intro (HP.out.2.step hb2) (tab_below HT.out hb2))); clear P2 hb2))
        all_goals
          (try simp only [Exit.inBlock, Exit.then])
          have HB_ : PoolAt (w2.setCell ⟨b, 1, none⟩ (.string m4)) b m3 m4 t ∧ Kb b w (w2.setCell ⟨b, 1, none⟩ (.string m4)) := ⟨pool_val HP2.out.1 _, HP2.out.2.1.set _ _⟩
          have e : mixP k v s = (m3, m4) := by
            unfold mixP
            simp only [hx0, HX.out.2.2.2.2.2.2.1, HX.out.2.2.2.2.2.2.2.1]
            rw [if_neg (fun h => HE.out (by rw [ByteArray.toList_eq]; exact List.eq_nil_of_length_eq_zero (by rw [Array.length_toList]; exact h))), hy0, HX.out.2.2.2.2.2.2.2.2.2.2.1, HX.out.2.2.2.2.2.2.2.2.2.2.2]
          go_wp2_with fail
          go_end0
          refine ⟨rfl, ?_, HB_.2⟩
          rw [e]
          exact HB_.1
end Go.Proofs.YtlddohppkcndjaaDoor.Sha
