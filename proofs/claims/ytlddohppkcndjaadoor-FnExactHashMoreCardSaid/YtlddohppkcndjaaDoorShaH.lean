/- The digest of all that came to a hasher. -/
import Derived.Test.YtlddohppkcndjaaDoorShaG
namespace Go.Proofs.YtlddohppkcndjaaDoor.Sha
open Go.RowKit Go.Proofs.YtlddohppkcndjaaDoorW.PrintWords Go.Proofs.YtlddohppkcndjaaDoorW.PrintLast Go.Proofs.YtlddohppkcndjaaDoorW.PrintMore Go.Proofs.YtlddohppkcndjaaDoor.Pending Go.Proofs.YtlddohppkcndjaaDoor.Pright Go.Proofs.YtlddohppkcndjaaDoor.PHasherOk
set_option linter.unusedVariables false
set_option linter.unusedSimpArgs false

abbrev HeldE (w W : World) (st r : ByteArray) (c : Int) : Prop := Below w.heap.size w W ∧ W.heap[w.heap.size]? = some (.cells #[.string st, .string r, .int .i64 c] 27) ∧ Tab W
theorem heldE_below {w W W2 : World} {st r : ByteArray} {c : Int} (h : HeldE w W st r c) (hb : Below W.heap.size W W2) : HeldE w W2 st r c :=
  ⟨below_step h.1 hb, blk_below h.2.1 hb, tab_below h.2.2 hb⟩
theorem heldE_alloc {w W : World} {st r : ByteArray} {c : Int} (h : HeldE w W st r c) (o : Obj) : HeldE w (W.alloc o) st r c := heldE_below h ((Below.refl _ _).alloc (Nat.le_refl _) o)
theorem heldE_size {w W : World} {st r : ByteArray} {c : Int} (h : HeldE w W st r c) : w.heap.size + 1 ≤ W.heap.size := blk_lt h.2.1
theorem tab_set {W : World} (h : Tab W) {b : Nat} (hb : b ≠ 0) (i : Nat) (v : Value) : Tab (W.setCell ⟨b, i, none⟩ v) := by
  have h0 : (W.setCell ⟨b, i, none⟩ v).heap[0]? = W.heap[0]? := heap_setCell_other W ⟨b, i, none⟩ 0 v (fun e => hb e.symm)
  unfold Tab Lib.TabIs World.var? at *
  rw [gTab] at h ⊢
  simp only [Option.bind_some] at h ⊢
  rw [h0]
  exact h
theorem heldE_set {w W : World} {st r : ByteArray} {c : Int} (h : HeldE w W st r c) {b : Nat} (hb : w.heap.size + 1 ≤ b) (i : Nat) (v : Value) : HeldE w (W.setCell ⟨b, i, none⟩ v) st r c :=
  ⟨h.1.setCell (show w.heap.size ≤ b by omega) _, blk_far h.2.1 (show w.heap.size ≠ b by omega) _, tab_set h.2.2 (by omega) _ _⟩
theorem heldE8 {w W : World} {st r : ByteArray} {c : Int} (h : HeldE w W st r c) {b : Nat} (hb : w.heap.size + 1 ≤ b) (v0 v1 v2 v3 v4 v5 v6 v7 : Value) : HeldE w ((((((((W.setCell ⟨b, 0, none⟩ v0).setCell ⟨b, 1, none⟩ v1).setCell ⟨b, 2, none⟩ v2).setCell ⟨b, 3, none⟩ v3).setCell ⟨b, 4, none⟩ v4).setCell ⟨b, 5, none⟩ v5).setCell ⟨b, 6, none⟩ v6).setCell ⟨b, 7, none⟩ v7) st r c :=
  (heldE_set (heldE_set (heldE_set (heldE_set (heldE_set (heldE_set (heldE_set (heldE_set h hb 0 v0) hb 1 v1) hb 2 v2) hb 3 v3) hb 4 v4) hb 5 v5) hb 6 v6) hb 7 v7)
theorem heldE_cell {w W : World} {st r : ByteArray} {c : Int} (h : HeldE w W st r c) : W.cell? ⟨w.heap.size, 0, none⟩ = some (.string st) ∧ W.cell? ⟨w.heap.size, 1, none⟩ = some (.string r) ∧ W.cell? ⟨w.heap.size, 2, none⟩ = some (.int .i64 c) :=
  ⟨blk_cell h.2.1 0, blk_cell h.2.1 1, blk_cell h.2.1 2⟩
set_option maxHeartbeats 32000000 in
set_option maxRecDepth 100000 in
theorem hashEnd_calls (st r : ByteArray) (c : Int) (w : World) (htab : Tab w) : Calls Tryd.prog 23 #[.agg #[.string st, .string r, .int .i64 c]] w fun e_ w' => e_ = .returned (.string (hashEnd st r c)) ∧ Below w.heap.size w w' := by
  have HB := Aside0.mk (Below.refl w.heap.size w)
  have HT := Aside0.mk htab
  clear htab
  by_cases hok : hOk st r c = true
  · have hok' := hok
    unfold hOk at hok'
    simp only [decide_eq_true_eq] at hok'
    obtain ⟨h32, h0, h9, h64⟩ := hok'
    obtain ⟨n, rfl⟩ : ∃ n : Nat, c = n := ⟨c.toNat, by omega⟩
    have e : hashEnd st r (n : Int) = stText (blks (txState st) (r ++ en n)).1 := by unfold hashEnd; rw [if_pos hok, Int.toNat_natCast]
    rw [e]
    have hof := ok_f st r n
    rw [hok] at hof
    have HO := Aside0.mk hof
    clear hof hok e
    have hes := en_size n
    have hroom : (9223372036854775807 < r.size + (en n).size) = False := eq_false (by omega)
    have hr2 : (r ++ en n).size ≤ 9223372036854775807 := by rw [ByteArray.size_append]; omega
    have hef := en_f n (by omega)
    generalize en n = en_ at *
    have htl := txState_len st
    obtain ⟨⟨bl, br⟩, hbl⟩ : ∃ q, blks (txState st) (r ++ en_) = q := ⟨_, rfl⟩
    have hbll := blks_len (txState st) (r ++ en_) htl
    rw [hbl] at hbll ⊢
    obtain ⟨b1, b2, b3, b4, b5, b6, b7, b8, rfl⟩ := arr8 bl hbll
    have HX := Aside0.mk (And.intro hef (And.intro htl (And.intro hbl (And.intro hr2 (show 32 ≤ st.size by omega)))))
    clear htl hbl hbll hr2 h64 h32 hef hes
    go_enter Tryd.func23, Tryd.ntmps23
    go_wp2_with (first | ((with_reducible refine gate_dst (N := 5) rfl ?_); refine ld27 (blk_new _ _) (.tmp 1) rfl rfl rfl ?_) | (go_at_call 41; refine (impl_HasherOk.calls st r (n : Int) _ _ HO.out).mono ?_; rintro e_ w1 ⟨rfl, hb1⟩; have HB1 := Aside0.mk hb1; clear hb1; have A0 := Aside0.mk (blk_below (blk_new w (.cells #[.string st, .string r, .int .i64 n] 27)) HB1.out)))
    have kW : Below w.heap.size w w1 := (HB.out.alloc (Nat.le_refl _) (.cells #[.string st, .string r, .int .i64 (n : Int)] 27)).trans (HB1.out.mono (by rw [sz_alloc]; omega))
    have HQ : Aside0 (HeldE w w1.drew st r (n : Int)) := ⟨below_drew kW, A0.out, tab_below (tab_below HT.out kW) (below_drew (Below.refl _ _))⟩
    have c0 := (heldE_cell HQ.out).1
    have c1 := (heldE_cell HQ.out).2.1
    have c2 := (heldE_cell HQ.out).2.2
    replace c0 : w1.cell? ⟨w.heap.size, 0, none⟩ = some (.string st) := c0
    replace c1 : w1.cell? ⟨w.heap.size, 1, none⟩ = some (.string r) := c1
    replace c2 : w1.cell? ⟨w.heap.size, 2, none⟩ = some (.int .i64 (n : Int)) := c2
    clear kW HB1 A0
    have HP := HQ
    go_region_held3 (fun w' => w'.cell? ⟨w.heap.size, 0, none⟩ = some (.string st) ∧ w'.cell? ⟨w.heap.size, 1, none⟩ = some (.string r) ∧ w'.cell? ⟨w.heap.size, 2, none⟩ = some (.int .i64 (n : Int))) (first | (simp [*, World.cell?_alloc_some, World.cell?_setCell_far]; done) | exact heldE_cell (heldE8 HQ.out BZ.out.2 (.int .u32 b1) (.int .u32 b2) (.int .u32 b3) (.int .u32 b4) (.int .u32 b5) (.int .u32 b6) (.int .u32 b7) (.int .u32 b8)))
      (first
        | (go_at_call 60; refine (textState_calls st HX.out.2.2.2.2 _).mono ?_; rintro e_ w60 ⟨rfl, hb60⟩; have HQ_ := Aside0.mk (heldE_below (by first | exact HQ.out | exact heldE_alloc HQ.out _) hb60); clear HQ; have HQ := HQ_; clear HQ_; (first | (have BZ_ : Aside0 (Blk w60 _ 67 [0, 0, 0, 0, 0, 0, 0, 0] ∧ w.heap.size + 1 ≤ _) := ⟨blk_below BZ.out.1 hb60, BZ.out.2⟩; clear BZ; have BZ := BZ_; clear BZ_) | (have BZ : Aside0 (Blk w60 _ 67 [0, 0, 0, 0, 0, 0, 0, 0] ∧ w.heap.size + 1 ≤ _) := ⟨blk_below (blk_new _ _) hb60, heldE_size HP.out⟩) | (have BZ : Aside0 (Blk w60 _ 67 [0, 0, 0, 0, 0, 0, 0, 0] ∧ w.heap.size + 1 ≤ _) := ⟨blk_below (blk_drew (blk_new _ _)) hb60, heldE_size HP.out⟩) | skip); clear hb60; have HP_ := HQ; clear HP; have HP := HP_; clear HP_; have k60a := (heldE_cell HQ.out).1; have k60b := (heldE_cell HQ.out).2.1; have k60c := (heldE_cell HQ.out).2.2)
        | (go_at_call 54; refine (impl_ending.calls _ _ _ HX.out.1).mono ?_; rintro e_ w54 ⟨rfl, hb54⟩; have HQ_ := Aside0.mk (heldE_below (by first | exact HQ.out | exact heldE_alloc HQ.out _) hb54); clear HQ; have HQ := HQ_; clear HQ_; (first | (have BZ_ : Aside0 (Blk w54 _ 67 [0, 0, 0, 0, 0, 0, 0, 0] ∧ w.heap.size + 1 ≤ _) := ⟨blk_below BZ.out.1 hb54, BZ.out.2⟩; clear BZ; have BZ := BZ_; clear BZ_) | (have BZ : Aside0 (Blk w54 _ 67 [0, 0, 0, 0, 0, 0, 0, 0] ∧ w.heap.size + 1 ≤ _) := ⟨blk_below (blk_new _ _) hb54, heldE_size HP.out⟩) | (have BZ : Aside0 (Blk w54 _ 67 [0, 0, 0, 0, 0, 0, 0, 0] ∧ w.heap.size + 1 ≤ _) := ⟨blk_below (blk_drew (blk_new _ _)) hb54, heldE_size HP.out⟩) | skip); clear hb54; have HP_ := HQ; clear HP; have HP := HP_; clear HP_; have k54a := (heldE_cell HQ.out).1; have k54b := (heldE_cell HQ.out).2.1; have k54c := (heldE_cell HQ.out).2.2)
        | (go_at_call 52; refine (blocks_calls' (txState st) HX.out.2.1 (r ++ en_) HX.out.2.2.2.1 _ ((by first | exact HQ.out | exact heldE_alloc HQ.out _ : HeldE w _ st r (n : Int))).2.2 b1 b2 b3 b4 b5 b6 b7 b8 br HX.out.2.2.1).mono ?_; rintro e_ w3 ⟨rfl, hb3⟩; have HQ_ := Aside0.mk (heldE_below (by first | exact HQ.out | exact heldE_alloc HQ.out _) hb3); clear HQ; have HQ := HQ_; clear HQ_; (first | (have BZ_ : Aside0 (Blk w3 _ 67 [0, 0, 0, 0, 0, 0, 0, 0] ∧ w.heap.size + 1 ≤ _) := ⟨blk_below BZ.out.1 hb3, BZ.out.2⟩; clear BZ; have BZ := BZ_; clear BZ_) | (have BZ : Aside0 (Blk w3 _ 67 [0, 0, 0, 0, 0, 0, 0, 0] ∧ w.heap.size + 1 ≤ _) := ⟨blk_below (blk_new _ _) hb3, heldE_size HP.out⟩) | (have BZ : Aside0 (Blk w3 _ 67 [0, 0, 0, 0, 0, 0, 0, 0] ∧ w.heap.size + 1 ≤ _) := ⟨blk_below (blk_drew (blk_new _ _)) hb3, heldE_size HP.out⟩) | skip); clear hb3; have HP_ := HQ; clear HP; have HP := HP_; clear HP_; have k3a := (heldE_cell HQ.out).1; have k3b := (heldE_cell HQ.out).2.1; have k3c := (heldE_cell HQ.out).2.2; (try (have zc := (blk_zero BZ.out.1).1; have zf := (blk_zero BZ.out.1).2; (try simp only [heap_drew] at zc zf)))))
    all_goals
      go_step
      go_step
      refine wp_world (fun V hV => ?_)
    all_goals
      first
        | (obtain ⟨bb, hbb⟩ : ∃ q, w3.heap.size = q := ⟨_, rfl⟩; rw [hbb]; have hH : HeldE w V st r (n : Int) ∧ Blk V bb 67 [b1, b2, b3, b4, b5, b6, b7, b8] := by rw [hV, ← hbb]; exact ⟨heldE_alloc HQ.out _, blk_new _ _⟩)
        | (obtain ⟨bb, hbb⟩ : ∃ q, w54.heap.size = q := ⟨_, rfl⟩; rw [hbb]; have hH : HeldE w V st r (n : Int) ∧ Blk V bb 67 [b1, b2, b3, b4, b5, b6, b7, b8] := by rw [hV, ← hbb]; exact ⟨heldE8 HQ.out BZ.out.2 (.int .u32 b1) (.int .u32 b2) (.int .u32 b3) (.int .u32 b4) (.int .u32 b5) (.int .u32 b6) (.int .u32 b7) (.int .u32 b8), blk8 BZ.out.1 b1 b2 b3 b4 b5 b6 b7 b8⟩)
        | (obtain ⟨bb, hbb⟩ : ∃ q, w60.heap.size = q := ⟨_, rfl⟩; rw [hbb]; have hH : HeldE w V st r (n : Int) ∧ Blk V bb 67 [b1, b2, b3, b4, b5, b6, b7, b8] := by rw [hV, ← hbb]; exact ⟨heldE8 HQ.out BZ.out.2 (.int .u32 b1) (.int .u32 b2) (.int .u32 b3) (.int .u32 b4) (.int .u32 b5) (.int .u32 b6) (.int .u32 b7) (.int .u32 b8), blk8 BZ.out.1 b1 b2 b3 b4 b5 b6 b7 b8⟩)
        | (obtain ⟨bb, hbb⟩ : ∃ q, w1.heap.size = q := ⟨_, rfl⟩; rw [hbb]; have hH : HeldE w V st r (n : Int) ∧ Blk V bb 67 [b1, b2, b3, b4, b5, b6, b7, b8] := by rw [hV, ← hbb]; exact ⟨heldE8 HQ.out BZ.out.2 (.int .u32 b1) (.int .u32 b2) (.int .u32 b3) (.int .u32 b4) (.int .u32 b5) (.int .u32 b6) (.int .u32 b7) (.int .u32 b8), blk8 BZ.out.1 b1 b2 b3 b4 b5 b6 b7 b8⟩)
      clear hV hbb HQ HP
      go_wp2_with (first | ((with_reducible refine gate_dst (N := 21) rfl ?_); refine ld67 hH.2 rfl (.tmp 3) rfl rfl rfl ?_) | (go_at_call 55; refine (stateText_calls b1 b2 b3 b4 b5 b6 b7 b8 _).mono ?_; rintro e_ w5 ⟨rfl, hb5⟩; have HB5 := Aside0.mk hb5; clear hb5))
      go_ret
      exact ⟨rfl, below_step hH.1.1 HB5.out⟩
  · have hof := ok_f st r c
    rw [Bool.not_eq_true] at hok
    rw [hok] at hof
    have HO := Aside0.mk hof
    have e : hashEnd st r c = ⟨#[]⟩ := by unfold hashEnd; rw [if_neg (fun h => by rw [hok] at h; exact Bool.false_ne_true h)]
    rw [e]
    clear e hof hok
    go_enter Tryd.func23, Tryd.ntmps23
    go_wp2_with (first | ((with_reducible refine gate_dst (N := 5) rfl ?_); refine ld27 (blk_new _ _) (.tmp 1) rfl rfl rfl ?_) | (go_at_call 41; refine (impl_HasherOk.calls st r c _ _ HO.out).mono ?_; rintro e_ w1 ⟨rfl, hb1⟩; have HB1 := Aside0.mk hb1; clear hb1))
    go_ret
    exact ⟨rfl, (HB.out.alloc (Nat.le_refl _) (.cells #[.string st, .string r, .int .i64 c] 27)).trans (HB1.out.mono (by rw [sz_alloc]; omega))⟩
end Go.Proofs.YtlddohppkcndjaaDoor.Sha
