/- More text for a hasher; the digest of all that came. -/
import Derived.Test.YtlddohppkcndjaaDoorShaF
import Derived.Test.YtlddohppkcndjaaDoorPHasherOkx1
namespace Go.Proofs.YtlddohppkcndjaaDoor.Sha
open Go.RowKit Go.Proofs.YtlddohppkcndjaaDoorW.PrintWords Go.Proofs.YtlddohppkcndjaaDoorW.PrintLast Go.Proofs.YtlddohppkcndjaaDoorW.PrintMore Go.Proofs.YtlddohppkcndjaaDoor.Pending Go.Proofs.YtlddohppkcndjaaDoor.Pright Go.Proofs.YtlddohppkcndjaaDoor.PHasherOk
set_option linter.unusedVariables false
set_option linter.unusedSimpArgs false

/-- Is a hasher right? -/
def hOk (st r : ByteArray) (c : Int) : Bool := decide (st.size = 32 ∧ 0 ≤ c ∧ c ≤ 1000000000 ∧ (r.size : Int) = c % 64)
theorem ok_f (st r : ByteArray) (c : Int) : impl_HasherOk.f st r c = some (hOk st r c) := by
  unfold impl_HasherOk.f impl_in.f hOk
  by_cases h1 : st.size = 32
  · rw [if_pos (by omega)]
    by_cases h2 : 0 ≤ c
    · have e := Int.tmod_eq_emod_of_nonneg (b := 64) h2
      rw [e]
      by_cases h3 : c ≤ 1000000000
      · by_cases h4 : (r.size : Int) = c % 64 <;> simp [h1, h2, h3, h4]
      · simp [h1, h2, h3]
    · simp [h1, h2]
  · rw [if_neg (by omega)]
    simp [h1]
def hashMore (st r : ByteArray) (c : Int) (s : ByteArray) : ByteArray × ByteArray × Int :=
  if hOk st r c = true ∧ (s.size : Int) ≤ 1000000000 - c then (stText (blks (txState st) (r ++ s)).1, (blks (txState st) (r ++ s)).2, c + s.size) else (st, r, c)
def hashEnd (st r : ByteArray) (c : Int) : ByteArray :=
  if hOk st r c = true then stText (blks (txState st) (r ++ en c.toNat)).1 else ⟨#[]⟩
theorem txState_len (s : ByteArray) : (txState s).length = 8 := tsTo_len s 32
theorem blocks_calls' (st : List Int) (hst : st.length = 8) (s : ByteArray) (hs : s.size ≤ 9223372036854775807) (w : World) (htab : Tab w) (a b c d e f g h : Int) (r : ByteArray) (he : blks st s = ([a, b, c, d, e, f, g, h], r)) : Calls Tryd.prog 52 #[arr st, .string s] w fun e_ w' => e_ = .returned (.tuple #[.agg #[.int .u32 a, .int .u32 b, .int .u32 c, .int .u32 d, .int .u32 e, .int .u32 f, .int .u32 g, .int .u32 h], .string r]) ∧ Below w.heap.size w w' := by
  have := blocks_calls st hst s hs w htab
  rw [he] at this
  exact this
/-- What is held while other calls make memory. -/
abbrev Held (w W : World) (st r : ByteArray) (c : Int) : Prop := Below w.heap.size w W ∧ W.heap[w.heap.size]? = some (.cells #[.string st, .string r, .int .i64 c] 27) ∧ W.heap[w.heap.size + 1]? = some (.cells #[.string ⟨#[]⟩, .string ⟨#[]⟩, .int .i64 0] 27) ∧ Tab W
theorem held_below {w W W2 : World} {st r : ByteArray} {c : Int} (h : Held w W st r c) (hb : Below W.heap.size W W2) : Held w W2 st r c :=
  ⟨below_step h.1 hb, blk_below h.2.1 hb, blk_below h.2.2.1 hb, tab_below h.2.2.2 hb⟩
theorem held_alloc {w W : World} {st r : ByteArray} {c : Int} (h : Held w W st r c) (o : Obj) : Held w (W.alloc o) st r c := held_below h ((Below.refl _ _).alloc (Nat.le_refl _) o)
theorem held_size {w W : World} {st r : ByteArray} {c : Int} (h : Held w W st r c) : w.heap.size + 2 ≤ W.heap.size := blk_lt h.2.2.1
theorem held_set {w W : World} {st r : ByteArray} {c : Int} (h : Held w W st r c) {b : Nat} (hb : w.heap.size + 2 ≤ b) (i : Nat) (v : Value) : Held w (W.setCell ⟨b, i, none⟩ v) st r c :=
  ⟨h.1.setCell (show w.heap.size ≤ b by omega) _, blk_far h.2.1 (show w.heap.size ≠ b by omega) _, blk_far h.2.2.1 (show w.heap.size + 1 ≠ b by omega) _, by
    have := tab_lt h.2.2.2
    have h0 : (W.setCell ⟨b, i, none⟩ v).heap[0]? = W.heap[0]? := by
      by_cases hz : b = 0
      · omega
      · exact heap_setCell_other W ⟨b, i, none⟩ 0 v (fun e => hz e.symm)
    have ht := h.2.2.2
    unfold Tab Lib.TabIs World.var? at *
    rw [gTab] at ht ⊢
    simp only [Option.bind_some] at ht ⊢
    rw [h0]
    exact ht⟩
theorem held8 {w W : World} {st r : ByteArray} {c : Int} (h : Held w W st r c) {b : Nat} (hb : w.heap.size + 2 ≤ b) (v0 v1 v2 v3 v4 v5 v6 v7 : Value) : Held w ((((((((W.setCell ⟨b, 0, none⟩ v0).setCell ⟨b, 1, none⟩ v1).setCell ⟨b, 2, none⟩ v2).setCell ⟨b, 3, none⟩ v3).setCell ⟨b, 4, none⟩ v4).setCell ⟨b, 5, none⟩ v5).setCell ⟨b, 6, none⟩ v6).setCell ⟨b, 7, none⟩ v7) st r c :=
  held_set (held_set (held_set (held_set (held_set (held_set (held_set (held_set h hb 0 v0) hb 1 v1) hb 2 v2) hb 3 v3) hb 4 v4) hb 5 v5) hb 6 v6) hb 7 v7
theorem blk8 {W : World} {b : Nat} (h : Blk W b 67 [0, 0, 0, 0, 0, 0, 0, 0]) (v0 v1 v2 v3 v4 v5 v6 v7 : Int) : Blk ((((((((W.setCell ⟨b, 0, none⟩ (.int .u32 v0)).setCell ⟨b, 1, none⟩ (.int .u32 v1)).setCell ⟨b, 2, none⟩ (.int .u32 v2)).setCell ⟨b, 3, none⟩ (.int .u32 v3)).setCell ⟨b, 4, none⟩ (.int .u32 v4)).setCell ⟨b, 5, none⟩ (.int .u32 v5)).setCell ⟨b, 6, none⟩ (.int .u32 v6)).setCell ⟨b, 7, none⟩ (.int .u32 v7)) b 67 [v0, v1, v2, v3, v4, v5, v6, v7] :=
  blk_put_ (blk_put_ (blk_put_ (blk_put_ (blk_put_ (blk_put_ (blk_put_ (blk_put_ h 0 v0) 1 v1) 2 v2) 3 v3) 4 v4) 5 v5) 6 v6) 7 v7
theorem blk_zero {W : World} {b : Nat} (h : Blk W b 67 [0, 0, 0, 0, 0, 0, 0, 0]) : (∀ i, i < 8 → W.cell? ⟨b, i, none⟩ = some (.int .u32 0)) ∧ ∀ i, W.frozen? ⟨b, i, none⟩ = false := by
  refine ⟨fun i hi => ?_, fun i => blk_froz h i⟩
  rw [blk_cell_ h i (by simpa using hi)]
  have : i = 0 ∨ i = 1 ∨ i = 2 ∨ i = 3 ∨ i = 4 ∨ i = 5 ∨ i = 6 ∨ i = 7 := by omega
  rcases this with rfl | rfl | rfl | rfl | rfl | rfl | rfl | rfl <;> rfl
theorem held_cell {w W : World} {st r : ByteArray} {c : Int} (h : Held w W st r c) : W.cell? ⟨w.heap.size, 0, none⟩ = some (.string st) ∧ W.cell? ⟨w.heap.size, 1, none⟩ = some (.string r) ∧ W.cell? ⟨w.heap.size, 2, none⟩ = some (.int .i64 c) :=
  ⟨blk_cell h.2.1 0, blk_cell h.2.1 1, blk_cell h.2.1 2⟩
theorem wp_world {P : Program} {c : Code} {Q : Exit → Act → World → Prop} {a : Act} {W : World} (h : ∀ V, V = W → c.wp P Q a V) : c.wp P Q a W := h W rfl
theorem s9 {W : World} {b0 b : Nat} {x y : Value} {c b1 b2 b3 b4 b5 b6 b7 b8 : Int} (h : W.heap[b0]? = some (.cells #[x, y, .int .i64 c] 27)) (hb : Blk W b 67 [b1, b2, b3, b4, b5, b6, b7, b8]) :
    W.cell? ⟨b0, 2, none⟩ = some (.int .i64 c) ∧ W.cell? ⟨b, 0, none⟩ = some (.int .u32 b1) ∧ W.cell? ⟨b, 1, none⟩ = some (.int .u32 b2) ∧ W.cell? ⟨b, 2, none⟩ = some (.int .u32 b3) ∧ W.cell? ⟨b, 3, none⟩ = some (.int .u32 b4) ∧ W.cell? ⟨b, 4, none⟩ = some (.int .u32 b5) ∧ W.cell? ⟨b, 5, none⟩ = some (.int .u32 b6) ∧ W.cell? ⟨b, 6, none⟩ = some (.int .u32 b7) ∧ W.cell? ⟨b, 7, none⟩ = some (.int .u32 b8) :=
  ⟨blk_cell h 2, blk_cell_ hb 0 (by simp), blk_cell_ hb 1 (by simp), blk_cell_ hb 2 (by simp), blk_cell_ hb 3 (by simp), blk_cell_ hb 4 (by simp), blk_cell_ hb 5 (by simp), blk_cell_ hb 6 (by simp), blk_cell_ hb 7 (by simp)⟩
theorem far3 {W : World} {b0 b : Nat} {t : TypeId} {cs : Array Value} (h : W.heap[b0]? = some (.cells cs t)) (hne : b0 ≠ b) (x y z : Value) : (((W.setCell ⟨b, 0, none⟩ x).setCell ⟨b, 1, none⟩ y).setCell ⟨b, 2, none⟩ z).heap[b0]? = some (.cells cs t) :=
  blk_far (blk_far (blk_far h (show b0 ≠ b from hne) x) (show b0 ≠ b from hne) y) (show b0 ≠ b from hne) z
theorem held_out {w W : World} {st r : ByteArray} {c : Int} (h : Held w W st r c) : (W.cell? ⟨w.heap.size + 1, 0, none⟩ = some (.string ⟨#[]⟩) ∧ W.cell? ⟨w.heap.size + 1, 1, none⟩ = some (.string ⟨#[]⟩) ∧ W.cell? ⟨w.heap.size + 1, 2, none⟩ = some (.int .i64 0)) ∧ W.frozen? ⟨w.heap.size + 1, 0, none⟩ = false ∧ W.frozen? ⟨w.heap.size + 1, 1, none⟩ = false ∧ W.frozen? ⟨w.heap.size + 1, 2, none⟩ = false :=
  ⟨⟨blk_cell h.2.2.1 0, blk_cell h.2.2.1 1, blk_cell h.2.2.1 2⟩, blk_frozen h.2.2.1 0, blk_frozen h.2.2.1 1, blk_frozen h.2.2.1 2⟩
set_option maxHeartbeats 16000000 in
set_option maxRecDepth 100000 in
theorem hashMore_calls (st r : ByteArray) (c : Int) (s : ByteArray) (hc : -9223372036854775808 ≤ c ∧ c ≤ 9223372036854775807) (hs : s.size ≤ 1152921504606846975) (w : World) (htab : Tab w) : Calls Tryd.prog 20 #[.agg #[.string st, .string r, .int .i64 c], .string s] w fun e_ w' => e_ = .returned (.agg #[.string (hashMore st r c s).1, .string (hashMore st r c s).2.1, .int .i64 (hashMore st r c s).2.2]) ∧ Below w.heap.size w w' := by
  have HB := Aside0.mk (Below.refl w.heap.size w)
  have HT := Aside0.mk htab
  clear htab
  by_cases hok : hOk st r c = true
  · have hok' := hok
    unfold hOk at hok'
    simp only [decide_eq_true_eq] at hok'
    obtain ⟨h32, h0, h9, h64⟩ := hok'
    have hof := ok_f st r c
    rw [hok] at hof
    have HO := Aside0.mk hof
    have HOK := Aside0.mk hok
    clear hof hok
    by_cases hfit : (s.size : Int) ≤ 1000000000 - c
    · have e : hashMore st r c s = (stText (blks (txState st) (r ++ s)).1, (blks (txState st) (r ++ s)).2, c + s.size) := by unfold hashMore; rw [if_pos ⟨HOK.out, hfit⟩]
      rw [e]
      clear e
      have hroom : (9223372036854775807 < r.size + s.size) = False := eq_false (by omega)
      have hr2 : (r ++ s).size ≤ 9223372036854775807 := by rw [ByteArray.size_append]; omega
      have htl := txState_len st
      obtain ⟨⟨bl, br⟩, hbl⟩ : ∃ q, blks (txState st) (r ++ s) = q := ⟨_, rfl⟩
      have hbll := blks_len (txState st) (r ++ s) htl
      rw [hbl] at hbll ⊢
      obtain ⟨b1, b2, b3, b4, b5, b6, b7, b8, rfl⟩ := arr8 bl hbll
      have HX := Aside0.mk (And.intro True.intro (And.intro htl (And.intro hbl (And.intro hr2 (show 32 ≤ st.size by omega)))))
      clear htl hbl hbll hr2 hs h64 h32
      go_enter Tryd.func20, Tryd.ntmps20
      go_wp2_with (first | ((with_reducible refine gate_dst (N := 7) rfl ?_); refine ld27 (blk_alloc (blk_new _ _) _) (.tmp 2) rfl rfl rfl ?_) | (go_at_call 41; refine (impl_HasherOk.calls st r c _ _ HO.out).mono ?_; rintro e_ w1 ⟨rfl, hb1⟩; have HB1 := Aside0.mk hb1; clear hb1; have B0 := blk_below (blk_alloc (blk_new w (.cells #[.string st, .string r, .int .i64 c] 27)) _) HB1.out; have Z0 := Aside0.mk (blk_below (heap_alloc2_new w _ _) HB1.out); have c0 := blk_cell B0 0; have c1 := blk_cell B0 1; have c2 := blk_cell B0 2; simp only [List.getElem?_toArray, List.getElem?_cons_zero, List.getElem?_cons_succ] at c0 c1 c2; have A0 := Aside0.mk B0; clear B0))
      have kW : Below w.heap.size w w1 := ((HB.out.alloc (Nat.le_refl _) (.cells #[.string st, .string r, .int .i64 c] 27)).alloc (by rw [sz_alloc]; omega) (.cells #[.string ⟨#[]⟩, .string ⟨#[]⟩, .int .i64 0] 27)).trans (HB1.out.mono (by rw [sz_alloc, sz_alloc]; omega))
      have HQ : Aside0 (Held w w1.drew st r c) := ⟨below_drew kW, A0.out, Z0.out, tab_below (tab_below HT.out kW) (below_drew (Below.refl _ _))⟩
      clear kW HB1 A0 Z0
      have HP := HQ
      go_region_held3 (fun w' => w'.cell? ⟨w.heap.size, 0, none⟩ = some (.string st) ∧ w'.cell? ⟨w.heap.size, 1, none⟩ = some (.string r)) (first | (simp [*, World.cell?_alloc_some, World.cell?_setCell_far]; done) | (have hq8 := held_cell (held8 HQ.out BZ.out.2 (.int .u32 b1) (.int .u32 b2) (.int .u32 b3) (.int .u32 b4) (.int .u32 b5) (.int .u32 b6) (.int .u32 b7) (.int .u32 b8)); exact ⟨hq8.1, hq8.2.1⟩))
        (first
          | (go_at_call 60; refine (textState_calls st HX.out.2.2.2.2 _).mono ?_; rintro e_ w2 ⟨rfl, hb2⟩; have HQ_ := Aside0.mk (held_below (by (first | exact HQ.out | exact held_alloc HQ.out _)) hb2); clear HQ; have HQ := HQ_; clear HQ_; (first | (have BZ_ : Aside0 (Blk w2 _ 67 [0, 0, 0, 0, 0, 0, 0, 0] ∧ w.heap.size + 2 ≤ _) := ⟨blk_below BZ.out.1 hb2, BZ.out.2⟩; clear BZ; have BZ := BZ_; clear BZ_) | (have BZ : Aside0 (Blk w2 _ 67 [0, 0, 0, 0, 0, 0, 0, 0] ∧ w.heap.size + 2 ≤ _) := ⟨blk_below (blk_new _ _) hb2, held_size HP.out⟩) | (have BZ : Aside0 (Blk w2 _ 67 [0, 0, 0, 0, 0, 0, 0, 0] ∧ w.heap.size + 2 ≤ _) := ⟨blk_below (blk_drew (blk_new _ _)) hb2, held_size HP.out⟩) | skip); clear hb2; have HP_ := HQ; clear HP; have HP := HP_; clear HP_; have k0 := (held_cell HQ.out).1; have k1 := (held_cell HQ.out).2.1)
          | (go_at_call 52; refine (blocks_calls' (txState st) HX.out.2.1 (r ++ s) HX.out.2.2.2.1 _ ((by first | exact HQ.out | exact held_alloc HQ.out _ : Held w _ st r c)).2.2.2 b1 b2 b3 b4 b5 b6 b7 b8 br HX.out.2.2.1).mono ?_; rintro e_ w3 ⟨rfl, hb3⟩; have HQ_ := Aside0.mk (held_below (by (first | exact HQ.out | exact held_alloc HQ.out _)) hb3); clear HQ; have HQ := HQ_; clear HQ_; (first | (have BZ_ : Aside0 (Blk w3 _ 67 [0, 0, 0, 0, 0, 0, 0, 0] ∧ w.heap.size + 2 ≤ _) := ⟨blk_below BZ.out.1 hb3, BZ.out.2⟩; clear BZ; have BZ := BZ_; clear BZ_) | (have BZ : Aside0 (Blk w3 _ 67 [0, 0, 0, 0, 0, 0, 0, 0] ∧ w.heap.size + 2 ≤ _) := ⟨blk_below (blk_new _ _) hb3, held_size HP.out⟩) | (have BZ : Aside0 (Blk w3 _ 67 [0, 0, 0, 0, 0, 0, 0, 0] ∧ w.heap.size + 2 ≤ _) := ⟨blk_below (blk_drew (blk_new _ _)) hb3, held_size HP.out⟩) | skip); clear hb3; have HP_ := HQ; clear HP; have HP := HP_; clear HP_; have l0 := (held_cell HQ.out).1; have l1 := (held_cell HQ.out).2.1; (try (have zc := (blk_zero BZ.out.1).1; have zf := (blk_zero BZ.out.1).2; (try simp only [heap_drew] at zc zf)))))
      all_goals
        go_wp2_with fail
        refine wp_world (fun V hV => ?_)
      (obtain ⟨bb, hbb, hH, hBk⟩ : ∃ q, w3.heap.size = q ∧ Held w V st r c ∧ Blk V q 67 [b1, b2, b3, b4, b5, b6, b7, b8] := ⟨_, rfl, by rw [hV]; exact ⟨held_alloc HQ.out _, blk_new _ _⟩⟩; rw [hbb])
      rotate_left 1
      (obtain ⟨bb, hbb, hH, hBk⟩ : ∃ q, w2.heap.size = q ∧ Held w V st r c ∧ Blk V q 67 [b1, b2, b3, b4, b5, b6, b7, b8] := ⟨_, rfl, by rw [hV]; exact ⟨held8 HQ.out BZ.out.2 (.int .u32 b1) (.int .u32 b2) (.int .u32 b3) (.int .u32 b4) (.int .u32 b5) (.int .u32 b6) (.int .u32 b7) (.int .u32 b8), blk8 BZ.out.1 b1 b2 b3 b4 b5 b6 b7 b8⟩⟩; rw [hbb])
      rotate_left 1
      (obtain ⟨bb, hbb, hH, hBk⟩ : ∃ q, w1.heap.size = q ∧ Held w V st r c ∧ Blk V q 67 [b1, b2, b3, b4, b5, b6, b7, b8] := ⟨_, rfl, by rw [hV]; exact ⟨held8 HQ.out BZ.out.2 (.int .u32 b1) (.int .u32 b2) (.int .u32 b3) (.int .u32 b4) (.int .u32 b5) (.int .u32 b6) (.int .u32 b7) (.int .u32 b8), blk8 BZ.out.1 b1 b2 b3 b4 b5 b6 b7 b8⟩⟩; rw [hbb])
      rotate_left 1
      all_goals
        have hbig : w.heap.size + 2 ≤ bb := by rw [← hbb]; first | exact held_size HQ.out | exact BZ.out.2
        have HQ4 : Aside0 (Held w V.drew st r c ∧ Blk V.drew bb 67 [b1, b2, b3, b4, b5, b6, b7, b8]) := ⟨⟨below_drew hH.1, hH.2.1, hH.2.2.1, tab_below hH.2.2.2 (below_drew (Below.refl _ _))⟩, hBk⟩
        have HH := s9 hH.2.1 hBk
        obtain ⟨e0, e1, e2, e3, e4, e5, e6, e7, e8⟩ := HH
        have HBB := Aside0.mk hbig
        clear hV hbb hH hBk hbig HQ HP
        go_region_held3 (fun w' => w'.cell? ⟨w.heap.size, 2, none⟩ = some (.int .i64 c) ∧ w'.cell? ⟨bb, 0, none⟩ = some (.int .u32 b1) ∧ w'.cell? ⟨bb, 1, none⟩ = some (.int .u32 b2) ∧ w'.cell? ⟨bb, 2, none⟩ = some (.int .u32 b3) ∧ w'.cell? ⟨bb, 3, none⟩ = some (.int .u32 b4) ∧ w'.cell? ⟨bb, 4, none⟩ = some (.int .u32 b5) ∧ w'.cell? ⟨bb, 5, none⟩ = some (.int .u32 b6) ∧ w'.cell? ⟨bb, 6, none⟩ = some (.int .u32 b7) ∧ w'.cell? ⟨bb, 7, none⟩ = some (.int .u32 b8)) (first | (simp [*, World.cell?_alloc_some, World.cell?_setCell_far]; done) | exact s9 (far3 HQ5.out.1.2.1 (by omega) _ _ _) (far3 HQ5.out.2 (by have := HBB.out; omega) _ _ _))
          (first
            | (go_at_call 55; refine (stateText_calls b1 b2 b3 b4 b5 b6 b7 b8 _).mono ?_; rintro e_ w5 ⟨rfl, hb5⟩; have HQ5 : Aside0 (Held w w5 st r c ∧ Blk w5 bb 67 [b1, b2, b3, b4, b5, b6, b7, b8]) := ⟨held_below HQ4.out.1 hb5, blk_below HQ4.out.2 hb5⟩; clear hb5; have g9 := s9 HQ5.out.1.2.1 HQ5.out.2; obtain ⟨g0, g1, g2, g3, g4, g5, g6, g7, g8⟩ := g9; obtain ⟨⟨z0, z1, z2⟩, y0, y1, y2⟩ := held_out HQ5.out.1))
        go_wp2_with fail
        (try simp only [Exit.inBlock, Exit.then])
        have hwr : IntKind.i64.wrap (c + (s.size : Int)) = c + s.size := by rw [IntKind.wrap_i64]; omega
        rw [hwr]
        refine bodyPost_ret (ret27 (x := .string (stText [b1, b2, b3, b4, b5, b6, b7, b8])) (y := .string br) (z := .int .i64 (c + s.size)) rfl _ _ (blk_put (blk_put (blk_put HQ5.out.1.2.2.1 0 _ rfl) 1 _ rfl) 2 _ rfl) rfl) rfl ⟨rfl, ?_⟩
        exact ((HQ5.out.1.1.setCell (by show _ ≤ w.heap.size + 1; omega) _).setCell (by show _ ≤ w.heap.size + 1; omega) _).setCell (by show _ ≤ w.heap.size + 1; omega) _
    · have hf2 : (1000000000 : Int) - c < s.size := by omega
      have e : hashMore st r c s = (st, r, c) := by unfold hashMore; rw [if_neg (fun h => hfit h.2)]
      rw [e]
      clear e
      go_enter Tryd.func20, Tryd.ntmps20
      go_wp2_with (first | ((with_reducible refine gate_dst (N := 7) rfl ?_); refine ld27 (blk_alloc (blk_new _ _) _) (.tmp 2) rfl rfl rfl ?_) | (go_at_call 41; refine (impl_HasherOk.calls st r c _ _ HO.out).mono ?_; rintro e_ w1 ⟨rfl, hb1⟩; have HB1 := Aside0.mk hb1; clear hb1; have B0 := blk_below (blk_alloc (blk_new w (.cells #[.string st, .string r, .int .i64 c] 27)) _) HB1.out; have Z0 := Aside0.mk (blk_below (heap_alloc2_new w _ _) HB1.out); have c0 := blk_cell B0 0; have c1 := blk_cell B0 1; have c2 := blk_cell B0 2; simp only [List.getElem?_toArray, List.getElem?_cons_zero, List.getElem?_cons_succ] at c0 c1 c2; have A0 := Aside0.mk B0; clear B0) | ((with_reducible refine gate_store (t := 27) (p := 4) rfl ?_); refine st27 Z0.out (.tmp 4) (.tmp 18) rfl rfl rfl rfl (by simp [Value.oneCell']) ?_))
      (try simp only [Exit.inBlock, Exit.then])
      exact bodyPost_ret (ret27 (x := .string st) (y := .string r) (z := .int .i64 c) rfl _ _ (setRow_heap _ _ _ _ _ _ Z0.out) rfl) rfl ⟨rfl, setRow_below (((HB.out.alloc (Nat.le_refl _) (.cells #[.string st, .string r, .int .i64 c] 27)).alloc (by rw [sz_alloc]; omega) (.cells #[.string ⟨#[]⟩, .string ⟨#[]⟩, .int .i64 0] 27)).trans (HB1.out.mono (by rw [sz_alloc, sz_alloc]; omega))) (by omega) _⟩
  · have hof := ok_f st r c
    rw [Bool.not_eq_true] at hok
    rw [hok] at hof
    have HO := Aside0.mk hof
    have e : hashMore st r c s = (st, r, c) := by unfold hashMore; rw [if_neg (fun h => by rw [hok] at h; exact Bool.false_ne_true h.1)]
    rw [e]
    clear e hof hok
    go_enter Tryd.func20, Tryd.ntmps20
    go_wp2_with (first | ((with_reducible refine gate_dst (N := 7) rfl ?_); refine ld27 (blk_alloc (blk_new _ _) _) (.tmp 2) rfl rfl rfl ?_) | (go_at_call 41; refine (impl_HasherOk.calls st r c _ _ HO.out).mono ?_; rintro e_ w1 ⟨rfl, hb1⟩; have HB1 := Aside0.mk hb1; clear hb1; have B0 := blk_below (blk_alloc (blk_new w (.cells #[.string st, .string r, .int .i64 c] 27)) _) HB1.out; have Z0 := Aside0.mk (blk_below (heap_alloc2_new w _ _) HB1.out); have c0 := blk_cell B0 0; have c1 := blk_cell B0 1; have c2 := blk_cell B0 2; simp only [List.getElem?_toArray, List.getElem?_cons_zero, List.getElem?_cons_succ] at c0 c1 c2; have A0 := Aside0.mk B0; clear B0) | ((with_reducible refine gate_store (t := 27) (p := 4) rfl ?_); refine st27 Z0.out (.tmp 4) (.tmp 18) rfl rfl rfl rfl (by simp [Value.oneCell']) ?_))
    (try simp only [Exit.inBlock, Exit.then])
    exact bodyPost_ret (ret27 (x := .string st) (y := .string r) (z := .int .i64 c) rfl _ _ (setRow_heap _ _ _ _ _ _ Z0.out) rfl) rfl ⟨rfl, setRow_below (((HB.out.alloc (Nat.le_refl _) (.cells #[.string st, .string r, .int .i64 c] 27)).alloc (by rw [sz_alloc]; omega) (.cells #[.string ⟨#[]⟩, .string ⟨#[]⟩, .int .i64 0] 27)).trans (HB1.out.mono (by rw [sz_alloc, sz_alloc]; omega))) (by omega) _⟩
end Go.Proofs.YtlddohppkcndjaaDoor.Sha
