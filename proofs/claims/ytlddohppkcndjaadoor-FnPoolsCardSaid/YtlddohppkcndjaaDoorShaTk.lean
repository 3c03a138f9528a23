/- Bytes taken of a pool, the program's way and the document's: walked. Condition: the table of the rounds' numbers. -/
import Derived.Test.YtlddohppkcndjaaDoorShaPool
import Derived.Test.YtlddohppkcndjaaDoorPPoolFeedx1
import Derived.Deep.RegionLaw
namespace Go.Proofs.YtlddohppkcndjaaDoor.Sha
open Go.RowKit Go.Proofs.YtlddohppkcndjaaDoorW.PrintWords Go.Proofs.YtlddohppkcndjaaDoorW.PrintLast Go.Proofs.YtlddohppkcndjaaDoorW.PrintMore
set_option linter.unusedVariables false
set_option linter.unusedSimpArgs false
/-- the value and what was given, after i rounds -/
def tkTo (k v : ByteArray) : Nat → ByteArray × ByteArray
  | 0 => (v, ⟨#[]⟩)
  | i + 1 => (mac k (tkTo k v i).1, (tkTo k v i).2 ++ mac k (tkTo k v i).1)
theorem tkTo_size (k v : ByteArray) (hv : v.size = 32) : ∀ i, (tkTo k v i).1.size = 32 ∧ (tkTo k v i).2.size = 32 * i
  | 0 => ⟨hv, rfl⟩
  | i + 1 => by
    have h := tkTo_size k v hv i
    refine ⟨mac_size _ _, ?_⟩
    show ((tkTo k v i).2 ++ mac _ _).size = _
    rw [ByteArray.size_append, mac_size, h.2]
    omega
def tOk (k v : ByteArray) (t n : Int) : Bool := pOk k v t && decide (0 ≤ n ∧ n ≤ 200 ∧ ¬ t = 20)
/-- What taking n bytes of a pool gives. -/
def takeP (k v : ByteArray) (t n : Int) : ByteArray × ByteArray × Int × ByteArray × Bool :=
  if tOk k v t n = true then
    ((mixP k (tkTo k v ((n.toNat + 31) / 32)).1 ⟨#[]⟩).1, (mixP k (tkTo k v ((n.toNat + 31) / 32)).1 ⟨#[]⟩).2, t + 1, (tkTo k v ((n.toNat + 31) / 32)).2.extract 0 n.toNat, true)
  else (⟨#[]⟩, ⟨#[]⟩, 0, ⟨#[]⟩, false)
theorem results_cell_tmp2 {fn : Func} {p u x : Tmp} {ty : TypeId} (h : fn.results = #[.cell p ty, .tmp u, .tmp x]) (tmps : Array Value) (P : Program) (w : World) :
    (results fn tmps).run P w =
      ((asAddr (tmps.getD p undef)).run P w).andThen fun a w₁ => ((loadVar ty a).run P w₁).andThen fun v w₂ => .ok (.tuple #[v, tmps.getD u undef, tmps.getD x undef]) w₂ := by
  simp only [results, h]
  simp [Sem.run_bind, Result.andThen]
theorem ret40t {fn : Func} {p u b2 : Tmp} (h : fn.results = #[.cell p 40, .tmp u, .tmp b2]) (tmps : Array Value) (w : World) {b : Nat} {t : TypeId} {x y z : Value} {s : ByteArray} {c : Bool} (hb : w.heap[b]? = some (.cells #[x, y, z] t (0, 0))) (hp : tmps.getD p undef = .pointer (some ⟨b, 0, none⟩)) (hu : tmps.getD u undef = .string s) (hc : tmps.getD b2 undef = .bool c) : (results fn tmps).run Tryd.prog w = .ok (.tuple #[.agg #[x, y, z], .string s, .bool c]) w := by
  rw [results_cell_tmp2 h, hp, hu, hc]
  simp [asAddr, Result.andThen, run_loadVar_row w b t 40 #[x, y, z] (0, 0) _ hb Tryd.underlying40 rfl (by rw [size40]; rfl)]
theorem in_yes2 (x lo hi : Int) (h1 : lo ≤ x) (h2 : x ≤ hi) : PPoolOk.impl_in.f x lo hi = some true := by
  unfold PPoolOk.impl_in.f
  simp [h1, h2]
theorem in_no2 (x lo hi : Int) (h : ¬ (lo ≤ x ∧ x ≤ hi)) : PPoolOk.impl_in.f x lo hi = some false := by
  unfold PPoolOk.impl_in.f
  by_cases h1 : lo ≤ x
  · simp [h1]; omega
  · simp [h1]
theorem sin_yes2 (x lo hi : Int) (h1 : lo ≤ x) (h2 : x ≤ hi) : PPoolFeed.spec_l01In.f x lo hi = some true := by
  unfold PPoolFeed.spec_l01In.f
  simp [h1, h2]
theorem sin_no2 (x lo hi : Int) (h : ¬ (lo ≤ x ∧ x ≤ hi)) : PPoolFeed.spec_l01In.f x lo hi = some false := by
  unfold PPoolFeed.spec_l01In.f
  by_cases h1 : lo ≤ x
  · simp [h1]; omega
  · simp [h1]
theorem sPoolOk_f (k v : ByteArray) (t : Int) : PPoolFeed.spec_PoolOk.f k v t = some (pOk k v t) := by
  unfold PPoolFeed.spec_PoolOk.f PPoolFeed.spec_l01In.f pOk
  by_cases h1 : k.size = 32
  · rw [if_pos (by omega)]
    by_cases h2 : v.size = 32
    · rw [if_pos (by omega)]
      by_cases h3 : 0 ≤ t <;> simp [h1, h2, h3]
    · rw [if_neg (by omega)]; simp [h2]
  · rw [if_neg (by omega)]; simp [h1]
theorem sMac_f (a b : ByteArray) (ha : a.size ≤ 900000000) (hb : b.size ≤ 900000000) : PPoolFeed.spec_MacOf.f a b = some (mac a b) := by
  unfold PPoolFeed.spec_MacOf.f
  rw [if_pos ⟨ha, hb⟩]
theorem sMix_f (k v : ByteArray) (t : Int) (hk : k.size = 32) (hv : v.size = 32) : PPoolFeed.spec_l08Mix.f k v t ⟨#[]⟩ = some ((mixP k v ⟨#[]⟩).1, (mixP k v ⟨#[]⟩).2, t) := by
  have z0 : (⟨#[0]⟩ : ByteArray).size = 1 := rfl
  have z1 : (⟨#[]⟩ : ByteArray).size = 0 := rfl
  have m1 := mac_size k ((v ++ ⟨#[0]⟩) ++ ⟨#[]⟩)
  unfold PPoolFeed.spec_l08Mix.f mixP
  simp only
  rw [if_pos (by omega), if_pos (by rw [ByteArray.size_append, z0]; omega), sMac_f _ _ (by omega) (by rw [ByteArray.size_append, ByteArray.size_append, z0]; omega), Option.bind_some, sMac_f _ _ (by omega) (by omega), Option.bind_some, if_pos (by rw [ByteArray.toList_eq])]
  rfl
/-- the pool's cells, the result's cells, the table -/
abbrev HeldP (w W : World) (k v : ByteArray) (t : Int) : Prop := Below w.heap.size w W ∧ PoolAt W w.heap.size k v t ∧ PoolAt W (w.heap.size + 1) ⟨#[]⟩ ⟨#[]⟩ 0 ∧ w.heap.size + 2 ≤ W.heap.size ∧ Tab W
theorem heldP_below {w W W2 : World} {k v : ByteArray} {t : Int} {b : Nat} (h : HeldP w W k v t) (hb : Below b W W2) (hbb : w.heap.size + 2 ≤ b) (hbw : b ≤ W.heap.size) : HeldP w W2 k v t :=
  ⟨h.1.trans (hb.mono (by omega)), (hb.block _ (by omega)).trans h.2.1, (hb.block _ (by omega)).trans h.2.2.1, Nat.le_trans h.2.2.2.1 hb.size, by
    have h5 := h.2.2.2.2
    have hlt := tab_lt h5
    unfold Tab Lib.TabIs World.var? at *
    rw [gTab] at h5 ⊢
    simp only [Option.bind_some] at h5 ⊢
    rw [hb.block 0 (by omega)]
    exact h5⟩
theorem heldP_step {w W W2 : World} {k v : ByteArray} {t : Int} (h : HeldP w W k v t) (hb : Below W.heap.size W W2) : HeldP w W2 k v t := heldP_below h hb h.2.2.2.1 (Nat.le_refl _)
theorem heldP_val {w W : World} {k v : ByteArray} {t : Int} (h : HeldP w W k v t) (h0 : w.heap.size ≠ 0) (v' : ByteArray) : HeldP w (W.setCell ⟨w.heap.size, 1, none⟩ (.string v')) k v' t :=
  ⟨h.1.setCell (Nat.le_refl _) _, pool_val h.2.1 v', blk_far h.2.2.1 (by show _ ≠ w.heap.size; omega) _, by show _ ≤ (W.heap.modify _ _).size; rw [Array.size_modify]; exact h.2.2.2.1, tab_set h.2.2.2.2 h0 _ _⟩
theorem brow_rowfar {base : Nat} {w : World} {g g' n cap : Nat} {xs : List Int} (h : BRow base w (.slice (some ⟨g, 0, none⟩) n cap) xs) (hne : g ≠ g') (cs : Array Value) : BRow base (w.setRow g' cs) (.slice (some ⟨g, 0, none⟩) n cap) xs := by
  obtain ⟨g2, cap', cur, fr, hv, hb, hg, h1, h2, hf, ht⟩ := h
  injection hv with ha hn hc
  injection ha with ha
  injection ha with hgg
  subst hgg
  have e : (w.setRow g' cs).heap[g]? = w.heap[g]? := setRow_far hne
  refine ⟨g, cap', cur, fr, by rw [hn, hc], hb, e.trans hg, h1, h2, fun j hj => ?_, ht⟩
  have := hf j hj
  simp only [World.frozen?, e]
  simp only [World.frozen?] at this
  exact this
set_option maxHeartbeats 16000000 in
set_option maxRecDepth 100000 in
theorem poolTake_no (k v : ByteArray) (t n : Int) (h : tOk k v t n = false) (w : World) (htab : Tab w) : Calls Tryd.prog 34 #[.agg #[.string k, .string v, .int .i64 t], .int .i64 n] w fun e_ w' => e_ = .returned (.tuple #[.agg #[.string ⟨#[]⟩, .string ⟨#[]⟩, .int .i64 0], .string ⟨#[]⟩, .bool false]) ∧ Below w.heap.size w w' := by
  have HB := Aside0.mk (Below.refl w.heap.size w)
  have HW : Aside0 (∀ V, Below (w.heap.size + 2) ((w.alloc (.cells #[.string k, .string v, .int .i64 t] 40)).alloc (.cells #[.string ⟨#[]⟩, .string ⟨#[]⟩, .int .i64 0] 40)) V → Below w.heap.size w V ∧ PoolAt V w.heap.size k v t ∧ PoolAt V (w.heap.size + 1) ⟨#[]⟩ ⟨#[]⟩ 0) := ⟨fun W h =>
    ⟨((HB.out.alloc (Nat.le_refl _) _).alloc (by rw [sz_alloc]; omega) _).trans (h.mono (by omega)), (h.block _ (by omega)).trans (blk_alloc (blk_new _ _) _), (h.block _ (by omega)).trans (heap_alloc2_new w _ _)⟩⟩
  have HO := Aside0.mk (poolOk_f k v t)
  unfold tOk at h
  clear htab
  by_cases h1 : pOk k v t = true
  · rw [h1] at HO
    rw [h1, Bool.true_and, decide_eq_false_iff_not] at h
    by_cases h2 : 0 ≤ n ∧ n ≤ 200
    · have ht : t = 20 := by omega
      have HI := Aside0.mk (in_yes2 n 0 200 h2.1 h2.2)
      subst ht
      clear h h1 h2
      go_enter Tryd.func34, Tryd.ntmps34
      go_wp2_with (first | ((with_reducible refine gate_dst (N := 8) rfl ?_); refine ld40 (blk_alloc (blk_new _ _) _) (.tmp 2) rfl rfl rfl ?_) | (go_at_call 49; refine (PPoolOk.impl_PoolOk.calls k v _ _ _ HO.out).mono ?_; rintro e_ w1 ⟨rfl, hb1⟩; have HX := Aside0.mk (HW.out w1 (by rw [sz_alloc, sz_alloc] at hb1; exact hb1)); clear hb1; obtain ⟨c0, c1, c2, _, _, _⟩ := pool_cells HX.out.2.1) | (go_at_call 66; refine (PPoolOk.impl_in.calls n 0 200 _ _ HI.out).mono ?_; rintro e_ w2 ⟨rfl, ⟨n2, rfl⟩⟩) | ((with_reducible refine gate_store (t := 40) (p := 4) rfl ?_); refine st40 (show PoolAt (w1.drewN n2) (w.heap.size + 1) ⟨#[]⟩ ⟨#[]⟩ 0 from HX.out.2.2) (.tmp 4) (.tmp 21) rfl rfl rfl rfl (by simp [Value.oneCell']) ?_))
      (try simp only [Exit.inBlock, Exit.then])
      exact bodyPost_ret (ret40t (x := .string ⟨#[]⟩) (y := .string ⟨#[]⟩) (z := .int .i64 0) (s := ⟨#[]⟩) (c := false) rfl _ _ (setRow_heap _ _ _ _ _ _ (show PoolAt (w1.drewN n2) (w.heap.size + 1) ⟨#[]⟩ ⟨#[]⟩ 0 from HX.out.2.2)) rfl rfl rfl) rfl ⟨rfl, setRow_below (pw_below_drewN HX.out.1 _) (by omega) _⟩
    · have HI := Aside0.mk (in_no2 n 0 200 h2)
      clear h h1 h2
      go_enter Tryd.func34, Tryd.ntmps34
      go_wp2_with (first | ((with_reducible refine gate_dst (N := 8) rfl ?_); refine ld40 (blk_alloc (blk_new _ _) _) (.tmp 2) rfl rfl rfl ?_) | (go_at_call 49; refine (PPoolOk.impl_PoolOk.calls k v _ _ _ HO.out).mono ?_; rintro e_ w1 ⟨rfl, hb1⟩; have HX := Aside0.mk (HW.out w1 (by rw [sz_alloc, sz_alloc] at hb1; exact hb1)); clear hb1; obtain ⟨c0, c1, c2, _, _, _⟩ := pool_cells HX.out.2.1) | (go_at_call 66; refine (PPoolOk.impl_in.calls n 0 200 _ _ HI.out).mono ?_; rintro e_ w2 ⟨rfl, ⟨n2, rfl⟩⟩) | ((with_reducible refine gate_store (t := 40) (p := 4) rfl ?_); refine st40 (show PoolAt (w1.drewN n2) (w.heap.size + 1) ⟨#[]⟩ ⟨#[]⟩ 0 from HX.out.2.2) (.tmp 4) (.tmp 21) rfl rfl rfl rfl (by simp [Value.oneCell']) ?_))
      (try simp only [Exit.inBlock, Exit.then])
      exact bodyPost_ret (ret40t (x := .string ⟨#[]⟩) (y := .string ⟨#[]⟩) (z := .int .i64 0) (s := ⟨#[]⟩) (c := false) rfl _ _ (setRow_heap _ _ _ _ _ _ (show PoolAt (w1.drewN n2) (w.heap.size + 1) ⟨#[]⟩ ⟨#[]⟩ 0 from HX.out.2.2)) rfl rfl rfl) rfl ⟨rfl, setRow_below (pw_below_drewN HX.out.1 _) (by omega) _⟩
  · rw [Bool.not_eq_true] at h1
    rw [h1] at HO
    clear h h1
    go_enter Tryd.func34, Tryd.ntmps34
    go_wp2_with (first | ((with_reducible refine gate_dst (N := 8) rfl ?_); refine ld40 (blk_alloc (blk_new _ _) _) (.tmp 2) rfl rfl rfl ?_) | (go_at_call 49; refine (PPoolOk.impl_PoolOk.calls k v _ _ _ HO.out).mono ?_; rintro e_ w1 ⟨rfl, hb1⟩; have HX := Aside0.mk (HW.out w1 (by rw [sz_alloc, sz_alloc] at hb1; exact hb1)); clear hb1; obtain ⟨c0, c1, c2, _, _, _⟩ := pool_cells HX.out.2.1) | ((with_reducible refine gate_store (t := 40) (p := 4) rfl ?_); refine st40 HX.out.2.2 (.tmp 4) (.tmp 21) rfl rfl rfl rfl (by simp [Value.oneCell']) ?_))
    (try simp only [Exit.inBlock, Exit.then])
    exact bodyPost_ret (ret40t (x := .string ⟨#[]⟩) (y := .string ⟨#[]⟩) (z := .int .i64 0) (s := ⟨#[]⟩) (c := false) rfl _ _ (setRow_heap _ _ _ _ _ _ (HX.out.2.2)) rfl rfl rfl) rfl ⟨rfl, setRow_below (HX.out.1) (by omega) _⟩
set_option maxHeartbeats 16000000 in
set_option maxRecDepth 100000 in
theorem poolTake_yes (k v : ByteArray) (t : Int) (n : Nat) (hp : pOk k v t = true) (hn : n ≤ 200) (ht20 : ¬ t = 20) (w : World) (htab : Tab w) : Calls Tryd.prog 34 #[.agg #[.string k, .string v, .int .i64 t], .int .i64 (n : Int)] w fun e_ w' => e_ = .returned (.tuple #[.agg #[.string (mixP k (tkTo k v ((n + 31) / 32)).1 ⟨#[]⟩).1, .string (mixP k (tkTo k v ((n + 31) / 32)).1 ⟨#[]⟩).2, .int .i64 (t + 1)], .string ((tkTo k v ((n + 31) / 32)).2.extract 0 n), .bool true]) ∧ Below w.heap.size w w' := by
  have HB := Aside0.mk (Below.refl w.heap.size w)
  have hok := hp
  unfold pOk at hok
  simp only [decide_eq_true_eq] at hok
  obtain ⟨hk32, hv32, ht0, ht9⟩ := hok
  have h00 := tab_lt htab
  have HW : Aside0 (∀ V, Below (w.heap.size + 2) ((w.alloc (.cells #[.string k, .string v, .int .i64 t] 40)).alloc (.cells #[.string ⟨#[]⟩, .string ⟨#[]⟩, .int .i64 0] 40)) V → HeldP w V k v t) := ⟨fun W h =>
    heldP_below ⟨(HB.out.alloc (Nat.le_refl _) _).alloc (by rw [sz_alloc]; omega) _, blk_alloc (blk_new _ _) _, heap_alloc2_new w _ _, by rw [sz_alloc, sz_alloc]; omega, tab_below htab ((HB.out.alloc (Nat.le_refl _) _).alloc (by rw [sz_alloc]; omega) _)⟩ h (Nat.le_refl _) (by rw [sz_alloc, sz_alloc]; omega)⟩
  have HO := Aside0.mk (poolOk_f k v t)
  rw [hp] at HO
  have HI := Aside0.mk (in_yes2 (n : Int) 0 200 (by omega) (by omega))
  have htb : (t == 20) = false := beq_eq_false_iff_ne.mpr ht20
  have HN := Aside0.mk (And.intro hk32 (And.intro hv32 (And.intro hn (show w.heap.size ≠ 0 by omega))))
  clear hp hn htab hk32 hv32 h00
  go_enter Tryd.func34, Tryd.ntmps34
  go_wp2_with (first | ((with_reducible refine gate_dst (N := 8) rfl ?_); refine ld40 (blk_alloc (blk_new _ _) _) (.tmp 2) rfl rfl rfl ?_) | (go_at_call 49; refine (PPoolOk.impl_PoolOk.calls k v _ _ _ HO.out).mono ?_; rintro e_ w1 ⟨rfl, hb1⟩; have HX := Aside0.mk (HW.out w1 (by rw [sz_alloc, sz_alloc] at hb1; exact hb1)); clear hb1; obtain ⟨c0, c1, c2, _, _, _⟩ := pool_cells HX.out.2.1) | (go_at_call 66; refine (PPoolOk.impl_in.calls (n : Int) 0 200 _ _ HI.out).mono ?_; rintro e_ w2 ⟨rfl, ⟨n2, rfl⟩⟩))
  clear c0 c1 c2 htb
  refine wp_world (fun V hV => ?_)
  have HV : Aside0 (HeldP w V k v t) := ⟨by rw [hV]; exact heldP_step HX.out (pw_below_drewN (Below.refl _ _) _)⟩
  clear hV HX HW
  go_loopg [7] ((n + 31) / 32) (fun g s7 wx => ∃ i, ∃ vi o : ByteArray, i + g = (n + 31) / 32 ∧ s7 = .string o ∧ Aside0 (tkTo k v i = (vi, o)) ∧ Aside0 (HeldP w wx k vi t))
  case atStart => exact ⟨0, v, ⟨#[]⟩, by omega, rfl, ⟨rfl⟩, HV⟩
  case round =>
    obtain ⟨i, vi, o, hik, rfl, HXi, HY⟩ := hrel
    clear HV
    have hsz := tkTo_size k v HN.out.2.1 i
    rw [HXi.out] at hsz
    obtain ⟨hvs, hos⟩ := hsz
    simp only at hvs hos
    have hn2 := HN.out.2.2.1
    obtain ⟨L, hL⟩ : ∃ L, 32 * i = L := ⟨_, rfl⟩
    rw [hL] at hos
    cases gk with
    | zero =>
      have hlt : ¬ ((o.size : Int) < (n : Int)) := by omega
      have hi2 : i = (n + 31) / 32 := by omega
      have hge : n ≤ L := by omega
      have HE : Aside0 (tkTo k v ((n + 31) / 32) = (vi, o)) := ⟨by rw [← hi2, HXi.out]⟩
      have hm0 : (0 : Int) ≤ (n : Int) := by omega
      have hc1 : (n : Int) ≤ (o.size : Int) := by omega
      obtain ⟨⟨K', V'⟩, hm⟩ : ∃ q, mixP k vi ⟨#[]⟩ = q := ⟨_, rfl⟩
      have HM := Aside0.mk hm
      have HSZ := Aside0.mk (And.intro hvs (And.intro hos hge))
      have htw : (t : Int) ≤ 20 := ht9
      clear hm hi2 hik hvs hos hL hge hn2
      go_wp2_with (go_at_call 70; refine (mix_calls w.heap.size k vi ⟨#[]⟩ t (by have := HN.out.1; omega) (by have := HSZ.out.1; omega) (by decide) _ HY.out.2.1 HN.out.2.2.2 HY.out.2.2.2.2).mono ?_; rw [HM.out]; rintro e_ w3 ⟨rfl, hp3, hk3⟩; have HF := Aside0.mk (And.intro hp3 (And.intro (kb_below HY.out.1 hk3 (Nat.le_refl _)) ((hk3.block _ (by have := HY.out.2.2.2.1; omega) (by omega)).trans HY.out.2.2.1))); clear hp3 hk3; obtain ⟨d0, d1, d2, g0, g1, g2⟩ := pool_cells HF.out.1; obtain ⟨z0, z1, z2, y0, y1, y2⟩ := pool_cells HF.out.2.2)
      go_region
      go_wp2
      (try simp only [Exit.inBlock, Exit.then])
      refine bodyPost_ret (ret40t (x := .string K') (y := .string V') (z := .int .i64 (t + 1)) (s := o.extract 0 n) (c := true) rfl _ _ (blk_put (blk_put (blk_put (blk_far HF.out.2.2 (by show w.heap.size + 1 ≠ w.heap.size; omega) _) 0 _ rfl) 1 _ rfl) 2 _ rfl) rfl rfl rfl) rfl ⟨?_, ((((HF.out.2.1.setCell (Nat.le_refl _) _).setCell (show w.heap.size ≤ w.heap.size + 1 by omega) _).setCell (show w.heap.size ≤ w.heap.size + 1 by omega) _).setCell (show w.heap.size ≤ w.heap.size + 1 by omega) _).drew⟩
      rw [HE.out]
      simp only
      rw [HM.out]
    | succ kk =>
      have hlt : (o.size : Int) < (n : Int) := by omega
      have HM : Aside0 (∀ W : World, Tab W → Calls Tryd.prog 25 #[.string k, .string vi] W fun e_ w' => e_ = .returned (.string (mac k vi)) ∧ Below W.heap.size W w') := ⟨fun W hT => mac_calls k vi (by have := HN.out.1; omega) (by omega) W hT⟩
      have r0 : (9223372036854775807 < o.size + (mac k vi).size) = False := eq_false (by rw [mac_size]; omega)
      have r1 : (9223372036854775807 < o.size + 32) = False := eq_false (by omega)
      have HI3 := Aside0.mk (And.intro hik hos)
      obtain ⟨c0, c1, c2, f0, f1, f2⟩ := pool_cells HY.out.2.1
      obtain ⟨M, hM⟩ : ∃ M, mac k vi = M := ⟨_, rfl⟩
      rw [hM] at HM r0
      have HMe := Aside0.mk hM
      clear hik hvs hos hL hn2 hM
      go_wp2_with (go_at_call 25; refine (HM.out _ HY.out.2.2.2.2).mono ?_; rintro e_ w5 ⟨rfl, hb5⟩; have H5 := Aside0.mk (heldP_step HY.out hb5); clear hb5; obtain ⟨d0, d1, d2, g0, g1, g2⟩ := pool_cells H5.out.2.1)
      go_roundg kk
      case measure => omega
      case rel =>
        exact ⟨i + 1, M, o ++ M, by have := HI3.out.1; omega, rfl, ⟨by show (mac k (tkTo k v i).1, (tkTo k v i).2 ++ mac k (tkTo k v i).1) = _; rw [HXi.out]; simp only; rw [HMe.out]⟩, ⟨heldP_val H5.out HN.out.2.2.2 M⟩⟩
abbrev HeldQ (w W : World) (k v : ByteArray) (t : Int) : Prop := Below w.heap.size w W ∧ PoolAt W w.heap.size k v t ∧ PoolAt W (w.heap.size + 1) ⟨#[]⟩ ⟨#[]⟩ 0 ∧ w.heap.size + 2 ≤ W.heap.size ∧ True
theorem heldQ_below {w W W2 : World} {k v : ByteArray} {t : Int} {b : Nat} (h : HeldQ w W k v t) (hb : Below b W W2) (hbb : w.heap.size + 2 ≤ b) (hbw : b ≤ W.heap.size) : HeldQ w W2 k v t :=
  ⟨h.1.trans (hb.mono (by omega)), (hb.block _ (by omega)).trans h.2.1, (hb.block _ (by omega)).trans h.2.2.1, Nat.le_trans h.2.2.2.1 hb.size, trivial⟩
theorem heldQ_step {w W W2 : World} {k v : ByteArray} {t : Int} (h : HeldQ w W k v t) (hb : Below W.heap.size W W2) : HeldQ w W2 k v t := heldQ_below h hb h.2.2.2.1 (Nat.le_refl _)
theorem heldQ_val {w W : World} {k v : ByteArray} {t : Int} (h : HeldQ w W k v t) (h0 : True) (v' : ByteArray) : HeldQ w (W.setCell ⟨w.heap.size, 1, none⟩ (.string v')) k v' t :=
  ⟨h.1.setCell (Nat.le_refl _) _, pool_val h.2.1 v', blk_far h.2.2.1 (by show _ ≠ w.heap.size; omega) _, by show _ ≤ (W.heap.modify _ _).size; rw [Array.size_modify]; exact h.2.2.2.1, trivial⟩
set_option maxHeartbeats 16000000 in
set_option maxRecDepth 100000 in
theorem specTake_no (k v : ByteArray) (t n : Int) (h : tOk k v t n = false) (w : World) : Calls Tryd.prog 32 #[.agg #[.string k, .string v, .int .i64 t], .int .i64 n] w fun e_ w' => e_ = .returned (.tuple #[.agg #[.string ⟨#[]⟩, .string ⟨#[]⟩, .int .i64 0], .string ⟨#[]⟩, .bool false]) ∧ Below w.heap.size w w' := by
  have HB := Aside0.mk (Below.refl w.heap.size w)
  have HW : Aside0 (∀ V, Below (w.heap.size + 2) ((w.alloc (.cells #[.string k, .string v, .int .i64 t] 40)).alloc (.cells #[.string ⟨#[]⟩, .string ⟨#[]⟩, .int .i64 0] 40)) V → Below w.heap.size w V ∧ PoolAt V w.heap.size k v t ∧ PoolAt V (w.heap.size + 1) ⟨#[]⟩ ⟨#[]⟩ 0) := ⟨fun W h =>
    ⟨((HB.out.alloc (Nat.le_refl _) _).alloc (by rw [sz_alloc]; omega) _).trans (h.mono (by omega)), (h.block _ (by omega)).trans (blk_alloc (blk_new _ _) _), (h.block _ (by omega)).trans (heap_alloc2_new w _ _)⟩⟩
  have HO := Aside0.mk (sPoolOk_f k v t)
  unfold tOk at h
  by_cases h1 : pOk k v t = true
  · rw [h1] at HO
    rw [h1, Bool.true_and, decide_eq_false_iff_not] at h
    by_cases h2 : 0 ≤ n ∧ n ≤ 200
    · have ht : t = 20 := by omega
      have HI := Aside0.mk (sin_yes2 n 0 200 h2.1 h2.2)
      subst ht
      clear h h1 h2
      go_enter Tryd.func32, Tryd.ntmps32
      go_wp2_with (first | ((with_reducible refine gate_dst (N := 9) rfl ?_); refine ld40 (blk_alloc (blk_new _ _) _) (.tmp 2) rfl rfl rfl ?_) | (go_at_call 50; refine (PPoolFeed.spec_PoolOk.calls k v _ _ _ HO.out).mono ?_; rintro e_ w1 ⟨rfl, hb1⟩; have HX := Aside0.mk (HW.out w1 (by rw [sz_alloc, sz_alloc] at hb1; exact hb1)); clear hb1; obtain ⟨c0, c1, c2, _, _, _⟩ := pool_cells HX.out.2.1) | (go_at_call 64; refine (PPoolFeed.spec_l01In.calls n 0 200 _ _ HI.out).mono ?_; rintro e_ w2 ⟨rfl, ⟨n2, rfl⟩⟩) | ((with_reducible refine gate_store (t := 40) (p := 4) rfl ?_); refine st40 (show PoolAt (w1.drewN n2) (w.heap.size + 1) ⟨#[]⟩ ⟨#[]⟩ 0 from HX.out.2.2) (.tmp 4) (.tmp 22) rfl rfl rfl rfl (by simp [Value.oneCell']) ?_))
      (try simp only [Exit.inBlock, Exit.then])
      exact bodyPost_ret (ret40t (x := .string ⟨#[]⟩) (y := .string ⟨#[]⟩) (z := .int .i64 0) (s := ⟨#[]⟩) (c := false) rfl _ _ (setRow_heap _ _ _ _ _ _ (show PoolAt (w1.drewN n2) (w.heap.size + 1) ⟨#[]⟩ ⟨#[]⟩ 0 from HX.out.2.2)) rfl rfl rfl) rfl ⟨rfl, setRow_below (pw_below_drewN HX.out.1 _) (by omega) _⟩
    · have HI := Aside0.mk (sin_no2 n 0 200 h2)
      clear h h1 h2
      go_enter Tryd.func32, Tryd.ntmps32
      go_wp2_with (first | ((with_reducible refine gate_dst (N := 9) rfl ?_); refine ld40 (blk_alloc (blk_new _ _) _) (.tmp 2) rfl rfl rfl ?_) | (go_at_call 50; refine (PPoolFeed.spec_PoolOk.calls k v _ _ _ HO.out).mono ?_; rintro e_ w1 ⟨rfl, hb1⟩; have HX := Aside0.mk (HW.out w1 (by rw [sz_alloc, sz_alloc] at hb1; exact hb1)); clear hb1; obtain ⟨c0, c1, c2, _, _, _⟩ := pool_cells HX.out.2.1) | (go_at_call 64; refine (PPoolFeed.spec_l01In.calls n 0 200 _ _ HI.out).mono ?_; rintro e_ w2 ⟨rfl, ⟨n2, rfl⟩⟩) | ((with_reducible refine gate_store (t := 40) (p := 4) rfl ?_); refine st40 (show PoolAt (w1.drewN n2) (w.heap.size + 1) ⟨#[]⟩ ⟨#[]⟩ 0 from HX.out.2.2) (.tmp 4) (.tmp 22) rfl rfl rfl rfl (by simp [Value.oneCell']) ?_))
      (try simp only [Exit.inBlock, Exit.then])
      exact bodyPost_ret (ret40t (x := .string ⟨#[]⟩) (y := .string ⟨#[]⟩) (z := .int .i64 0) (s := ⟨#[]⟩) (c := false) rfl _ _ (setRow_heap _ _ _ _ _ _ (show PoolAt (w1.drewN n2) (w.heap.size + 1) ⟨#[]⟩ ⟨#[]⟩ 0 from HX.out.2.2)) rfl rfl rfl) rfl ⟨rfl, setRow_below (pw_below_drewN HX.out.1 _) (by omega) _⟩
  · rw [Bool.not_eq_true] at h1
    rw [h1] at HO
    clear h h1
    go_enter Tryd.func32, Tryd.ntmps32
    go_wp2_with (first | ((with_reducible refine gate_dst (N := 9) rfl ?_); refine ld40 (blk_alloc (blk_new _ _) _) (.tmp 2) rfl rfl rfl ?_) | (go_at_call 50; refine (PPoolFeed.spec_PoolOk.calls k v _ _ _ HO.out).mono ?_; rintro e_ w1 ⟨rfl, hb1⟩; have HX := Aside0.mk (HW.out w1 (by rw [sz_alloc, sz_alloc] at hb1; exact hb1)); clear hb1; obtain ⟨c0, c1, c2, _, _, _⟩ := pool_cells HX.out.2.1) | ((with_reducible refine gate_store (t := 40) (p := 4) rfl ?_); refine st40 HX.out.2.2 (.tmp 4) (.tmp 22) rfl rfl rfl rfl (by simp [Value.oneCell']) ?_))
    (try simp only [Exit.inBlock, Exit.then])
    exact bodyPost_ret (ret40t (x := .string ⟨#[]⟩) (y := .string ⟨#[]⟩) (z := .int .i64 0) (s := ⟨#[]⟩) (c := false) rfl _ _ (setRow_heap _ _ _ _ _ _ (HX.out.2.2)) rfl rfl rfl) rfl ⟨rfl, setRow_below (HX.out.1) (by omega) _⟩
set_option maxHeartbeats 16000000 in
set_option maxRecDepth 100000 in
theorem specTake_yes (k v : ByteArray) (t : Int) (n : Nat) (hp : pOk k v t = true) (hn : n ≤ 200) (ht20 : ¬ t = 20) (w : World) : Calls Tryd.prog 32 #[.agg #[.string k, .string v, .int .i64 t], .int .i64 (n : Int)] w fun e_ w' => e_ = .returned (.tuple #[.agg #[.string (mixP k (tkTo k v ((n + 31) / 32)).1 ⟨#[]⟩).1, .string (mixP k (tkTo k v ((n + 31) / 32)).1 ⟨#[]⟩).2, .int .i64 (t + 1)], .string ((tkTo k v ((n + 31) / 32)).2.extract 0 n), .bool true]) ∧ Below w.heap.size w w' := by
  have HB := Aside0.mk (Below.refl w.heap.size w)
  have hok := hp
  unfold pOk at hok
  simp only [decide_eq_true_eq] at hok
  obtain ⟨hk32, hv32, ht0, ht9⟩ := hok
  have HW : Aside0 (∀ V, Below (w.heap.size + 2) ((w.alloc (.cells #[.string k, .string v, .int .i64 t] 40)).alloc (.cells #[.string ⟨#[]⟩, .string ⟨#[]⟩, .int .i64 0] 40)) V → HeldQ w V k v t) := ⟨fun W h =>
    heldQ_below ⟨(HB.out.alloc (Nat.le_refl _) _).alloc (by rw [sz_alloc]; omega) _, blk_alloc (blk_new _ _) _, heap_alloc2_new w _ _, by rw [sz_alloc, sz_alloc]; omega, trivial⟩ h (Nat.le_refl _) (by rw [sz_alloc, sz_alloc]; omega)⟩
  have HO := Aside0.mk (sPoolOk_f k v t)
  rw [hp] at HO
  have HI := Aside0.mk (sin_yes2 (n : Int) 0 200 (by omega) (by omega))
  have htb : (t == 20) = false := beq_eq_false_iff_ne.mpr ht20
  have HN := Aside0.mk (And.intro hk32 (And.intro hv32 (And.intro hn trivial)))
  clear hp hn hk32 hv32
  have hnil : ∀ w : World, (Instr.buildSlice 51 0 #[]).run Tryd.prog w = .ok (.slice (some ⟨w.heap.size, 0, none⟩) 0 0) (w.alloc (.cells #[] 5)) := fun w => run_bytes_nil w
  go_enter Tryd.func32, Tryd.ntmps32
  go_wp2_with (first | ((with_reducible refine gate_dst (N := 9) rfl ?_); refine ld40 (blk_alloc (blk_new _ _) _) (.tmp 2) rfl rfl rfl ?_) | (go_at_call 50; refine (PPoolFeed.spec_PoolOk.calls k v _ _ _ HO.out).mono ?_; rintro e_ w1 ⟨rfl, hb1⟩; have HX := Aside0.mk (HW.out w1 (by rw [sz_alloc, sz_alloc] at hb1; exact hb1)); clear hb1; obtain ⟨c0, c1, c2, _, _, _⟩ := pool_cells HX.out.2.1) | (go_at_call 64; refine (PPoolFeed.spec_l01In.calls (n : Int) 0 200 _ _ HI.out).mono ?_; rintro e_ w2 ⟨rfl, ⟨n2, rfl⟩⟩))
  clear c0 c1 c2 htb hnil
  refine wp_world (fun V hV => ?_)
  have HV : Aside0 (HeldQ w V k v t ∧ BRow (w.heap.size + 2) V (.slice (some ⟨w1.heap.size, 0, none⟩) 0 0) (bys ⟨#[]⟩)) := ⟨by
    have q := heldQ_step HX.out (pw_below_drewN (Below.refl _ _) n2)
    have hb := brow_nil (base := w.heap.size + 2) (w1.drewN n2) (show w.heap.size + 2 ≤ (w1.drewN n2).heap.size from q.2.2.2.1)
    rw [hV]
    exact ⟨heldQ_step q ((Below.refl _ _).alloc (Nat.le_refl _) _), hb⟩⟩
  clear hV HX HW
  go_loopg [7] ((n + 31) / 32) (fun g_ s7 wx => ∃ i g cap, ∃ vi o : ByteArray, i + g_ = (n + 31) / 32 ∧ s7 = .slice (some ⟨g, 0, none⟩) (32 * i) cap ∧ Aside0 (tkTo k v i = (vi, o)) ∧ Aside0 (HeldQ w wx k vi t ∧ BRow (w.heap.size + 2) wx (.slice (some ⟨g, 0, none⟩) (32 * i) cap) (bys o)))
  case atStart => exact ⟨0, w1.heap.size, 0, v, ⟨#[]⟩, by omega, rfl, ⟨rfl⟩, HV⟩
  case round =>
    obtain ⟨i, g, cap, vi, o, hik, rfl, HXi, HY⟩ := hrel
    clear HV
    have hsz := tkTo_size k v HN.out.2.1 i
    rw [HXi.out] at hsz
    obtain ⟨hvs, hos⟩ := hsz
    simp only at hvs hos
    have hn2 := HN.out.2.2.1
    obtain ⟨L, hL⟩ : ∃ L, 32 * i = L := ⟨_, rfl⟩
    rw [hL] at HY hos ⊢
    cases gk with
    | zero =>
      have hlt : ¬ ((L : Int) < (n : Int)) := by omega
      have hi2 : i = (n + 31) / 32 := by omega
      have hge : n ≤ L := by omega
      have HE : Aside0 (tkTo k v ((n + 31) / 32) = (vi, o)) := ⟨by rw [← hi2, HXi.out]⟩
      have hm0 : (0 : Int) ≤ (n : Int) := by omega
      have hcap := brow_cap HY.out.2
      have hc1 : (n : Int) ≤ (cap : Int) := by omega
      obtain ⟨c0, c1, c2, _, _, _⟩ := pool_cells HY.out.1.2.1
      obtain ⟨⟨K', V'⟩, hm⟩ : ∃ q, mixP k vi ⟨#[]⟩ = q := ⟨_, rfl⟩
      have HM := Aside0.mk hm
      have HSZ := Aside0.mk (And.intro hvs (And.intro hos hge))
      have HMF : Aside0 (PPoolFeed.spec_l08Mix.f k vi t ⟨#[]⟩ = some (K', V', t)) := ⟨by rw [sMix_f k vi t HN.out.1 hvs, HM.out]⟩
      have htw : (t : Int) ≤ 20 := ht9
      clear hm hi2 hik hvs hos hL hge hn2 hcap
      go_wp2_with (first
        | ((with_reducible refine gate_dst (N := 42) rfl ?_); refine ld40 HY.out.1.2.1 (.tmp 2) rfl rfl rfl ?_)
        | (go_at_call 68; refine (PPoolFeed.spec_l08Mix.calls k vi t ⟨#[]⟩ K' V' t _ HMF.out).mono ?_; rintro e_ w3 ⟨rfl, hb3⟩; have H3 := Aside0.mk (And.intro (heldQ_step HY.out.1 hb3) (brow_below HY.out.2 hb3)); clear hb3)
        | ((with_reducible refine gate_store (t := 40) (p := 2) rfl ?_); refine st40 H3.out.1.2.1 (.tmp 2) (.tmp 43) rfl rfl rfl rfl (by simp [Value.oneCell']) ?_; refine wpl_world (fun V4 hV4 => ?_); have H4 : Aside0 (PoolAt V4 w.heap.size K' V' t ∧ PoolAt V4 (w.heap.size + 1) ⟨#[]⟩ ⟨#[]⟩ 0 ∧ Below w.heap.size w V4 ∧ BRow (w.heap.size + 2) V4 (.slice (some ⟨g, 0, none⟩) L cap) (bys o)) := ⟨by rw [hV4]; exact setRow_heap _ _ _ _ _ _ H3.out.1.2.1, by rw [hV4]; exact (setRow_far (by omega)).trans H3.out.1.2.2.1, by rw [hV4]; exact setRow_below H3.out.1.1 (Nat.le_refl _) _, by rw [hV4]; exact brow_rowfar H3.out.2 (by have := (brow_lt H3.out.2).1; omega) _⟩; clear hV4; obtain ⟨d0, d1, d2, g0, g1, g2⟩ := pool_cells H4.out.1; obtain ⟨z0, z1, z2, y0, y1, y2⟩ := pool_cells H4.out.2.1))
      have hgn : g ≠ w.heap.size := by have := (brow_lt H4.out.2.2.2).1; omega
      have hgn1 : g ≠ w.heap.size + 1 := by have := (brow_lt H4.out.2.2.2).1; omega
      have hcv1 := brow_take (n := n) (c := cap) (w := (V4.setCell ⟨w.heap.size, 2, none⟩ (.int .i64 (t + 1))).drew) (brow_below (brow_far H4.out.2.2.2 hgn (.int .i64 (t + 1))) (Below.drew (Below.refl _ _))) HSZ.out.2.2
      have hcv2 := brow_take (n := n) (c := cap) (w := ((((V4.setCell ⟨w.heap.size, 2, none⟩ (.int .i64 (t + 1))).setCell ⟨w.heap.size + 1, 0, none⟩ (.string K')).setCell ⟨w.heap.size + 1, 1, none⟩ (.string V')).setCell ⟨w.heap.size + 1, 2, none⟩ (.int .i64 (t + 1))).drew) (brow_below (brow_far (brow_far (brow_far (brow_far H4.out.2.2.2 hgn (.int .i64 (t + 1))) hgn1 (.string K')) hgn1 (.string V')) hgn1 (.int .i64 (t + 1))) (Below.drew (Below.refl _ _))) HSZ.out.2.2
      rw [str_bys] at hcv1 hcv2
      go_region
      go_wp2
      (try simp only [Exit.inBlock, Exit.then])
      refine bodyPost_ret (ret40t (x := .string K') (y := .string V') (z := .int .i64 (t + 1)) (s := o.extract 0 n) (c := true) rfl _ _ (blk_put (blk_put (blk_put (blk_far H4.out.2.1 (by show w.heap.size + 1 ≠ w.heap.size; omega) _) 0 _ rfl) 1 _ rfl) 2 _ rfl) rfl rfl rfl) rfl ⟨?_, ((((H4.out.2.2.1.setCell (Nat.le_refl _) _).setCell (show w.heap.size ≤ w.heap.size + 1 by omega) _).setCell (show w.heap.size ≤ w.heap.size + 1 by omega) _).setCell (show w.heap.size ≤ w.heap.size + 1 by omega) _).drew⟩
      rw [HE.out]
      simp only
      rw [HM.out]
    | succ kk =>
      have hlt : (L : Int) < (n : Int) := by omega
      have HM : Aside0 (∀ W : World, Calls Tryd.prog 24 #[.string k, .string vi] W fun e_ w' => e_ = .returned (.string (mac k vi)) ∧ Below W.heap.size W w') := ⟨fun W => specMac_calls k vi (by have := HN.out.1; omega) (by omega) W⟩
      have HI3 := Aside0.mk (And.intro hik (And.intro hL (And.intro hos hn2)))
      obtain ⟨c0, c1, c2, f0, f1, f2⟩ := pool_cells HY.out.1.2.1
      have hMs := mac_size k vi
      obtain ⟨M, hM⟩ : ∃ M, mac k vi = M := ⟨_, rfl⟩
      rw [hM] at HM hMs
      have HMe := Aside0.mk (And.intro hM hMs)
      clear hik hvs hos hL hn2 hM hMs
      go_wp2_with (first
        | (go_at_call 24; refine (HM.out _).mono ?_; rintro e_ w5 ⟨rfl, hb5⟩; have H5 := Aside0.mk (And.intro (heldQ_step HY.out.1 hb5) (brow_below HY.out.2 hb5)); clear hb5; obtain ⟨d0, d1, d2, g0, g1, g2⟩ := pool_cells H5.out.1.2.1)
        | ((with_reducible refine gate_dst (N := 37) rfl ?_); refine wpl_world (fun V hV => ?_); have HV2 : Aside0 (HeldQ w V k M t ∧ BRow (w.heap.size + 2) V (.slice (some ⟨g, 0, none⟩) L cap) (bys o)) := ⟨by rw [hV]; exact heldQ_val H5.out.1 HN.out.2.2.2 M, by rw [hV]; exact brow_far H5.out.2 (by have := (brow_lt H5.out.2).1; omega) _⟩; clear hV; refine wpList_bytes rfl (.tmp 36) rfl (base := V.heap.size) (s := M) (Nat.le_refl _) rfl ?_; intro v7 w7 hv7 hb7; have H7 := Aside0.mk hv7; have HY7 := Aside0.mk (And.intro (heldQ_step HV2.out.1 hb7) (brow_below HV2.out.2 hb7)); clear hv7 hb7; obtain ⟨g7, c7, hg7⟩ : ∃ g cap, v7 = .slice (some ⟨g, 0, none⟩) 32 cap := (by obtain ⟨g, cap, _, _, h, _⟩ := H7.out; rw [bys_len, HMe.out.2] at h; exact ⟨g, cap, h⟩); subst hg7)
        | ((with_reducible refine gate_dst (N := 38) rfl ?_); refine wpList_append_bytes rfl (.tmp 34) (.tmp 37) rfl (base := w.heap.size + 2) HY7.out.2 HY7.out.1.2.2.2.1 rfl rfl (by rw [bys_len, HMe.out.2]) (brow_src H7.out) (by rw [bys_len, bys_len, HMe.out.2, HI3.out.2.2.1]; have := HI3.out.1; have := HI3.out.2.1; have := HI3.out.2.2.2; omega) (by rw [bys_len, HMe.out.2]; decide) ?_; intro v8 w8 hv8 hb8; have H8 := Aside0.mk hv8; have HB8 := Aside0.mk (heldQ_below HY7.out.1 hb8 (Nat.le_refl _) HY7.out.1.2.2.2.1); clear hv8 hb8; obtain ⟨g8, c8, hg8⟩ := brow_form H8.out; subst hg8))
      go_roundg kk
      case measure => omega
      case rel =>
        obtain ⟨hik, hL, hos, hn2⟩ := HI3.out
        have hl : (bys o ++ bys M).length = 32 * (i + 1) := by rw [List.length_append, bys_len, bys_len, HMe.out.2, hos]; omega
        refine ⟨i + 1, g8, c8, M, o ++ M, by omega, by first | rw [hl] | (rw [List.length_append] at hl; rw [hl]), ⟨by show (mac k (tkTo k v i).1, (tkTo k v i).2 ++ mac k (tkTo k v i).1) = _; rw [HXi.out]; simp only; rw [HMe.out.1]⟩, ⟨HB8.out, ?_⟩⟩
        have := H8.out
        rw [hl, bys_app2] at this
        exact this
theorem poolTake_calls (k v : ByteArray) (t n : Int) (w : World) (htab : Tab w) : Calls Tryd.prog 34 #[.agg #[.string k, .string v, .int .i64 t], .int .i64 n] w fun e_ w' => e_ = .returned (.tuple #[.agg #[.string (takeP k v t n).1, .string (takeP k v t n).2.1, .int .i64 (takeP k v t n).2.2.1], .string (takeP k v t n).2.2.2.1, .bool (takeP k v t n).2.2.2.2]) ∧ Below w.heap.size w w' := by
  by_cases h : tOk k v t n = true
  · have e : takeP k v t n = ((mixP k (tkTo k v ((n.toNat + 31) / 32)).1 ⟨#[]⟩).1, (mixP k (tkTo k v ((n.toNat + 31) / 32)).1 ⟨#[]⟩).2, t + 1, (tkTo k v ((n.toNat + 31) / 32)).2.extract 0 n.toNat, true) := by unfold takeP; rw [if_pos h]
    rw [e]
    unfold tOk at h
    rw [Bool.and_eq_true, decide_eq_true_iff] at h
    obtain ⟨h1, h2, h3, h4⟩ := h
    obtain ⟨m, rfl⟩ := Int.eq_ofNat_of_zero_le h2
    exact poolTake_yes k v t m h1 (by omega) h4 w htab
  · have h' : tOk k v t n = false := Bool.eq_false_iff.2 h
    have e : takeP k v t n = (⟨#[]⟩, ⟨#[]⟩, 0, ⟨#[]⟩, false) := by unfold takeP; rw [if_neg h]
    rw [e]
    exact poolTake_no k v t n h' w htab
theorem specTake_calls (k v : ByteArray) (t n : Int) (w : World) : Calls Tryd.prog 32 #[.agg #[.string k, .string v, .int .i64 t], .int .i64 n] w fun e_ w' => e_ = .returned (.tuple #[.agg #[.string (takeP k v t n).1, .string (takeP k v t n).2.1, .int .i64 (takeP k v t n).2.2.1], .string (takeP k v t n).2.2.2.1, .bool (takeP k v t n).2.2.2.2]) ∧ Below w.heap.size w w' := by
  by_cases h : tOk k v t n = true
  · have e : takeP k v t n = ((mixP k (tkTo k v ((n.toNat + 31) / 32)).1 ⟨#[]⟩).1, (mixP k (tkTo k v ((n.toNat + 31) / 32)).1 ⟨#[]⟩).2, t + 1, (tkTo k v ((n.toNat + 31) / 32)).2.extract 0 n.toNat, true) := by unfold takeP; rw [if_pos h]
    rw [e]
    unfold tOk at h
    rw [Bool.and_eq_true, decide_eq_true_iff] at h
    obtain ⟨h1, h2, h3, h4⟩ := h
    obtain ⟨m, rfl⟩ := Int.eq_ofNat_of_zero_le h2
    exact specTake_yes k v t m h1 (by omega) h4 w
  · have h' : tOk k v t n = false := Bool.eq_false_iff.2 h
    have e : takeP k v t n = (⟨#[]⟩, ⟨#[]⟩, 0, ⟨#[]⟩, false) := by unfold takeP; rw [if_neg h]
    rw [e]
    exact specTake_no k v t n h' w
end Go.Proofs.YtlddohppkcndjaaDoor.Sha
