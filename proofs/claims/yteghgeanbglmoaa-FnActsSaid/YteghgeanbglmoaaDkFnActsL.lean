/- A disk copied; the power let go. No condition. -/
import Derived.Test.YteghgeanbglmoaaDkFnActsA
namespace Go.Proofs.Yteghgeanbglmoaa.PFnActs
open Go.RowKit Go.Proofs.YteghgeanbglmoaaW.PrintWords Go.Proofs.YteghgeanbglmoaaW.PrintLast Go.Proofs.YteghgeanbglmoaaW.PrintMore
attribute [local go_sem] max_two min_two
set_option linter.unusedVariables false
set_option linter.unusedSimpArgs false
theorem okD_len (l : List S67) (h : okD l = true) : l.length ≤ 30 := by
 unfold okD at h
 rw [Bool.and_eq_true] at h
 exact of_decide_eq_true h.1
theorem okD_at (l : List S67) (h : okD l = true) (i : Nat) (hi : i < l.length) : okAt l i = true := by
 unfold okD okTo at h
 rw [Bool.and_eq_true, List.all_eq_true] at h
 exact h.2 i (List.mem_range.2 hi)
theorem okD_get (l : List S67) (h : okD l = true) (i : Nat) (hi : i < l.length) : 0 ≤ (l.getD i z67).f2 ∧ (l.getD i z67).f2 ≤ ((l.getD i z67).f1.size : Int) ∧ (l.getD i z67).f1.size ≤ 20000 := by
 have := okD_at l h i hi
 unfold okAt okX at this
 simp only [Bool.and_eq_true, decide_eq_true_eq, Bool.not_eq_true', decide_eq_false_iff_not] at this
 omega
theorem dk_new2 (w : World) (a b : Obj) : ((w.alloc a).alloc b).heap[w.heap.size + 1]? = some b := by
 show ((w.heap.push a).push b)[w.heap.size + 1]? = _
 rw [Array.getElem?_push, if_pos (by simp)]
set_option maxHeartbeats 8000000 in
set_option maxRecDepth 100000 in
theorem copy_walk (A0_0 : Option Addr) (c0_0 : Nat) (l0_0 : List (S67)) (w : World) (hr0_0 : Kd.C k67 w A0_0 l0_0.length l0_0) (hc0_0 : l0_0.length ≤ c0_0) (hb40 : l0_0.length * 40 ≤ 140737488355328) :
  Calls Try.prog 57 #[.agg #[.slice A0_0 l0_0.length c0_0]] w fun e w' => ∃ v0_ : Value, e = .returned (.agg #[v0_]) ∧ Kd.R k67 67 w' w.heap.size (fun _ => True) v0_ l0_0 ∧ Below w.heap.size w w' := by
 have HR0 := Aside0.mk hr0_0
 have HC0 := Aside0.mk hc0_0
 have H40 := Aside0.mk hb40
 clear hr0_0 hc0_0 hb40
 have HB := Aside0.mk (Below.refl w.heap.size w)
 go_enter Try.func57, Try.ntmps57
 obtain ⟨W0, hW0⟩ : ∃ W0, (w.alloc (.cells #[.slice A0_0 l0_0.length c0_0] 29)).alloc (.cells #[.slice none 0 0] 29) = W0 := ⟨_, rfl⟩
 have hBW : Below w.heap.size w W0 := by rw [← hW0]; exact below_alloc (below_alloc HB.out _) _
 have hCW : Kd.C k67 W0 A0_0 l0_0.length l0_0 := by rw [← hW0]; exact Kd.C_alloc (Kd.C_alloc HR0.out _) _
 have hsz : W0.heap.size = w.heap.size + 2 := by rw [← hW0, dk_sz, dk_sz]
 have hbk : W0.heap[w.heap.size + 1]? = some (.cells #[.slice none 0 0] 29 (0, 0)) := by rw [← hW0]; exact dk_new2 w _ _
 have HW := Aside0.mk (And.intro hBW (And.intro hCW (And.intro hsz hbk)))
 have HW0 := Aside0.mk hW0
 clear hBW hCW hsz hbk hW0
 go_wp2_with (first | ((with_reducible refine gate_dst (N := 5) rfl ?_); rw [HW0.out]; refine dk_stop ?_))
 refine dk_go ?_
 refine Kd.R_append_rows k67 (Rr := k67.K W0) (w0 := w) w.heap.size rfl (.const (.slice none 0 0)) (.tmp 4) 27 67 (.agg #[.string ⟨#[]⟩, .string ⟨#[]⟩, .int .i64 0]) 40 rfl Try.underlying27 (by kernel_rfl) rfl (by decide) (by decide) (.slice none 0 0) [] l0_0 A0_0 l0_0.length c0_0 (fun _ => True) (fun _ => True) rfl rfl (Kd.R_nil k67 67 W0 w.heap.size _) HW.out.2.1 (fun x cs hk => by rw [k67_open hk]; exact k67_mkM _ _ _ x) (fun k _ => ⟨trivial, by simp [Value.ownBlock]⟩) (fun _ _ => trivial) HW.out.1 (by rw [HW.out.2.2.1]; omega) (by rw [List.length_nil, Nat.zero_add]; exact H40.out) ?_
 intro v1 w1 ho hb hg hat
 rw [List.nil_append] at ho
 obtain ⟨A1, c1, rfl, _, _⟩ := Kd.R_reads ho
 have hb1 : w1.heap[w.heap.size + 1]? = some (.cells #[.slice none 0 0] 29 (0, 0)) := (hg.block _ (by rw [HW.out.2.2.1]; omega) (by simp [Value.ownBlock])).trans HW.out.2.2.2
 have hlt : w.heap.size + 1 < w1.heap.size := by
  have := hg.size
  rw [HW.out.2.2.1] at this
  omega
 have HO := Aside0.mk ho
 have HB1 := Aside0.mk hb
 have HBK := Aside0.mk hb1
 have hc1 : w1.cell? ⟨w.heap.size + 1, 0, none⟩ = some (.slice none 0 0) := blk_cell hb1 0
 have hf1 := blk_frozen hb1 0
 clear ho hb hg hat hb1
 go_wp2
 refine bodyPost_ret (results_cell_row rfl _ _ (w.heap.size + 1) 29 #[.slice A1 l0_0.length c1] (0, 0) _ rfl (blk_put (cs := #[.slice none 0 0]) HBK.out 0 _ rfl) Try.underlying29 rfl (by kernel_rfl)) rfl ?_
 exact ⟨_, rfl, Kd.R_set HO.out HBK.out (by decide) 0 _, below_set HB1.out (by omega)⟩

def lsN (l1 : List Int) (i : Nat) (x : S67) : Int := mx (if i < l1.length then mx 0 (mn (l1.getD i 0) x.f1.size) else 0) x.f2
def ls1 (l1 : List Int) (i : Nat) (x : S67) : S67 := ⟨x.f0, x.f1.extract 0 (lsN l1 i x).toNat, lsN l1 i x⟩
def lsTo (l1 : List Int) (xs : List S67) : Nat → List S67
 | 0 => xs
 | i + 1 => (lsTo l1 xs i).set i (ls1 l1 i (xs.getD i z67))
theorem lsTo_len (l1 : List Int) (xs : List S67) : ∀ i, (lsTo l1 xs i).length = xs.length
 | 0 => rfl
 | i + 1 => by show ((lsTo l1 xs i).set i _).length = _; rw [List.length_set, lsTo_len l1 xs i]
theorem lsTo_get (l1 : List Int) (xs : List S67) : ∀ (i j : Nat), i ≤ j → (lsTo l1 xs i).getD j z67 = xs.getD j z67
 | 0, j, _ => rfl
 | i + 1, j, h => by
  show ((lsTo l1 xs i).set i _).getD j z67 = _
  rw [List.getD_eq_getElem?_getD, List.getElem?_set_ne (by omega), ← List.getD_eq_getElem?_getD]
  exact lsTo_get l1 xs i j (by omega)
theorem max2_mx (k k' : IntKind) (x y : Int) : Builtin.max2 (.int k x) (.int k' y) = pure (.int k (mx x y)) := by
 rw [max2_int]
 unfold mx
 rfl
theorem min2_mn (k k' : IntKind) (x y : Int) : Builtin.min2 (.int k x) (.int k' y) = pure (.int k (mn x y)) := by
 rw [min2_int]
 unfold mn
 rfl
attribute [local go_sem] max2_mx min2_mn
theorem row_at {W : World} {base g n cap : Nat} {ok : Nat → Prop} {xs : List S67} (h : Kd.R k67 67 W base ok (.slice (some ⟨g, 0, none⟩) n cap) xs) (i : Nat) (hi : i < n) :
  (W.cell? ⟨g, i * 3, none⟩ = some (.string (xs.getD i z67).f0) ∧ W.cell? ⟨g, i * 3 + 1, none⟩ = some (.string (xs.getD i z67).f1) ∧ W.cell? ⟨g, i * 3 + 2, none⟩ = some (.int .i64 (xs.getD i z67).f2)) ∧ ∀ j, W.frozen? ⟨g, i * 3 + j, none⟩ = false := by
 obtain ⟨c, hcl, hM, hcc, hfr⟩ := Kd.R_elem h z67 (i : Int) (by omega) (by omega)
 obtain rfl := k67_openM hM
 exact ⟨⟨hcc 0 _ rfl, hcc 1 _ rfl, hcc 2 _ rfl⟩, hfr⟩
theorem row_put {W : World} {base g n cap : Nat} {ok : Nat → Prop} {xs : List S67} (h : Kd.R k67 67 W base ok (.slice (some ⟨g, 0, none⟩) n cap) xs) (i : Nat) (hi : i < n) (t : ByteArray) (m : Int) :
  Kd.R k67 67 ((W.setCell ⟨g, i * 3 + 1, none⟩ (.string t)).setCell ⟨g, i * 3 + 2, none⟩ (.int .i64 m)) base ok (.slice (some ⟨g, 0, none⟩) n cap) (xs.set i ⟨(xs.getD i z67).f0, t, m⟩) := by
 obtain ⟨c, hcl, hM, hcc, hfr⟩ := Kd.R_elem h z67 (i : Int) (by omega) (by omega)
 obtain rfl := k67_openM hM
 exact (Kd.R_seg h (i : Int) (by omega) (by omega) (seg := [.string t, .int .i64 m]) (j := 1) hcl hcc (show 3 ≤ 3 from Nat.le_refl _) (x' := (⟨(xs.getD i z67).f0, t, m⟩ : S67)) (k67_mkM _ _ _ (⟨(xs.getD i z67).f0, t, m⟩ : S67)) (fun _ hk => hk)).1
def lsSt (w : World) (B b6 : Nat) (A3 : Option Addr) (n c3 : Nat) (xs : List S67) (W : World) : Prop := k67.R 67 W B (fun _ => True) (.slice A3 n c3) xs ∧ W.heap[b6]? = some (.cells #[.slice A3 n c3] 29 (0, 0)) ∧ W.heap[w.heap.size + 1]? = some (.cells #[.slice none 0 0] 29 (0, 0)) ∧ Below w.heap.size w W
theorem results_cell_tmp {fn : Func} {p u : Tmp} {ty : TypeId} (h : fn.results = #[.cell p ty, .tmp u]) (tmps : Array Value) (P : Program) (w : World) :
  (results fn tmps).run P w =
   ((asAddr (tmps.getD p undef)).run P w).andThen fun a w₁ => ((loadVar ty a).run P w₁).andThen fun v w₂ => .ok (.tuple #[v, tmps.getD u undef]) w₂ := by
 simp only [results, h]
 simp [Sem.run_bind, Result.andThen]
theorem ret29 {fn : Func} {p u : Tmp} (h : fn.results = #[.cell p 29, .tmp u]) (tmps : Array Value) (w : World) {b : Nat} {t : TypeId} {x y : Value} (hb : w.heap[b]? = some (.cells #[x] t (0, 0))) (hp : tmps.getD p undef = .pointer (some ⟨b, 0, none⟩)) (hu : tmps.getD u undef = y) : (results fn tmps).run Try.prog w = .ok (.tuple #[.agg #[x], y]) w := by
 rw [results_cell_tmp h, hp, hu]
 simp [asAddr, Result.andThen, run_loadVar_row w b t 29 #[x] (0, 0) _ hb Try.underlying29 rfl (by rw [size29]; rfl)]
set_option maxHeartbeats 8000000 in
set_option maxRecDepth 100000 in
theorem lose_yes (A0_0 : Option Addr) (c0_0 : Nat) (l0_0 : List (S67)) (A1 : Option Addr) (c1 : Nat) (l1 : List Int) (w : World) (hr0_0 : Kd.C k67 w A0_0 l0_0.length l0_0) (hc0_0 : l0_0.length ≤ c0_0) (hr1 : Kd.C (Kd.int .i64) w A1 l1.length l1) (hc1 : l1.length ≤ c1) (hl : l0_0.length ≤ 1000000000) (h : okD l0_0 = true) :
  Calls Try.prog 35 #[.agg #[.slice A0_0 l0_0.length c0_0], .slice A1 l1.length c1] w fun e w' => ∃ v0_ : Value, e = .returned (.tuple #[.agg #[v0_], .bool true]) ∧ Kd.R k67 67 w' w.heap.size (fun _ => True) v0_ (lsTo l1 l0_0 l0_0.length) ∧ Below w.heap.size w w' := by
 have HR0 := Aside0.mk hr0_0
 have HC0 := Aside0.mk hc0_0
 have HR1 := Aside0.mk hr1
 have HC1 := Aside0.mk hc1
 have A2 := Aside0.mk h
 have HX := Aside0.mk (okD_get l0_0 h)
 have HL := Aside0.mk hl
 clear hr0_0 hc0_0 hr1 hc1 h hl
 have HB := Aside0.mk (Below.refl w.heap.size w)
 have b0 : ∀ W, Below (w.heap.size + 2) ((w.alloc (.cells #[.slice A0_0 l0_0.length c0_0] 29)).alloc (.cells #[.slice none 0 0] 29)) W → Below w.heap.size w W ∧ W.heap[w.heap.size]? = some (.cells #[.slice A0_0 l0_0.length c0_0] 29 (0, 0)) ∧ W.heap[w.heap.size + 1]? = some (.cells #[.slice none 0 0] 29 (0, 0)) ∧ w.heap.size + 2 ≤ W.heap.size := fun W h =>
  ⟨((HB.out.alloc (Nat.le_refl _) _).alloc (by rw [dk_sz]; omega) _).trans (h.mono (by omega)), (h.block _ (by omega)).trans (blk_alloc (blk_new _ _) _), (h.block _ (by omega)).trans (heap_alloc2_new w _ _), by have := h.size; rw [dk_sz, dk_sz] at this; exact this⟩
 have HB0 := Aside0.mk b0
 clear b0
 go_enter Try.func35, Try.ntmps35
 go_wp2_with (first | ((with_reducible refine gate_dst (N := 10) rfl ?_); refine ld29 (blk_alloc (blk_new _ _) _) (.tmp 2) rfl rfl rfl ?_) | (go_at_call 15; refine (impl_ok_walk _ _ l0_0 _ ?side1 ?side2 ?side3).mono ?_; (case side1 => exact Kd.C_alloc (Kd.C_alloc HR0.out _) _); (case side2 => exact HC0.out); (case side3 => have := HL.out; omega); rw [A2.out]; rintro e_ w1 ⟨rfl, hb1⟩; have HQ := Aside0.mk (HB0.out w1 (by rw [dk_sz, dk_sz] at hb1; exact hb1)); clear hb1) | ((with_reducible refine gate_dst (N := 14) rfl ?_); refine ld29 HQ.out.2.1 (.tmp 2) rfl rfl rfl ?_) | (go_at_call 57; refine (copy_walk _ _ l0_0 _ ?side1 ?side2 ?side3).mono ?_; (case side1 => exact Kd.C_below HR0.out HQ.out.1); (case side2 => exact HC0.out); (case side3 => have := HL.out; omega); rintro e_ w2 ⟨v2, rfl, ho2, hb2⟩; have HV := Aside0.mk (And.intro (HQ.out.1.trans (hb2.mono HQ.out.1.size)) (And.intro ((hb2.block _ (by have := HQ.out.2.2.2; omega)).trans HQ.out.2.2.1) (by have := HQ.out.2.2.2; have := hb2.size; omega : w.heap.size + 2 ≤ w2.heap.size))); have HO := Aside0.mk ho2; have HG := Aside0.mk HQ.out.2.2.2; (obtain ⟨A3, c3, hv2⟩ := Kd.R_slice ho2); subst hv2; clear ho2 hb2 HQ HB0) | ((with_reducible refine gate_dst (N := 16) rfl ?_); refine dk_stop ?_))
 refine dk_go ?_
 obtain ⟨W3, hW3⟩ : ∃ W3, w2.alloc (.cells #[.slice A3 l0_0.length c3] 29) = W3 := ⟨_, rfl⟩
 have hS : lsSt w w1.heap.size w2.heap.size A3 l0_0.length c3 (lsTo l1 l0_0 0) W3 := by
  rw [← hW3]
  exact ⟨Kd.R_alloc HO.out _, blk_new _ _, blk_alloc HV.out.2.1 _, below_alloc HV.out.1 _⟩
 have hc6 := blk_cell hS.2.1 0
 rw [hW3]
 have HS := Aside0.mk hS
 clear hW3 hS HV HO
 go_wp2
 clear hc6
 go_loopg [19] l0_0.length (fun g v19 w' => ∃ i : Nat, i + g = l0_0.length ∧ v19 = .int .i64 (i : Int) ∧ Aside0 (lsSt w w1.heap.size w2.heap.size A3 l0_0.length c3 (lsTo l1 l0_0 i) w'))
 case atStart => exact ⟨0, by omega, rfl, HS⟩
 case round =>
  clear HS
  rename_i w' _
  obtain ⟨i, hi, rfl, HS⟩ := hrel
  cases gk with
  | zero =>
   have hii : i = l0_0.length := by omega
   subst hii
   have hlt2 : decide ((l0_0.length : Int) < (l0_0.length : Int)) = false := decide_eq_false (by omega)
   have hlt : ¬ ((l0_0.length : Int) < (l0_0.length : Int)) := by omega
   clear hi
   have hcr := blk_cell HS.out.2.2.1 0
   have hfr := blk_frozen HS.out.2.2.1 0
   go_wp2_with (first | ((with_reducible refine gate_dst (N := 61) rfl ?_); refine ld29 HS.out.2.1 (.tmp 6) rfl rfl rfl ?_))
   (try simp only [Exit.inBlock, Exit.then])
   have hG := HG.out
   exact bodyPost_ret (ret29 (x := .slice A3 l0_0.length c3) (y := .bool true) rfl _ _ (blk_put HS.out.2.2.1 0 _ rfl) rfl rfl) rfl ⟨_, rfl, Kd.R_lower (Kd.R_set HS.out.1 HS.out.2.2.1 (by decide) 0 _) (by omega), below_set HS.out.2.2.2 (by omega)⟩
  | succ kk =>
   have hlt : (i : Int) < (l0_0.length : Int) := by omega
   have hlt2 : decide ((i : Int) < (l0_0.length : Int)) = true := decide_eq_true hlt
   have hi0 : (0 : Int) ≤ (i : Int) := Int.natCast_nonneg i
   have hin : i < l0_0.length := by omega
   have hgt : (lsTo l1 l0_0 i).getD i z67 = l0_0.getD i z67 := lsTo_get l1 l0_0 i i (Nat.le_refl _)
   have hxx := HX.out i hin
   obtain ⟨g, cap, he, hgb, hgl, hgc⟩ := Kd.R_form HS.out.1 (by rw [lsTo_len]; omega)
   injection he with e1 e2 e3
   subst e1
   subst e3
   obtain ⟨⟨hx0, hx1, hx2⟩, hfr⟩ := row_at HS.out.1 i hin
   rw [hgt] at hx0 hx1 hx2
   have hput := fun t m => row_put HS.out.1 i hin t m
   rw [hgt] at hput
   have hls : lsTo l1 l0_0 (i + 1) = (lsTo l1 l0_0 i).set i (ls1 l1 i (l0_0.getD i z67)) := rfl
   generalize l0_0.getD i z67 = x at *
   obtain ⟨fn, ft, fk⟩ := x
   simp only at hx0 hx1 hx2 hput hxx
   have hf1 := hfr 1
   have hf2 := hfr 2
   have hwi : wrap64 ((i : Int) + 1) = ((i + 1 : Nat) : Int) := by have := HL.out; unfold wrap64; omega
   have hc6 := blk_cell HS.out.2.1 0
   have hp0 := eq_true hi0
   have hq0 := eq_true hlt
   have HX1 := Aside0.mk hxx
   have HP := Aside0.mk hput
   have HLS := Aside0.mk hls
   have HI := Aside0.mk hi
   have HGC := Aside0.mk hgc
   clear e2 hgt hxx hput hls hi hgb hgl hgc hfr
   by_cases hl : (i : Int) < (l1.length : Int)
   ·have hl2 : decide ((i : Int) < (l1.length : Int)) = true := decide_eq_true hl
    obtain ⟨ad, ea, hxl⟩ := Kd.at_int (Kd.C_below HR1.out HS.out.2.2.2) (i : Int) hi0 hl
    subst ea
    have hrd : rd l1 (i : Int) = l1.getD i 0 := rfl
    rw [hrd, Int.toNat_natCast] at hxl
    have hNN : lsN l1 i ⟨fn, ft, fk⟩ = mx (mx 0 (mn (l1.getD i 0) ft.size)) fk := by
     unfold lsN
     rw [if_pos (by omega)]
    generalize l1.getD i 0 = q at hxl hNN
    obtain ⟨n, hn, hnf⟩ : ∃ n : Nat, mx (mx 0 (mn q ft.size)) fk = (n : Int) ∧ n ≤ ft.size := ⟨(mx (mx 0 (mn q ft.size)) fk).toNat, by have := HX1.out; unfold mx mn; omega, by have := HX1.out; unfold mx mn; omega⟩
    rw [hn] at hNN
    have hl1 : ls1 l1 i ⟨fn, ft, fk⟩ = ⟨fn, ft.extract 0 n, (n : Int)⟩ := by unfold ls1; rw [hNN]; rfl
    have HLS1 := HLS.out
    rw [hl1] at HLS1
    clear HLS
    have HLS := Aside0.mk HLS1
    have HWI := Aside0.mk hwi
    have hn0 : (0 : Int) ≤ (n : Int) := Int.natCast_nonneg n
    have hnf2 : (n : Int) ≤ (ft.size : Int) := Int.ofNat_le.2 hnf
    clear HLS1 hl1 hNN hrd
    go_wp2
    repeat (go_quiet (fail); try go_wp2)
    all_goals
     go_roundg kk
     case measure => have := HI.out; omega
     case rel =>
      have hG := HG.out
      have hne : g ≠ w2.heap.size := by
       obtain ⟨cells, hc⟩ := HGC.out
       exact blk_ne hc HS.out.2.1 (by decide)
      have hne2 : g ≠ w.heap.size + 1 := by
       obtain ⟨cells, hc⟩ := HGC.out
       exact blk_ne hc HS.out.2.2.1 (by decide)
      have hgw : w.heap.size ≤ g := by have := Kd.R_base HS.out.1 g rfl; omega
      refine ⟨i + 1, by have := HI.out; omega, by first | rfl | (rw [HWI.out]), ⟨?_, ?_, ?_, ?_⟩⟩
      ·rw [HLS.out]
       have hp := HP.out (ft.extract 0 n) (n : Int)
       first | exact hp | exact Kd.R_drewN hp _
      ·exact blk_far (blk_far HS.out.2.1 (by show w2.heap.size ≠ g; omega) _) (by show w2.heap.size ≠ g; omega) _
      ·exact blk_far (blk_far HS.out.2.2.1 (by show w.heap.size + 1 ≠ g; omega) _) (by show w.heap.size + 1 ≠ g; omega) _
      ·first | exact below_set (below_set HS.out.2.2.2 hgw) hgw | exact below_set (below_set (pw_below_drewN HS.out.2.2.2 _) hgw) hgw
   ·have hl2 : decide ((i : Int) < (l1.length : Int)) = false := decide_eq_false hl
    have hNN : lsN l1 i ⟨fn, ft, fk⟩ = mx 0 fk := by
     unfold lsN
     rw [if_neg (by omega)]
    obtain ⟨n, hn, hnf⟩ : ∃ n : Nat, mx 0 fk = (n : Int) ∧ n ≤ ft.size := ⟨(mx 0 fk).toNat, by have := HX1.out; unfold mx; omega, by have := HX1.out; unfold mx; omega⟩
    rw [hn] at hNN
    have hl1 : ls1 l1 i ⟨fn, ft, fk⟩ = ⟨fn, ft.extract 0 n, (n : Int)⟩ := by unfold ls1; rw [hNN]; rfl
    have HLS1 := HLS.out
    rw [hl1] at HLS1
    clear HLS
    have HLS := Aside0.mk HLS1
    have HWI := Aside0.mk hwi
    have hn0 : (0 : Int) ≤ (n : Int) := Int.natCast_nonneg n
    have hnf2 : (n : Int) ≤ (ft.size : Int) := Int.ofNat_le.2 hnf
    clear HLS1 hl1 hNN
    go_wp2
    repeat (go_quiet (fail); try go_wp2)
    all_goals
     go_roundg kk
     case measure => have := HI.out; omega
     case rel =>
      have hG := HG.out
      have hne : g ≠ w2.heap.size := by
       obtain ⟨cells, hc⟩ := HGC.out
       exact blk_ne hc HS.out.2.1 (by decide)
      have hne2 : g ≠ w.heap.size + 1 := by
       obtain ⟨cells, hc⟩ := HGC.out
       exact blk_ne hc HS.out.2.2.1 (by decide)
      have hgw : w.heap.size ≤ g := by have := Kd.R_base HS.out.1 g rfl; omega
      refine ⟨i + 1, by have := HI.out; omega, by first | rfl | (rw [HWI.out]), ⟨?_, ?_, ?_, ?_⟩⟩
      ·rw [HLS.out]
       have hp := HP.out (ft.extract 0 n) (n : Int)
       first | exact hp | exact Kd.R_drewN hp _
      ·exact blk_far (blk_far HS.out.2.1 (by show w2.heap.size ≠ g; omega) _) (by show w2.heap.size ≠ g; omega) _
      ·exact blk_far (blk_far HS.out.2.2.1 (by show w.heap.size + 1 ≠ g; omega) _) (by show w.heap.size + 1 ≠ g; omega) _
      ·first | exact below_set (below_set HS.out.2.2.2 hgw) hgw | exact below_set (below_set (pw_below_drewN HS.out.2.2.2 _) hgw) hgw
set_option maxHeartbeats 8000000 in
set_option maxRecDepth 100000 in
theorem lose_no (A0_0 : Option Addr) (c0_0 : Nat) (l0_0 : List (S67)) (A1 : Option Addr) (c1 : Nat) (l1 : List Int) (w : World) (hr0_0 : Kd.C k67 w A0_0 l0_0.length l0_0) (hc0_0 : l0_0.length ≤ c0_0) (hl : l0_0.length ≤ 1000000000) (h : okD l0_0 = false) :
  Calls Try.prog 35 #[.agg #[.slice A0_0 l0_0.length c0_0], .slice A1 l1.length c1] w fun e w' => ∃ v0_ : Value, e = .returned (.tuple #[.agg #[v0_], .bool false]) ∧ Kd.R k67 67 w' w.heap.size (fun _ => True) v0_ [] ∧ Below w.heap.size w w' := by
 have HR0 := Aside0.mk hr0_0
 have HC0 := Aside0.mk hc0_0
 have A2 := Aside0.mk h
 have HL := Aside0.mk hl
 clear hr0_0 hc0_0 h hl
 have HB := Aside0.mk (Below.refl w.heap.size w)
 have b0 : ∀ W, Below (w.heap.size + 2) ((w.alloc (.cells #[.slice A0_0 l0_0.length c0_0] 29)).alloc (.cells #[.slice none 0 0] 29)) W → Below w.heap.size w W ∧ W.heap[w.heap.size]? = some (.cells #[.slice A0_0 l0_0.length c0_0] 29 (0, 0)) ∧ W.heap[w.heap.size + 1]? = some (.cells #[.slice none 0 0] 29 (0, 0)) ∧ w.heap.size + 2 ≤ W.heap.size := fun W h =>
  ⟨((HB.out.alloc (Nat.le_refl _) _).alloc (by rw [dk_sz]; omega) _).trans (h.mono (by omega)), (h.block _ (by omega)).trans (blk_alloc (blk_new _ _) _), (h.block _ (by omega)).trans (heap_alloc2_new w _ _), by have := h.size; rw [dk_sz, dk_sz] at this; exact this⟩
 have HB0 := Aside0.mk b0
 clear b0
 go_enter Try.func35, Try.ntmps35
 go_wp2_with (first | ((with_reducible refine gate_dst (N := 10) rfl ?_); refine ld29 (blk_alloc (blk_new _ _) _) (.tmp 2) rfl rfl rfl ?_) | (go_at_call 15; refine (impl_ok_walk _ _ l0_0 _ ?side1 ?side2 ?side3).mono ?_; (case side1 => exact Kd.C_alloc (Kd.C_alloc HR0.out _) _); (case side2 => exact HC0.out); (case side3 => have := HL.out; omega); rw [A2.out]; rintro e_ w1 ⟨rfl, hb1⟩; have HQ := Aside0.mk (HB0.out w1 (by rw [dk_sz, dk_sz] at hb1; exact hb1)); have hcr := blk_cell HQ.out.2.2.1 0; have hfr := blk_frozen HQ.out.2.2.1 0; clear hb1))
 (try simp only [Exit.inBlock, Exit.then])
 exact bodyPost_ret (ret29 (x := .slice none 0 0) (y := .bool false) rfl _ _ (blk_put HQ.out.2.2.1 0 _ rfl) rfl rfl) rfl ⟨_, rfl, Kd.R_nil _ _ _ _ _, below_set HQ.out.1 (by omega)⟩
/-- What is left of a disk. -/
def loseD (xs : List S67) (l1 : List Int) : List S67 := lsTo l1 xs xs.length
theorem ilose_walk (A0_0 : Option Addr) (c0_0 : Nat) (l0_0 : List (S67)) (A1 : Option Addr) (c1 : Nat) (l1 : List Int) (w : World) (hr0_0 : Kd.C k67 w A0_0 l0_0.length l0_0) (hc0_0 : l0_0.length ≤ c0_0) (hr1 : Kd.C (Kd.int .i64) w A1 l1.length l1) (hc1 : l1.length ≤ c1) (hl : l0_0.length ≤ 1000000000) :
  Calls Try.prog 35 #[.agg #[.slice A0_0 l0_0.length c0_0], .slice A1 l1.length c1] w fun e w' => ∃ v0_ : Value, e = .returned (.tuple #[.agg #[v0_], .bool (okD l0_0)]) ∧ Kd.R k67 67 w' w.heap.size (fun _ => True) v0_ (if okD l0_0 = true then loseD l0_0 l1 else []) ∧ Below w.heap.size w w' := by
 cases h : okD l0_0 with
 | true => exact lose_yes A0_0 c0_0 l0_0 A1 c1 l1 w hr0_0 hc0_0 hr1 hc1 hl h
 | false => exact lose_no A0_0 c0_0 l0_0 A1 c1 l1 w hr0_0 hc0_0 hl h
theorem acQ2 {p0 q : Prop} (h : p0 ∧ Aside0 q) : q := h.2.out
end Go.Proofs.Yteghgeanbglmoaa.PFnActs
