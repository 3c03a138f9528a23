/- A disk without a name. No condition. -/
import Derived.Test.YteghgeanbglmoaaDkFnActsA
import Derived.Deep.RegionLaw
namespace Go.Proofs.Yteghgeanbglmoaa.PFnActs
open Go.RowKit Go.Proofs.YteghgeanbglmoaaW.PrintWords Go.Proofs.YteghgeanbglmoaaW.PrintLast Go.Proofs.YteghgeanbglmoaaW.PrintMore
attribute [local go_sem] max_two min_two
set_option linter.unusedVariables false
set_option linter.unusedSimpArgs false
/-- The files of another name. -/
def withoutD (l : List S67) (s : ByteArray) : List S67 := l.filter (fun x => !(x.f0.toList == s.toList))
theorem dk_take (l : List S67) (p : S67 → Bool) (i : Nat) (hi : i < l.length) : (l.take (i + 1)).filter p = (l.take i).filter p ++ (if p (l.getD i z67) = true then [l.getD i z67] else []) := by
 rw [List.take_succ_eq_append_getElem hi, List.filter_append, List.getD_eq_getElem?_getD, List.getElem?_eq_getElem hi, Option.getD_some, List.filter_cons, List.filter_nil]
/-- A walk that makes a row: the boxes of the parameter, of the result and of what is made. -/
def mkSt (w : World) (ok : Nat → Prop) (g2 g4 g5 : Nat) (A : Option Addr) (n c : Nat) (xs : List S67) (v : Value) (out : List S67) (W : World) : Prop := dkSt w g2 A n c xs W ∧ W.heap[g5]? = some (.cells #[v] 29 (0, 0)) ∧ k67.R 67 W w.heap.size ok v out ∧ W.heap[g4]? = some (.cells #[.slice none 0 0] 29 (0, 0))
theorem mkSt_store {w : World} {g2 g4 g5 : Nat} {A : Option Addr} {n c : Nat} {xs : List S67} {v v1 : Value} {out out1 : List S67} {ok : Nat → Prop} {W W1 : World} (h : mkSt w ok g2 g4 g5 A n c xs v out W) (hg : W.grownBy W1 v.ownBlock) (hb : Below w.heap.size w W1) (hC : Kd.C k67 w A n xs) (ho : k67.R 67 W1 w.heap.size ok v1 out1) (h2 : g2 ≠ g5) (h4 : g4 ≠ g5) (h5 : w.heap.size ≤ g5) : mkSt w ok g2 g4 g5 A n c xs v1 out1 (W1.setCell ⟨g5, 0, none⟩ v1) := by
 have n2 := blk_grown h.1.1 hg (Kd.R_ne h.2.2.1 h.1.1 (by decide))
 have n5 := blk_grown h.2.1 hg (Kd.R_ne h.2.2.1 h.2.1 (by decide))
 have n4 := blk_grown h.2.2.2 hg (Kd.R_ne h.2.2.1 h.2.2.2 (by decide))
 exact ⟨⟨blk_far n2 h2 _, Kd.C_below hC (below_set hb h5), below_set hb h5⟩, blk_put n5 0 _ rfl, Kd.R_set ho n5 (by decide) 0 _, blk_far n4 h4 _⟩
theorem ret29a {fn : Func} {p : Tmp} (h : fn.results = #[.cell p 29]) (tmps : Array Value) (w : World) {b : Nat} {t : TypeId} {x : Value} (hb : w.heap[b]? = some (.cells #[x] t (0, 0))) (hp : tmps.getD p undef = .pointer (some ⟨b, 0, none⟩)) : (results fn tmps).run Try.prog w = .ok (.agg #[x]) w :=
 results_cell_row h tmps w b t _ _ _ hp hb Try.underlying29 rfl (by rw [size29]; rfl)
theorem dkSt_cells {w W : World} {g n c : Nat} {ad : Addr} {xs : List S67} (h : dkSt w g (some ad) n c xs W) (i : Nat) (hi : i < n) {fn ft : ByteArray} {fk : Int} (hx : xs.getD i z67 = ⟨fn, ft, fk⟩) : W.cell? ⟨g, 0, none⟩ = some (.slice (some ad) n c) ∧ W.cell? (ad.add (i * 3)) = some (.string fn) ∧ W.cell? ⟨(ad.add (i * 3)).block, (ad.add (i * 3)).off + 1, none⟩ = some (.string ft) ∧ W.cell? ⟨(ad.add (i * 3)).block, (ad.add (i * 3)).off + 2, none⟩ = some (.int .i64 fk) := by
 obtain ⟨_, e, h0, h1, h2⟩ := dk_row h.2.1 i hi
 cases e
 rw [hx] at h0 h1 h2
 exact ⟨(blk_cell h.1 0).trans rfl, h0, h1, h2⟩
theorem mkSt_drew {w : World} {g2 g4 g5 : Nat} {A : Option Addr} {n c : Nat} {xs : List S67} {v : Value} {out : List S67} {ok : Nat → Prop} {W : World} (h : mkSt w ok g2 g4 g5 A n c xs v out W) : mkSt w ok g2 g4 g5 A n c xs v out W.drew := ⟨⟨blk_drew h.1.1, Kd.C_drew h.1.2.1, below_drew1 h.1.2.2⟩, blk_drew h.2.1, Kd.R_drew h.2.2.1, blk_drew h.2.2.2⟩
theorem mkSt_grown {w : World} {g2 g4 g5 : Nat} {ad : Addr} {n c : Nat} {xs : List S67} {v : Value} {out : List S67} {ok : Nat → Prop} {W W1 : World} (h : mkSt w ok g2 g4 g5 (some ad) n c xs v out W) (hg : W.grownBy W1 v.ownBlock) (hb : Below w.heap.size w W1) (hC : Kd.C k67 w (some ad) n xs) : W1.cell? ⟨g2, 0, none⟩ = some (.slice (some ad) n c) ∧ W1.cell? ⟨g5, 0, none⟩ = some v ∧ W1.frozen? ⟨g5, 0, none⟩ = false ∧ Kd.C k67 W1 (some ad) n xs := by
 have n2 := blk_grown h.1.1 hg (Kd.R_ne h.2.2.1 h.1.1 (by decide))
 have n5 := blk_grown h.2.1 hg (Kd.R_ne h.2.2.1 h.2.1 (by decide))
 exact ⟨(blk_cell n2 0).trans rfl, (blk_cell n5 0).trans rfl, blk_frozen n5 0, Kd.C_below hC hb⟩
set_option maxHeartbeats 8000000 in
set_option maxRecDepth 100000 in
theorem without_walk (A : Option Addr) (c : Nat) (l : List S67) (s : ByteArray) (w : World) (hr : Kd.C k67 w A l.length l) (hc : l.length ≤ c) (hl : l.length ≤ 3518437208882) :
  Calls Try.prog 56 #[.agg #[.slice A l.length c], .string s] w fun e w' => ∃ v : Value, e = .returned (.agg #[v]) ∧ Kd.R k67 67 w' w.heap.size (fun _ => True) v (withoutD l s) ∧ Below w.heap.size w w' := by
 have HL := Aside0.mk hl
 have HC := Aside0.mk hr
 have hS : mkSt w (fun _ => True) w.heap.size (w.heap.size + 1) (w.heap.size + 1 + 1) A l.length c l (.slice none 0 0) ((l.take 0).filter (fun x => !(x.f0.toList == s.toList))) (((w.alloc (.cells #[.slice A l.length c] 29)).alloc (.cells #[.slice none 0 0] 29)).alloc (.cells #[.slice none 0 0] 29)) := by
  have e1 := dk_sz w (.cells #[.slice A l.length c] 29)
  have e2 := dk_sz (w.alloc (.cells #[.slice A l.length c] 29)) (.cells #[.slice none 0 0] 29)
  refine ⟨⟨blk_alloc (blk_alloc (blk_new _ _) _) _, Kd.C_alloc (Kd.C_alloc (Kd.C_alloc hr _) _) _, below_alloc (below_alloc (below_alloc (Below.refl _ _) _) _) _⟩, ?_, Kd.R_nil _ _ _ _ _, ?_⟩
  ·rw [← e1, ← e2]; exact blk_new _ _
  ·rw [← e1]; exact blk_alloc (blk_new _ _) _
 have HS := Aside0.mk hS
 clear hr hc hl hS
 go_enter Try.func56, Try.ntmps56
 go_wp2
 go_loopg [6] l.length (fun g v6 w' => ∃ (i : Nat) (v : Value) (out : List S67), i + g = l.length ∧ v6 = .int .i64 (i : Int) ∧ Aside0 (out = ((l.take i).filter (fun x => !(x.f0.toList == s.toList)))) ∧ Aside0 (mkSt w (fun _ => True) w.heap.size (w.heap.size + 1) (w.heap.size + 1 + 1) A l.length c l v out w'))
 case atStart => exact ⟨0, _, _, by omega, rfl, ⟨rfl⟩, HS⟩
 case round =>
  clear HS
  rename_i w' _
  obtain ⟨i, v, out, hi, rfl, HOUT, HS⟩ := hrel
  have hc2 : wr.cell? ⟨w.heap.size, 0, none⟩ = some (.slice A l.length c) := (blk_cell HS.out.1.1 0).trans rfl
  cases gk with
  | zero =>
   have hii : i = l.length := by omega
   subst hii
   have hlt2 : decide ((l.length : Int) < (l.length : Int)) = false := decide_eq_false (by omega)
   have hlt : ¬ ((l.length : Int) < (l.length : Int)) := by omega
   have hc4 : wr.cell? ⟨w.heap.size + 1, 0, none⟩ = some (.slice none 0 0) := (blk_cell HS.out.2.2.2 0).trans rfl
   have hf4 := blk_frozen HS.out.2.2.2 0
   clear hi
   obtain ⟨A5, c5, hv⟩ := Kd.R_slice HS.out.2.2.1
   subst hv
   go_wp2_with (first | ((with_reducible refine gate_dst (N := 33) rfl ?_); refine ld29 HS.out.2.1 (.tmp 5) rfl rfl rfl ?_))
   (try simp only [Exit.inBlock, Exit.then])
   refine bodyPost_ret (ret29a (x := .slice A5 out.length c5) rfl _ _ (blk_put HS.out.2.2.2 0 _ rfl) rfl) rfl ⟨_, rfl, ?_, below_set HS.out.1.2.2 (by omega)⟩
   have hw : withoutD l s = out := by rw [HOUT.out, List.take_length]; rfl
   rw [hw]
   exact Kd.R_set HS.out.2.2.1 HS.out.2.2.2 (by decide) 0 _
  | succ kk =>
   have hlt : (i : Int) < (l.length : Int) := by omega
   have hlt2 : decide ((i : Int) < (l.length : Int)) = true := decide_eq_true hlt
   have hi0 : (0 : Int) ≤ (i : Int) := Int.natCast_nonneg i
   have hin : i < l.length := by omega
   obtain ⟨ad, ea, hx0, hx1, hx2⟩ := dk_row HS.out.1.2.1 i hin
   subst ea
   have htk := dk_take l (fun x => !(x.f0.toList == s.toList)) i hin
   obtain ⟨x, hx⟩ : ∃ x, l.getD i z67 = x := ⟨_, rfl⟩
   rw [hx] at hx0 hx1 hx2 htk
   obtain ⟨fn, ft, fk⟩ := x
   simp only at hx0 hx1 hx2 htk
   have hp0 := eq_true hi0
   have hq0 := eq_true hlt
   have HI := Aside0.mk hi
   have HTK := Aside0.mk htk
   have hwi : wrap64 ((i : Int) + 1) = ((i + 1 : Nat) : Int) := by have := HL.out; unfold wrap64; omega
   have HWI := Aside0.mk hwi
   have HX := Aside0.mk hx
   clear hi htk hx
   cases hb : (fn.toList == s.toList) with
   | true =>
    go_wp2
    go_roundg kk
    case measure => have := HI.out; omega
    case rel => exact ⟨i + 1, v, out, by have := HI.out; omega, by first | rfl | (rw [HWI.out]), ⟨by rw [HTK.out, hb, HOUT.out]; simp⟩, HS⟩
   | false =>
    have hc5 : wr.cell? ⟨w.heap.size + 1 + 1, 0, none⟩ = some v := (blk_cell HS.out.2.1 0).trans rfl
    have HLen : Aside0 ((out.length + 1) * 40 ≤ 140737488355328) := ⟨by rw [HOUT.out]; have h1 := List.length_filter_le (fun x : S67 => !(x.f0.toList == s.toList)) (l.take i); have h2 := List.length_take_le i l; have := HL.out; omega⟩
    have HSd := Aside0.mk (mkSt_drew HS.out)
    have hc5a : ∀ o, (wr.alloc o).cell? ⟨w.heap.size + 1 + 1, 0, none⟩ = some v := fun o => (blk_cell (blk_alloc HS.out.2.1 o) 0).trans rfl
    go_wp2
    go_region_law (first | (refine Kd.R_append_step k67 (w0 := w) (W := wr.drew) w.heap.size (by rfl) (.tmp 24) (.tmp 30) 27 67 (.agg #[(.string ⟨#[]⟩), (.string ⟨#[]⟩), (.int .i64 0)]) 40 rfl Try.underlying27 info67 rfl (by decide) (by omega) v out (⟨fn, ft, fk⟩ : S67) [.string fn, .string ft, .int .i64 fk] (fun _ => True) (fun _ => False) rfl rfl ?aP (fun _ hk => hk.elim) ?aF ?aO ?aB ?aS ?aL ?_; (case aP => exact k67_mkM _ _ _ (⟨fn, ft, fk⟩ : S67)); (case aB => exact HSd.out.1.2.2); (case aF => exact (fun _ _ => trivial)); (case aO => exact HSd.out.2.2.1); (case aS => exact HSd.out.1.2.2.size); (case aL => exact HLen.out); intro v1 w1 ho hb1 hg hat; (obtain ⟨o1, ho1⟩ : ∃ o1, out ++ [(⟨fn, ft, fk⟩ : S67)] = o1 := ⟨_, rfl⟩); rw [ho1] at ho; have HO1 := Aside0.mk ho1; clear ho1; have hS1 := mkSt_grown HSd.out hg hb1 HC.out; have HG1 := Aside0.mk (And.intro ho (And.intro hb1 hg)); have hk2 := hS1.1; have hk5 := hS1.2.1; have hk9 := hS1.2.2.1; obtain ⟨ad_, ea_, hk6, hk7, hk8⟩ := dk_row hS1.2.2.2 i hin; cases ea_; obtain ⟨A6, c6, hv1⟩ := Kd.R_slice ho; subst hv1; rw [HX.out] at hk6 hk7 hk8; clear ho hb1 hg hat hS1))
    all_goals
     go_wp2
     go_roundg kk
     case measure => have := HI.out; omega
     case rel => exact ⟨i + 1, _, o1, by have := HI.out; omega, by first | rfl | (rw [HWI.out]), ⟨by rw [← HO1.out, HTK.out, hb, HOUT.out]; simp⟩, ⟨mkSt_store HSd.out HG1.out.2.2 HG1.out.2.1 HC.out HG1.out.1 (by omega) (by omega) (by omega)⟩⟩
end Go.Proofs.Yteghgeanbglmoaa.PFnActs
