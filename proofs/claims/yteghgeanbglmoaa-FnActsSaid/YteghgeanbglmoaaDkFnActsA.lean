/- Is a disk right? Both texts of it. No condition. -/
import Derived.Test.YteghgeanbglmoaaPFnActsx0
namespace Go.Proofs.Yteghgeanbglmoaa.PFnActs
open Go.RowKit Go.Proofs.YteghgeanbglmoaaW.PrintWords Go.Proofs.YteghgeanbglmoaaW.PrintLast Go.Proofs.YteghgeanbglmoaaW.PrintMore
attribute [local go_sem] max_two min_two
set_option linter.unusedVariables false
set_option linter.unusedSimpArgs false
theorem dk_stop {p : Prop} (h : id p) : p := h
theorem dk_go {p : Prop} (h : p) : id p := h
theorem dk_sz (w : World) (o : Obj) : (w.alloc o).heap.size = w.heap.size + 1 := by
 show (w.heap.push o).size = _
 simp
theorem size29 : (Try.prog.info? 29).map (·.size) = some 1 := by kernel_rfl
theorem size67 : (Try.prog.info? 67).map (·.size) = some 3 := by kernel_rfl
section
variable {ops : Array Oper} {rest : List Oper} {o : Oper} {a : Act} {w : World} {Q : Exit → Act → World → Prop} {x y z x' y' z' : Value} {b : Nat} {t : TypeId}
theorem ld29 (hb : w.heap[b]? = some (.cells #[x] t (0, 0))) (u : Operand) (hgd : o.guard = none) (ho : o.op = .load 29 u) (hx : a.eval u = .pointer (some ⟨b, 0, none⟩)) (h : wpList Try.prog ops Q rest (a.put o.dst (.agg #[x])) w) : wpList Try.prog ops Q (o :: rest) a w :=
 wpList_load_row hgd 29 u ho b hx t _ _ _ hb Try.underlying29 rfl (by rw [size29]; rfl) h
theorem ld67 (hb : w.heap[b]? = some (.cells #[x, y, z] t (0, 0))) (u : Operand) (hgd : o.guard = none) (ho : o.op = .load 67 u) (hx : a.eval u = .pointer (some ⟨b, 0, none⟩)) (h : wpList Try.prog ops Q rest (a.put o.dst (.agg #[x, y, z])) w) : wpList Try.prog ops Q (o :: rest) a w :=
 wpList_load_row hgd 67 u ho b hx t _ _ _ hb Try.underlying67 rfl (by rw [size67]; rfl) h
end
/-- Is a file right? -/
def okX (x : S67) : Bool := (decide (1 ≤ (x.f0.size : Int)) && decide ((x.f0.size : Int) ≤ 8)) && (!decide (20000 < (x.f1.size : Int)) && (decide (0 ≤ x.f2) && decide (x.f2 ≤ (x.f1.size : Int))))
def okAt (l : List S67) (i : Nat) : Bool := okX (l.getD i z67) && (decide (i = 0) || Op.bytesLess (l.getD (i - 1) z67).f0.toList (l.getD i z67).f0.toList)
def okTo (l : List S67) (i : Nat) : Bool := (List.range i).all (okAt l)
/-- Is a disk right? -/
def okD (l : List S67) : Bool := decide (l.length ≤ 30) && okTo l l.length
theorem okTo_succ (l : List S67) (i : Nat) : okTo l (i + 1) = (okTo l i && okAt l i) := by
 unfold okTo
 rw [List.range_succ, List.all_append]
 simp
theorem okTo_no (l : List S67) (i : Nat) (h : okAt l i = false) (n : Nat) (hn : i < n) : okTo l n = false := by
 induction n with
 | zero => omega
 | succ n ih =>
  rw [okTo_succ]
  rcases Nat.lt_or_ge i n with c | c
  ·rw [ih c]; rfl
  ·have : i = n := by omega
   subst this
   rw [h, Bool.and_false]
theorem okD_no (l : List S67) (i : Nat) (h : okAt l i = false) (hn : i < l.length) : okD l = false := by
 unfold okD
 rw [okTo_no l i h _ hn, Bool.and_false]
theorem dk_row {w : World} {A : Option Addr} {n : Nat} {xs : List S67} (h : Kd.C k67 w A n xs) (i : Nat) (hi : i < n) :
  ∃ ad, A = some ad ∧ w.cell? (ad.add (i * 3)) = some (.string (xs.getD i z67).f0) ∧ w.cell? ⟨(ad.add (i * 3)).block, (ad.add (i * 3)).off + 1, none⟩ = some (.string (xs.getD i z67).f1) ∧ w.cell? ⟨(ad.add (i * 3)).block, (ad.add (i * 3)).off + 2, none⟩ = some (.int .i64 (xs.getD i z67).f2) := by
 obtain ⟨ad, e, h0, h1, h2⟩ := at_T67 h (i : Int) (by omega) (by omega)
 unfold rd_T67 at h0 h1 h2
 rw [Int.toNat_natCast] at h0 h1 h2
 exact ⟨ad, e, h0, h1, h2⟩
set_option maxHeartbeats 8000000 in
set_option maxRecDepth 100000 in
theorem in51 (a b c : Int) (w : World) : Calls Try.prog 51 #[.int .i64 a, .int .i64 b, .int .i64 c] w fun e w' => e = .returned (.bool (decide (b ≤ a) && decide (a ≤ c))) ∧ ∃ nd, w' = w.drewN nd := by
 by_cases c4 : b ≤ a
 ·have c4b0 : decide (b ≤ a) = true := decide_eq_true c4
  rw [c4b0, Bool.true_and]
  clear c4
  go_enter Try.func51, Try.ntmps51
  go_wp2
  go_ret
  exact ⟨by first | rfl | (simp; done) | (simp [*]; done), by first | exact ⟨0, rfl⟩ | exact ⟨1, rfl⟩⟩
 ·have c4b0 : decide (b ≤ a) = false := decide_eq_false c4
  rw [c4b0, Bool.false_and]
  clear c4
  go_enter Try.func51, Try.ntmps51
  go_wp2
  go_ret
  exact ⟨by first | rfl | (simp; done) | (simp [*]; done), by first | exact ⟨0, rfl⟩ | exact ⟨1, rfl⟩⟩
set_option maxHeartbeats 8000000 in
set_option maxRecDepth 100000 in
theorem in49 (a b c : Int) (w : World) : Calls Try.prog 49 #[.int .i64 a, .int .i64 b, .int .i64 c] w fun e w' => e = .returned (.bool (decide (b ≤ a) && decide (a ≤ c))) ∧ ∃ nd, w' = w.drewN nd := by
 by_cases c4 : b ≤ a
 ·have c4b0 : decide (b ≤ a) = true := decide_eq_true c4
  rw [c4b0, Bool.true_and]
  clear c4
  go_enter Try.func49, Try.ntmps49
  go_wp2
  go_ret
  exact ⟨by first | rfl | (simp; done) | (simp [*]; done), by first | exact ⟨0, rfl⟩ | exact ⟨1, rfl⟩⟩
 ·have c4b0 : decide (b ≤ a) = false := decide_eq_false c4
  rw [c4b0, Bool.false_and]
  clear c4
  go_enter Try.func49, Try.ntmps49
  go_wp2
  go_ret
  exact ⟨by first | rfl | (simp; done) | (simp [*]; done), by first | exact ⟨0, rfl⟩ | exact ⟨1, rfl⟩⟩
theorem dk_inq (a b c : Int) (r : Bool) (h : (decide (b ≤ a) && decide (a ≤ c)) = r) (W : World) (m : Nat) : Calls Try.prog 51 #[.int .i64 a, .int .i64 b, .int .i64 c] (W.drewN m) fun e w'' => e = .returned (.bool r) ∧ ∃ k, w'' = W.drewN k := by
 refine Calls.quiet_of ((in51 a b c _).mono ?_)
 rintro e w' ⟨he, nd, hw⟩
 exact ⟨by rw [he, h], nd, hw⟩
theorem dk_sinq (a b c : Int) (r : Bool) (h : (decide (b ≤ a) && decide (a ≤ c)) = r) (W : World) (m : Nat) : Calls Try.prog 49 #[.int .i64 a, .int .i64 b, .int .i64 c] (W.drewN m) fun e w'' => e = .returned (.bool r) ∧ ∃ k, w'' = W.drewN k := by
 refine Calls.quiet_of ((in49 a b c _).mono ?_)
 rintro e w' ⟨he, nd, hw⟩
 exact ⟨by rw [he, h], nd, hw⟩
/-- Is a name right? -/
def nameB (s : ByteArray) : Bool := decide (1 ≤ (s.size : Int)) && decide ((s.size : Int) ≤ 8)
set_option maxHeartbeats 8000000 in
set_option maxRecDepth 100000 in
theorem name48 (s : ByteArray) (w : World) : Calls Try.prog 48 #[.string s] w fun e w' => e = .returned (.bool (nameB s)) ∧ ∃ nd, w' = w.drewN nd := by
 obtain ⟨b, hb⟩ : ∃ b, nameB s = b := ⟨_, rfl⟩
 have hb2 : (decide (1 ≤ (s.size : Int)) && decide ((s.size : Int) ≤ 8)) = b := hb
 rw [hb]
 have HBB := Aside0.mk hb2
 clear hb hb2
 go_enter Try.func48, Try.ntmps48
 go_wp2_with (first | (go_at_call 49; refine (in49 _ _ _ _).mono ?_; rw [HBB.out]; rintro e_ w1 ⟨rfl, ⟨nd, rfl⟩⟩))
 go_ret
 exact ⟨by first | rfl | (simp; done) | (simp [*]; done), ⟨_, rfl⟩⟩
theorem dk_nameq (s : ByteArray) (r : Bool) (h : nameB s = r) (W : World) (m : Nat) : Calls Try.prog 48 #[.string s] (W.drewN m) fun e w'' => e = .returned (.bool r) ∧ ∃ k, w'' = W.drewN k := by
 refine Calls.quiet_of ((name48 s _).mono ?_)
 rintro e w' ⟨he, nd, hw⟩
 exact ⟨by rw [he, h], nd, hw⟩
/-- What a walk of a disk keeps: the parameter's box, the argument's row. -/
def dkSt (w : World) (g : Nat) (A : Option Addr) (n c : Nat) (xs : List S67) (W : World) : Prop := W.heap[g]? = some (.cells #[.slice A n c] 29 (0, 0)) ∧ Kd.C k67 W A n xs ∧ Below w.heap.size w W
theorem dkSt_below {w : World} {g : Nat} {A : Option Addr} {n c : Nat} {xs : List S67} {W W' : World} (h : dkSt w g A n c xs W) (hb : Below W.heap.size W W') : dkSt w g A n c xs W' := ⟨blk_below h.1 hb, Kd.C_below h.2.1 hb, below_step h.2.2 hb⟩
set_option maxHeartbeats 8000000 in
set_option maxRecDepth 100000 in
theorem impl_ok_walk (A : Option Addr) (c : Nat) (l : List S67) (w : World) (hr : Kd.C k67 w A l.length l) (hc : l.length ≤ c) (hl : l.length ≤ 3518437208883) :
  Calls Try.prog 15 #[.agg #[.slice A l.length c]] w fun e w' => e = .returned (.bool (okD l)) ∧ Below w.heap.size w w' := by
 have HL := Aside0.mk hl
 have hS : dkSt w w.heap.size A l.length c l (w.alloc (.cells #[.slice A l.length c] 29)) := ⟨blk_new _ _, Kd.C_alloc hr _, below_alloc (Below.refl _ _) _⟩
 have HS := Aside0.mk hS
 have HT := Aside0.mk (show okTo l 0 = true from rfl)
 clear hr hc hl hS
 go_enter Try.func15, Try.ntmps15
 go_wp2
 go_loopg [8] l.length (fun g v8 w' => ∃ i : Nat, i + g = l.length ∧ v8 = .int .i64 (i : Int) ∧ Aside0 (okTo l i = true) ∧ Aside0 (dkSt w w.heap.size A l.length c l w'))
 case atStart => exact ⟨0, by omega, rfl, HT, HS⟩
 case round =>
  clear HS HT
  rename_i w' _
  obtain ⟨i, hi, rfl, HT, HS⟩ := hrel
  cases gk with
  | zero =>
   have hii : i = l.length := by omega
   subst hii
   have hlt2 : decide ((l.length : Int) < (l.length : Int)) = false := decide_eq_false (by omega)
   have hlt : ¬ ((l.length : Int) < (l.length : Int)) := by omega
   have hcr := blk_cell HS.out.1 0
   clear hi
   have hok : decide ((l.length : Int) ≤ 30) = okD l := by
    unfold okD
    rw [HT.out, Bool.and_true]
    exact decide_eq_decide.2 (by omega)
   have HO := Aside0.mk hok
   clear hok
   have hd : decide (l.length ≤ 30) = okD l := by rw [← HO.out]; exact decide_eq_decide.2 (by omega)
   go_wp2
   go_ret
   exact ⟨by first | rfl | (rw [HO.out]; rfl) | (rw [hd]; rfl), HS.out.2.2⟩
  | succ kk =>
   have hlt : (i : Int) < (l.length : Int) := by omega
   have hlt2 : decide ((i : Int) < (l.length : Int)) = true := decide_eq_true hlt
   have hi0 : (0 : Int) ≤ (i : Int) := Int.natCast_nonneg i
   have hin : i < l.length := by omega
   obtain ⟨ad, ea, hx0, hx1, hx2⟩ := dk_row HS.out.2.1 i hin
   subst ea
   have hok : okAt l i = (okX (l.getD i z67) && (decide (i = 0) || Op.bytesLess (l.getD (i - 1) z67).f0.toList (l.getD i z67).f0.toList)) := rfl
   generalize l.getD i z67 = x at hx0 hx1 hx2 hok
   obtain ⟨fn, ft, fk⟩ := x
   simp only at hx0 hx1 hx2 hok
   have hp0 := eq_true hi0
   have hq0 := eq_true hlt
   have HI := Aside0.mk hi
   have hIN := hin
   have HOK := Aside0.mk hok
   clear hok hi
   have hwi : wrap64 ((i : Int) + 1) = ((i + 1 : Nat) : Int) := by have := HL.out; unfold wrap64; omega
   have HWI := Aside0.mk hwi
   go_wp2
   obtain ⟨W2, hW2⟩ : ∃ W2, wr.alloc (.cells #[.string fn, .string ft, .int .i64 fk] 67) = W2 := ⟨_, rfl⟩
   have hz : W2.heap[wr.heap.size]? = some (.cells #[.string fn, .string ft, .int .i64 fk] 67 (0, 0)) := by rw [← hW2]; exact blk_new _ _
   have HS2 := Aside0.mk (show dkSt w w.heap.size (some ad) l.length c l W2 from hW2 ▸ dkSt_below HS.out (below_alloc (Below.refl _ _) _))
   rw [hW2]
   have hz0 : W2.cell? ⟨wr.heap.size, 0, none⟩ = some (.string fn) := (blk_cell hz 0).trans rfl
   have hz1 : W2.cell? ⟨wr.heap.size, 1, none⟩ = some (.string ft) := (blk_cell hz 1).trans rfl
   have hz2 : W2.cell? ⟨wr.heap.size, 2, none⟩ = some (.int .i64 fk) := (blk_cell hz 2).trans rfl
   have hcr : W2.cell? ⟨w.heap.size, 0, none⟩ = some (.slice (some ad) l.length c) := (blk_cell HS2.out.1 0).trans rfl
   clear hz hW2 HS hx0 hx1 hx2
   cases hin1 : (decide (1 ≤ (fn.size : Int)) && decide ((fn.size : Int) ≤ 8)) with
   | false =>
    have hf1 := hin1
    have hno : okD l = false := okD_no l i (by rw [HOK.out]; unfold okX; simp only [hin1, Bool.false_and]) hin
    go_quiet (first | (go_at_call 51; with_reducible exact dk_inq _ _ _ _ hf1 _ _) | (go_at_call 51; with_reducible exact dk_inq _ _ _ _ hf2 _ _))
    go_wp2
    go_ret
    exact ⟨by rw [hno]; rfl, pw_below_drewN HS2.out.2.2 _⟩
   | true =>
    have hf1 := hin1
    cases h2 : decide (20000 < (ft.size : Int)) with
    | true =>
     have h2b : decide (20000 < ft.size) = true := decide_eq_true (by have := of_decide_eq_true h2; omega)
     have hno : okD l = false := okD_no l i (by rw [HOK.out]; unfold okX; simp only [hin1, h2, Bool.true_and, Bool.not_true, Bool.false_and]) hin
     go_quiet (first | (go_at_call 51; with_reducible exact dk_inq _ _ _ _ hf1 _ _) | (go_at_call 51; with_reducible exact dk_inq _ _ _ _ hf2 _ _))
     go_wp2
     go_ret
     exact ⟨by rw [hno]; rfl, pw_below_drewN HS2.out.2.2 _⟩
    | false =>
     have h2b : decide (20000 < ft.size) = false := decide_eq_false (by have := of_decide_eq_false h2; omega)
     cases hin2 : (decide (0 ≤ fk) && decide (fk ≤ (ft.size : Int))) with
     | false =>
      have hf2 := hin2
      have hno : okD l = false := okD_no l i (by rw [HOK.out]; unfold okX; simp only [hin1, h2, hin2, Bool.true_and, Bool.not_false, Bool.false_and]) hin
      go_quiet (first | (go_at_call 51; with_reducible exact dk_inq _ _ _ _ hf1 _ _) | (go_at_call 51; with_reducible exact dk_inq _ _ _ _ hf2 _ _))
      go_wp2
      go_ret
      exact ⟨by rw [hno]; rfl, pw_below_drewN HS2.out.2.2 _⟩
     | true =>
      have hf2 := hin2
      rcases Nat.eq_zero_or_pos i with hi1 | hi1
      ·subst hi1
       have hyes : okTo l (0 + 1) = true := by rw [okTo_succ, HT.out, HOK.out]; unfold okX; simp only [hin1, h2, hin2, Bool.true_and, Bool.not_false, Bool.or_true, Bool.true_or, decide_true]
       have HY := Aside0.mk hyes
       clear hyes
       go_quiet (first | (go_at_call 51; with_reducible exact dk_inq _ _ _ _ hf1 _ _) | (go_at_call 51; with_reducible exact dk_inq _ _ _ _ hf2 _ _))
       go_wp2
       go_roundg kk
       case measure => have := HI.out; omega
       case rel => exact ⟨0 + 1, by have := HI.out; omega, by first | rfl | (rw [HWI.out]) | exact congrArg (Value.int IntKind.i64) HWI.out, HY, ⟨dkSt_below HS2.out (pw_below_drewN (Below.refl _ _) _)⟩⟩
      ·obtain ⟨j, rfl⟩ : ∃ j, i = j + 1 := ⟨i - 1, by omega⟩
       obtain ⟨ad2, ea, hy0, hy1, hy2⟩ := dk_row HS2.out.2.1 j (by omega)
       cases ea
       rw [Nat.add_sub_cancel] at HOK
       have hok3 := HOK.out
       generalize (l.getD j z67).f0 = pn at hy0 hok3
       clear HOK
       have HOK := Aside0.mk hok3
       clear hok3 hy1 hy2
       have hwj : wrap64 (((j + 1 : Nat) : Int) - 1) = (j : Int) := by have := HL.out; unfold wrap64; omega
       have hwj2 : IntKind.i64.wrap (j : Int) = (j : Int) := by have := HL.out; rw [i64_w]; unfold wrap64; omega
       have hg1 : decide ((0 : Int) < ((j + 1 : Nat) : Int)) = true := decide_eq_true (by omega)
       have hg2 : (0 : Int) < ((j + 1 : Nat) : Int) := by omega
       have hj0 : (0 : Int) ≤ (j : Int) := Int.natCast_nonneg j
       have hj1 : (j : Int) < (l.length : Int) := by omega
       have hj : decide (j + 1 = 0) = false := decide_eq_false (by omega)
       cases h5 : Op.bytesLess pn.toList fn.toList with
       | false =>
        have hno : okD l = false := okD_no l (j + 1) (by rw [HOK.out]; unfold okX; simp only [hin1, h2, hin2, h5, hj, Bool.true_and, Bool.not_false, Bool.false_or]) hin
        go_quiet (first | (go_at_call 51; with_reducible exact dk_inq _ _ _ _ hf1 _ _) | (go_at_call 51; with_reducible exact dk_inq _ _ _ _ hf2 _ _))
        go_wp2
        go_ret
        exact ⟨by rw [hno]; rfl, pw_below_drewN HS2.out.2.2 _⟩
       | true =>
        have hyes : okTo l (j + 1 + 1) = true := by rw [okTo_succ, HT.out, HOK.out]; unfold okX; simp only [hin1, h2, hin2, h5, hj, Bool.true_and, Bool.not_false, Bool.false_or]
        have HY := Aside0.mk hyes
        clear hyes
        go_quiet (first | (go_at_call 51; with_reducible exact dk_inq _ _ _ _ hf1 _ _) | (go_at_call 51; with_reducible exact dk_inq _ _ _ _ hf2 _ _))
        go_wp2
        go_roundg kk
        case measure => have := HI.out; omega
        case rel => exact ⟨j + 1 + 1, by have := HI.out; omega, by first | rfl | (rw [HWI.out]) | exact congrArg (Value.int IntKind.i64) HWI.out, HY, ⟨dkSt_below HS2.out (pw_below_drewN (Below.refl _ _) _)⟩⟩
set_option maxHeartbeats 8000000 in
set_option maxRecDepth 100000 in
theorem spec_ok_walk (A : Option Addr) (c : Nat) (l : List S67) (w : World) (hr : Kd.C k67 w A l.length l) (hc : l.length ≤ c) (hl : l.length ≤ 3518437208883) :
  Calls Try.prog 13 #[.agg #[.slice A l.length c]] w fun e w' => e = .returned (.bool (okD l)) ∧ Below w.heap.size w w' := by
 have HL := Aside0.mk hl
 have hS : dkSt w w.heap.size A l.length c l (w.alloc (.cells #[.slice A l.length c] 29)) := ⟨blk_new _ _, Kd.C_alloc hr _, below_alloc (Below.refl _ _) _⟩
 have HS := Aside0.mk hS
 have HT := Aside0.mk (show okTo l 0 = true from rfl)
 clear hr hc hl hS
 by_cases h30 : l.length ≤ 30
 rotate_left
 ·have h30a : decide ((30 : Int) < (l.length : Int)) = true := decide_eq_true (by omega)
  have h30b : decide (30 < l.length) = true := decide_eq_true (by omega)
  have hno : okD l = false := by unfold okD; rw [decide_eq_false h30]; rfl
  have hcr := (blk_cell HS.out.1 0).trans rfl
  clear h30
  go_enter Try.func13, Try.ntmps13
  go_wp2
  go_ret
  exact ⟨by rw [hno]; rfl, HS.out.2.2⟩
 have h30a : decide ((30 : Int) < (l.length : Int)) = false := decide_eq_false (by omega)
 have h30b : decide (30 < l.length) = false := decide_eq_false (by omega)
 have H30 := Aside0.mk h30
 clear h30
 go_enter Try.func13, Try.ntmps13
 go_wp2
 clear h30a h30b
 go_loopg [3] l.length (fun g v3 w' => ∃ i : Nat, i + g = l.length ∧ v3 = .int .i64 (i : Int) ∧ Aside0 (okTo l i = true) ∧ Aside0 (dkSt w w.heap.size A l.length c l w'))
 case atStart => exact ⟨0, by omega, rfl, HT, HS⟩
 case round =>
  clear HS HT
  rename_i w' _
  obtain ⟨i, hi, rfl, HT, HS⟩ := hrel
  cases gk with
  | zero =>
   have hii : i = l.length := by omega
   subst hii
   have hlt2 : decide ((l.length : Int) < (l.length : Int)) = false := decide_eq_false (by omega)
   have hlt : ¬ ((l.length : Int) < (l.length : Int)) := by omega
   have hcr := blk_cell HS.out.1 0
   clear hi
   have hyes : okD l = true := by unfold okD; rw [HT.out, decide_eq_true H30.out]; rfl
   go_wp2
   go_ret
   exact ⟨by first | rfl | (rw [hyes]; rfl), HS.out.2.2⟩
  | succ kk =>
   have hlt : (i : Int) < (l.length : Int) := by omega
   have hlt2 : decide ((i : Int) < (l.length : Int)) = true := decide_eq_true hlt
   have hi0 : (0 : Int) ≤ (i : Int) := Int.natCast_nonneg i
   have hin : i < l.length := by omega
   obtain ⟨ad, ea, hx0, hx1, hx2⟩ := dk_row HS.out.2.1 i hin
   subst ea
   have hok : okAt l i = (okX (l.getD i z67) && (decide (i = 0) || Op.bytesLess (l.getD (i - 1) z67).f0.toList (l.getD i z67).f0.toList)) := rfl
   generalize l.getD i z67 = x at hx0 hx1 hx2 hok
   obtain ⟨fn, ft, fk⟩ := x
   simp only at hx0 hx1 hx2 hok
   have hp0 := eq_true hi0
   have hq0 := eq_true hlt
   have HI := Aside0.mk hi
   have hIN := hin
   have HOK := Aside0.mk hok
   clear hok hi
   have hcr0 := (blk_cell HS.out.1 0).trans rfl
   have hwi : wrap64 ((i : Int) + 1) = ((i + 1 : Nat) : Int) := by have := HL.out; unfold wrap64; omega
   have HWI := Aside0.mk hwi
   go_wp2
   obtain ⟨W2, hW2⟩ : ∃ W2, wr.alloc (.cells #[.string fn, .string ft, .int .i64 fk] 67) = W2 := ⟨_, rfl⟩
   have hz : W2.heap[wr.heap.size]? = some (.cells #[.string fn, .string ft, .int .i64 fk] 67 (0, 0)) := by rw [← hW2]; exact blk_new _ _
   have HS2 := Aside0.mk (show dkSt w w.heap.size (some ad) l.length c l W2 from hW2 ▸ dkSt_below HS.out (below_alloc (Below.refl _ _) _))
   rw [hW2]
   have hz0 : W2.cell? ⟨wr.heap.size, 0, none⟩ = some (.string fn) := (blk_cell hz 0).trans rfl
   have hz1 : W2.cell? ⟨wr.heap.size, 1, none⟩ = some (.string ft) := (blk_cell hz 1).trans rfl
   have hz2 : W2.cell? ⟨wr.heap.size, 2, none⟩ = some (.int .i64 fk) := (blk_cell hz 2).trans rfl
   have hcr : W2.cell? ⟨w.heap.size, 0, none⟩ = some (.slice (some ad) l.length c) := (blk_cell HS2.out.1 0).trans rfl
   clear hz hW2 HS hx0 hx1 hx2
   cases hin1 : (decide (1 ≤ (fn.size : Int)) && decide ((fn.size : Int) ≤ 8)) with
   | false =>
    have hf1 : nameB fn = _ := hin1
    have hno : okD l = false := okD_no l i (by rw [HOK.out]; unfold okX; simp only [hin1, Bool.false_and]) hin
    go_quiet (first | (go_at_call 48; with_reducible exact dk_nameq _ _ hf1 _ _) | (go_at_call 49; with_reducible exact dk_sinq _ _ _ _ hf2 _ _))
    go_wp2
    go_ret
    exact ⟨by rw [hno]; rfl, pw_below_drewN HS2.out.2.2 _⟩
   | true =>
    have hf1 : nameB fn = _ := hin1
    cases h2 : decide (20000 < (ft.size : Int)) with
    | true =>
     have h2b : decide (20000 < ft.size) = true := decide_eq_true (by have := of_decide_eq_true h2; omega)
     have hno : okD l = false := okD_no l i (by rw [HOK.out]; unfold okX; simp only [hin1, h2, Bool.true_and, Bool.not_true, Bool.false_and]) hin
     go_quiet (first | (go_at_call 48; with_reducible exact dk_nameq _ _ hf1 _ _) | (go_at_call 49; with_reducible exact dk_sinq _ _ _ _ hf2 _ _))
     go_wp2
     go_ret
     exact ⟨by rw [hno]; rfl, pw_below_drewN HS2.out.2.2 _⟩
    | false =>
     have h2b : decide (20000 < ft.size) = false := decide_eq_false (by have := of_decide_eq_false h2; omega)
     cases hin2 : (decide (0 ≤ fk) && decide (fk ≤ (ft.size : Int))) with
     | false =>
      have hf2 := hin2
      have hno : okD l = false := okD_no l i (by rw [HOK.out]; unfold okX; simp only [hin1, h2, hin2, Bool.true_and, Bool.not_false, Bool.false_and]) hin
      go_quiet (first | (go_at_call 48; with_reducible exact dk_nameq _ _ hf1 _ _) | (go_at_call 49; with_reducible exact dk_sinq _ _ _ _ hf2 _ _))
      go_wp2
      go_ret
      exact ⟨by rw [hno]; rfl, pw_below_drewN HS2.out.2.2 _⟩
     | true =>
      have hf2 := hin2
      rcases Nat.eq_zero_or_pos i with hi1 | hi1
      ·subst hi1
       have hyes : okTo l (0 + 1) = true := by rw [okTo_succ, HT.out, HOK.out]; unfold okX; simp only [hin1, h2, hin2, Bool.true_and, Bool.not_false, Bool.or_true, Bool.true_or, decide_true]
       have HY := Aside0.mk hyes
       clear hyes
       go_quiet (first | (go_at_call 48; with_reducible exact dk_nameq _ _ hf1 _ _) | (go_at_call 49; with_reducible exact dk_sinq _ _ _ _ hf2 _ _))
       go_wp2
       go_roundg kk
       case measure => have := HI.out; omega
       case rel => exact ⟨0 + 1, by have := HI.out; omega, by first | rfl | (rw [HWI.out]) | exact congrArg (Value.int IntKind.i64) HWI.out, HY, ⟨dkSt_below HS2.out (pw_below_drewN (Below.refl _ _) _)⟩⟩
      ·obtain ⟨j, rfl⟩ : ∃ j, i = j + 1 := ⟨i - 1, by omega⟩
       obtain ⟨ad2, ea, hy0, hy1, hy2⟩ := dk_row HS2.out.2.1 j (by omega)
       cases ea
       rw [Nat.add_sub_cancel] at HOK
       have hok3 := HOK.out
       generalize (l.getD j z67).f0 = pn at hy0 hok3
       clear HOK
       have HOK := Aside0.mk hok3
       clear hok3 hy1 hy2
       have hwj : wrap64 (((j + 1 : Nat) : Int) - 1) = (j : Int) := by have := HL.out; unfold wrap64; omega
       have hwj2 : IntKind.i64.wrap (j : Int) = (j : Int) := by have := HL.out; rw [i64_w]; unfold wrap64; omega
       have hg1 : decide ((0 : Int) < ((j + 1 : Nat) : Int)) = true := decide_eq_true (by omega)
       have hg2 : (0 : Int) < ((j + 1 : Nat) : Int) := by omega
       have hj0 : (0 : Int) ≤ (j : Int) := Int.natCast_nonneg j
       have hj1 : (j : Int) < (l.length : Int) := by omega
       have hj : decide (j + 1 = 0) = false := decide_eq_false (by omega)
       cases h5 : Op.bytesLess pn.toList fn.toList with
       | false =>
        have hno : okD l = false := okD_no l (j + 1) (by rw [HOK.out]; unfold okX; simp only [hin1, h2, hin2, h5, hj, Bool.true_and, Bool.not_false, Bool.false_or]) hin
        go_quiet (first | (go_at_call 48; with_reducible exact dk_nameq _ _ hf1 _ _) | (go_at_call 49; with_reducible exact dk_sinq _ _ _ _ hf2 _ _))
        go_wp2
        go_ret
        exact ⟨by rw [hno]; rfl, pw_below_drewN HS2.out.2.2 _⟩
       | true =>
        have hyes : okTo l (j + 1 + 1) = true := by rw [okTo_succ, HT.out, HOK.out]; unfold okX; simp only [hin1, h2, hin2, h5, hj, Bool.true_and, Bool.not_false, Bool.false_or]
        have HY := Aside0.mk hyes
        clear hyes
        go_quiet (first | (go_at_call 48; with_reducible exact dk_nameq _ _ hf1 _ _) | (go_at_call 49; with_reducible exact dk_sinq _ _ _ _ hf2 _ _))
        go_wp2
        go_roundg kk
        case measure => have := HI.out; omega
        case rel => exact ⟨j + 1 + 1, by have := HI.out; omega, by first | rfl | (rw [HWI.out]) | exact congrArg (Value.int IntKind.i64) HWI.out, HY, ⟨dkSt_below HS2.out (pw_below_drewN (Below.refl _ _) _)⟩⟩
end Go.Proofs.Yteghgeanbglmoaa.PFnActs
