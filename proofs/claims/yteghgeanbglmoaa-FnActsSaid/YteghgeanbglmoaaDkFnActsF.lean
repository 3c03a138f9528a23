/- A file put by the program. No condition. -/
import Derived.Test.YteghgeanbglmoaaDkFnActsA
import Derived.Test.YteghgeanbglmoaaDkFnActsT
import Derived.Test.YteghgeanbglmoaaDkFnActsD
import Derived.Deep.RegionLaw
namespace Go.Proofs.Yteghgeanbglmoaa.PFnActs
open Go.RowKit Go.Proofs.YteghgeanbglmoaaW.PrintWords Go.Proofs.YteghgeanbglmoaaW.PrintLast Go.Proofs.YteghgeanbglmoaaW.PrintMore
attribute [local go_sem] max_two min_two
set_option linter.unusedVariables false
set_option linter.unusedSimpArgs false
/-- A file put ahead of the first whose name isn't smaller. -/
def insD : List S67 → S67 → List S67
 | [], f => [f]
 | x :: l, f => if Op.bytesLess x.f0.toList f.f0.toList = true then x :: insD l f else f :: x :: l
theorem insD_at (f : S67) : ∀ (l : List S67) (i : Nat), i ≤ l.length → (∀ t, t < i → Op.bytesLess (l.getD t z67).f0.toList f.f0.toList = true) → (i < l.length → Op.bytesLess (l.getD i z67).f0.toList f.f0.toList = false) → insD l f = l.take i ++ [f] ++ l.drop i
 | [], i, h, _, _ => by
  have : i = 0 := by simpa using h
  subst this
  rfl
 | x :: l, 0, _, _, h2 => by
  have := h2 (by simp)
  rw [List.getD_cons_zero] at this
  unfold insD
  rw [if_neg (by rw [this]; exact Bool.false_ne_true)]
  rfl
 | x :: l, i + 1, h, h1, h2 => by
  have h0 := h1 0 (by omega)
  rw [List.getD_cons_zero] at h0
  unfold insD
  rw [if_pos h0, insD_at f l i (by simpa using h) (fun t ht => by have := h1 (t + 1) (by omega); rwa [List.getD_cons_succ] at this) (fun hi => by have := h2 (by simpa using hi); rwa [List.getD_cons_succ] at this)]
  rfl
theorem C_one {W : World} {b : Nat} {x y : ByteArray} {z : Int} (h : W.heap[b]? = some (.cells #[.string x, .string y, .int .i64 z] 67 (0, 0))) : Kd.C k67 W (some ⟨b, 0, none⟩) 1 [(⟨x, y, z⟩ : S67)] := by
 refine ⟨rfl, by simp, fun _ => ⟨_, rfl, fun j p hj => ?_⟩⟩
 cases j with
 | succ j => simp at hj
 | zero =>
  have hp : (⟨x, y, z⟩ : S67) = p := by simpa using hj
  subst hp
  refine ⟨_, by rfl, k67_mk W _, fun i u hu => ?_⟩
  rw [add_plain, Nat.zero_mul, Nat.zero_add, blk_cell h]
  simpa using hu
theorem grown_then {w w1 W : World} {g : Nat} {u : Value} (h : w.grownBy w1 (some g)) (hb : Below w1.heap.size w1 W) : w.grownBy (W.setCell ⟨g, 0, none⟩ u) (some g) :=
 ⟨hb.os.trans h.os, hb.tape.trans h.tape, hb.output.trans h.output, by rw [show (W.setCell ⟨g, 0, none⟩ u).heap.size = W.heap.size by simp [World.setCell]]; exact Nat.le_trans h.size hb.size, fun i hi hne => (Below.heap_setCell W ⟨g, 0, none⟩ u i (fun e => hne (by rw [e]))).trans ((hb.block i (Nat.lt_of_lt_of_le hi h.size)).trans (h.block i hi hne))⟩
theorem grown_alloc {w w1 : World} {o : Obj} {r : Option Nat} (h : (w.alloc o).grownBy w1 r) : w.grownBy w1 r := by
 have hs := dk_sz w o
 exact ⟨h.os, h.tape, h.output, by have := h.size; omega, fun i hi hne => (h.block i (by omega) hne).trans (Below.heap_alloc w o i hi)⟩
set_option maxHeartbeats 16000000 in
set_option maxRecDepth 100000 in
theorem put58 (B g : Nat) (v : Value) (l : List S67) (pn pt : ByteArray) (pk : Int) (w : World) (h : ptSt w B g v l) (hB : B ≤ w.heap.size) (hl : l.length ≤ 2000000) :
  Calls Try.prog 58 #[.pointer (some ⟨g, 0, none⟩), .agg #[.string pn, .string pt, .int .i64 pk]] w fun e w' => e = .returned (.tuple #[]) ∧ ∃ v', ptSt w' B g v' (insD (dropD l pn) ⟨pn, pt, pk⟩) ∧ w.grownBy w' (some g) := by
 have hb0 : (w.alloc (.cells #[.string pn, .string pt, .int .i64 pk] 67)).heap[w.heap.size]? = some (.cells #[.string pn, .string pt, .int .i64 pk] 67 (0, 0)) := blk_new _ _
 have hgw := blk_lt h.1
 have hpt : ptSt (w.alloc (.cells #[.string pn, .string pt, .int .i64 pk] 67)) B g v l := ⟨blk_alloc h.1 _, Kd.R_alloc h.2 _⟩
 have hDl := dropD_len l pn
 have HP0 := Aside0.mk hb0
 have HPT := Aside0.mk hpt
 have HBB := Aside0.mk hB
 have HL := Aside0.mk hl
 have HGW := Aside0.mk hgw
 obtain ⟨D, hD⟩ : ∃ D, dropD l pn = D := ⟨_, rfl⟩
 rw [hD] at hDl ⊢
 have HDL := Aside0.mk hDl
 have HDE := Aside0.mk hD
 clear h hB hl hgw hb0 hpt hDl hD
 go_enter Try.func58, Try.ntmps58
 go_wp2_with (first | (go_at_call 59; refine (drop59 B g v l pn _ HPT.out (by rw [dk_sz]; have := HBB.out; omega) HL.out).mono ?_; rw [HDE.out]; rintro e_ w1 ⟨rfl, v', hpt1, hgr1, -⟩; obtain ⟨A, c, rfl, hcD, hCD⟩ := Kd.R_reads hpt1.2; have HPT1 := Aside0.mk hpt1; have HCD := Aside0.mk hCD; have HCC := Aside0.mk hcD; have HGR := Aside0.mk (grown_alloc hgr1); (have HPB := Aside0.mk ((hgr1.block w.heap.size (by rw [dk_sz]; omega) (fun e_ => by injection e_ with e_; have := HGW.out; omega)).trans HP0.out)); have HB1 := Aside0.mk (Below.refl w1.heap.size w1); have HSZ := Aside0.mk hgr1.size; have HT := Aside0.mk (show ∀ t, t < 0 → Op.bytesLess (D.getD t z67).f0.toList pn.toList = true from fun t h_ => by omega); clear hpt1 hcD hCD hgr1 HP0 HPT))
 go_loopg [4] D.length (fun q v4 w' => ∃ i : Nat, i + q = D.length ∧ v4 = .int .i64 (i : Int) ∧ Aside0 (∀ t, t < i → Op.bytesLess (D.getD t z67).f0.toList pn.toList = true) ∧ Aside0 (Below w1.heap.size w1 w'))
 case atStart => exact ⟨0, by omega, rfl, HT, ⟨by repeat (first | exact HB1.out | exact pw_below_drewN HB1.out _ | exact below_drew1 HB1.out)⟩⟩
 case round =>
  clear HB1 HT
  rename_i w' _
  obtain ⟨i, hi, rfl, HT, HB1⟩ := hrel
  have HGr := Aside0.mk (blk_below HPT1.out.1 HB1.out)
  have HPr := Aside0.mk (blk_below HPB.out HB1.out)
  have hcg : wr.cell? ⟨g, 0, none⟩ = some (.slice A D.length c) := (blk_cell HGr.out 0).trans rfl
  have hcp : wr.cell? ⟨w.heap.size, 0, none⟩ = some (.string pn) := (blk_cell HPr.out 0).trans rfl
  cases gk with
  | zero =>
   have hii : i = D.length := by omega
   have hlt2 : decide ((i : Int) < (D.length : Int)) = false := decide_eq_false (by omega)
   have hlt : ¬ ((i : Int) < (D.length : Int)) := by omega
   have hlt3 : decide (i < D.length) = false := decide_eq_false (by omega)
   have hlt4 : ¬ (i < D.length) := by omega
   have HINS := Aside0.mk (insD_at ⟨pn, pt, pk⟩ D i (by omega) HT.out (fun h_ => by omega))
   have hi9 : i ≤ D.length := by omega
   clear hi hii
   go_wp2
   go_quiet (fail)
   go_wp2
   obtain ⟨U, hU⟩ : ∃ U, wr.drewN nq = U := ⟨_, rfl⟩
   rw [hU]
   have HB2 := Aside0.mk (show Below w1.heap.size w1 U from hU ▸ pw_below_drewN HB1.out _)
   have HGU := Aside0.mk (blk_below HPT1.out.1 HB2.out)
   have HPU := Aside0.mk (blk_below HPB.out HB2.out)
   have HGL := Aside0.mk (blk_lt HGU.out)
   have HPL := Aside0.mk (blk_lt HPU.out)
   have HCU := Aside0.mk (Kd.C_below HCD.out HB2.out)
   have HGR2 := Aside0.mk HGR.out
   have HBU := Aside0.mk (show B ≤ U.heap.size by have h1_ := HB2.out.size; have h2_ := HGR.out.size; have h3_ := HBB.out; omega)
   have hgr3 : w.grownBy U (some g) := ⟨HB2.out.os.trans HGR.out.os, HB2.out.tape.trans HGR.out.tape, HB2.out.output.trans HGR.out.output, Nat.le_trans HGR.out.size HB2.out.size, fun i_ hi_ hne_ => (HB2.out.block i_ (Nat.lt_of_lt_of_le hi_ HGR.out.size)).trans (HGR.out.block i_ hi_ hne_)⟩
   clear HGR HGR2 hcg hcp hU hlt hlt2 HPT1 HCD HB1 HB2 HT HGr HPr
   have HGR := Aside0.mk hgr3
   clear hgr3
   have hi0 : (0 : Int) ≤ (i : Int) := Int.natCast_nonneg i
   have hi4 : (i : Int) ≤ (D.length : Int) := by omega
   have hi5 : ((i : Int)).toNat = i := Int.toNat_natCast i
   obtain ⟨i27, hi27, -⟩ := Option.map_eq_some_iff.1 info67
   have hz27 : i27.size = 3 := by have := size67; rw [hi27] at this; simpa using this
   have hcut1 := cut_to (P := Try.prog) 27 67 .i64 Try.underlying27 hi27 A D.length c (i : Int) hi0 hi4 HCC.out
   rw [Int.toNat_natCast] at hcut1
   have hcut2 := cut_from (P := Try.prog) 27 67 .i64 Try.underlying27 hi27 3 hz27 A D.length c (i : Int) hi0 hi4
   rw [Int.toNat_natCast] at hcut2
   obtain ⟨A9, hA9⟩ : ∃ A9, (if c = i then A else A.map (·.add (i * 3))) = A9 := ⟨_, rfl⟩
   rw [hA9] at hcut2
   obtain ⟨m, hm⟩ : ∃ m, D.length - i = m := ⟨_, rfl⟩
   obtain ⟨cm, hcm⟩ : ∃ cm, c - i = cm := ⟨_, rfl⟩
   rw [hm, hcm] at hcut2
   have HC1 : Aside0 (Kd.C k67 U A i (D.take i)) := ⟨by have := Kd.C_take HCU.out (m := i) hi9; rwa [List.length_take, Nat.min_eq_left hi9] at this⟩
   have HC2 : Aside0 (Kd.C k67 U A9 m (D.drop i)) := ⟨by have := Kd.C_drop HCU.out (m := i) hi9 HCC.out; rw [List.length_drop, hm] at this; rw [← hA9]; exact this⟩
   have HL1 : Aside0 ((([] : List S67).length + i) * 40 ≤ 140737488355328) := ⟨by rw [List.length_nil]; have := HL.out; have := HDL.out; omega⟩
   have HL2 : Aside0 (((D.take i).length + 1) * 40 ≤ 140737488355328) := ⟨by rw [List.length_take]; have := HL.out; have := HDL.out; omega⟩
   have HL3 : Aside0 (((D.take i ++ [(⟨pn, pt, pk⟩ : S67)]).length + m) * 40 ≤ 140737488355328) := ⟨by rw [List.length_append, List.length_take, List.length_singleton]; have := HL.out; have := HDL.out; omega⟩
   clear hi27 hz27
   refine start_ (n := 21) (S := fun w' => w'.cell? ⟨g, 0, none⟩ = some (.slice A D.length c) ∧ w'.cell? ⟨w.heap.size, 0, none⟩ = some (.string pn) ∧ w'.cell? ⟨w.heap.size, 1, none⟩ = some (.string pt) ∧ w'.cell? ⟨w.heap.size, 2, none⟩ = some (.int .i64 pk)) (ds := [20]) #[false, false, false, false, false, false, false, false, false, false, false, false, false, false, false, false, false, false, false, false, false] (by kernel_rfl) rfl rfl ⟨(blk_cell (((below_drew1 (Below.refl U.heap.size U)).block g HGL.out).trans HGU.out) 0).trans rfl, (blk_cell (((below_drew1 (Below.refl U.heap.size U)).block w.heap.size HPL.out).trans HPU.out) 0).trans rfl, (blk_cell (((below_drew1 (Below.refl U.heap.size U)).block w.heap.size HPL.out).trans HPU.out) 1).trans rfl, (blk_cell (((below_drew1 (Below.refl U.heap.size U)).block w.heap.size HPL.out).trans HPU.out) 2).trans rfl⟩ (fun hHeld => ?_)
   refine pure_ (i := 0) (N := some 31) (v := ?_) (a' := ?_) #[true, false, false, false, false, false, false, false, false, false, false, false, false, false, false, false, false, false, false, false, false] rfl rfl (by kernel_rfl) (fun _ _ _ h => h) (Or.inl ⟨by rfl, ?_⟩) ?_ ?_
   rotate_left
   ·intro w'
    go_simp
    with_reducible rfl
   rotate_left
   ·simp only [Act.put, List.setIfInBounds_toArray, List.set_cons_zero, List.set_cons_succ, i64_w, i32_w]
    rfl
   refine pure_ (i := 1) (N := some 32) (v := ?_) (a' := ?_) #[true, true, false, false, false, false, false, false, false, false, false, false, false, false, false, false, false, false, false, false, false] rfl rfl (by kernel_rfl) (fun _ _ _ h => h) (Or.inl ⟨by rfl, ?_⟩) ?_ ?_
   rotate_left
   ·intro w'
    go_simp
    with_reducible rfl
   rotate_left
   ·simp only [Act.put, List.setIfInBounds_toArray, List.set_cons_zero, List.set_cons_succ, i64_w, i32_w]
    rfl
   refine pure_ (i := 2) (N := some 33) (v := ?_) (a' := ?_) #[true, true, true, false, false, false, false, false, false, false, false, false, false, false, false, false, false, false, false, false, false] rfl rfl (by kernel_rfl) (fun _ _ _ h => h) (Or.inl ⟨by rfl, ?_⟩) ?_ ?_
   rotate_left
   ·intro w'
    go_simp
    with_reducible rfl
   rotate_left
   ·simp only [Act.put, List.setIfInBounds_toArray, List.set_cons_zero, List.set_cons_succ, i64_w, i32_w]
    rfl
   refine pure_ (i := 3) (N := some 34) (v := ?_) (a' := ?_) #[true, true, true, true, false, false, false, false, false, false, false, false, false, false, false, false, false, false, false, false, false] rfl rfl (by kernel_rfl) (fun _ _ _ h => h) (Or.inl ⟨by rfl, ?_⟩) ?_ ?_
   rotate_left
   ·intro w'
    go_simp
    with_reducible rfl
   rotate_left
   ·simp only [Act.put, List.setIfInBounds_toArray, List.set_cons_zero, List.set_cons_succ, i64_w, i32_w]
    rfl
   refine pure_ (i := 5) (N := some 36) (v := ?_) (a' := ?_) #[true, true, true, true, false, true, false, false, false, false, false, false, false, false, false, false, false, false, false, false, false] rfl rfl (by kernel_rfl) (fun _ _ _ h => h) (Or.inl ⟨by rfl, ?_⟩) ?_ ?_
   rotate_left
   ·intro w'
    go_simp
    with_reducible rfl
   rotate_left
   ·simp only [Act.put, List.setIfInBounds_toArray, List.set_cons_zero, List.set_cons_succ, i64_w, i32_w]
    rfl
   refine pure_ (i := 11) (N := some 42) (v := ?_) (a' := ?_) #[true, true, true, true, false, true, false, false, false, false, false, true, false, false, false, false, false, false, false, false, false] rfl rfl (by kernel_rfl) (fun _ _ _ h => h) (Or.inl ⟨by rfl, ?_⟩) ?_ ?_
   rotate_left
   ·intro w'
    go_simp
    with_reducible rfl
   rotate_left
   ·simp only [Act.put, List.setIfInBounds_toArray, List.set_cons_zero, List.set_cons_succ, i64_w, i32_w]
    rfl
   refine pure_ (i := 12) (N := some 43) (v := ?_) (a' := ?_) #[true, true, true, true, false, true, false, false, false, false, false, true, true, false, false, false, false, false, false, false, false] rfl rfl (by kernel_rfl) (fun _ _ _ h => h) (Or.inl ⟨by rfl, ?_⟩) ?_ ?_
   rotate_left
   ·intro w'
    go_simp
    with_reducible rfl
   rotate_left
   ·simp only [Act.put, List.setIfInBounds_toArray, List.set_cons_zero, List.set_cons_succ, i64_w, i32_w]
    rfl
   refine pure_ (i := 13) (N := some 44) (v := ?_) (a' := ?_) #[true, true, true, true, false, true, false, false, false, false, false, true, true, true, false, false, false, false, false, false, false] rfl rfl (by kernel_rfl) (fun _ _ _ h => h) (Or.inl ⟨by rfl, ?_⟩) ?_ ?_
   rotate_left
   ·intro w'
    go_simp
    with_reducible rfl
   rotate_left
   ·simp only [Act.put, List.setIfInBounds_toArray, List.set_cons_zero, List.set_cons_succ, i64_w, i32_w]
    rfl
   refine pure_ (i := 15) (N := some 46) (v := ?_) (a' := ?_) #[true, true, true, true, false, true, false, false, false, false, false, true, true, true, false, true, false, false, false, false, false] rfl rfl (by kernel_rfl) (fun _ _ _ h => h) (Or.inl ⟨by rfl, ?_⟩) ?_ ?_
   rotate_left
   ·intro w'
    go_simp
    with_reducible rfl
   rotate_left
   ·simp only [Act.put, List.setIfInBounds_toArray, List.set_cons_zero, List.set_cons_succ, i64_w, i32_w]
    rfl
   refine take_ (i := 4) (N := some 35) (v := ?_) (a' := ?_) #[true, true, true, true, true, true, false, false, false, false, false, true, true, true, false, true, false, false, false, false, false] rfl rfl (by kernel_rfl) (fun _ _ _ h => h) (Or.inl ⟨by rfl, ?_⟩) hHeld ?_ ?_
   rotate_left
   ·rintro w' ⟨s0, s1, s2, s3⟩
    go_simp
    with_reducible rfl
   rotate_left
   ·simp only [Act.put, List.setIfInBounds_toArray, List.set_cons_zero, List.set_cons_succ, i64_w, i32_w]
    rfl
   refine pure_ (i := 6) (N := some 37) (v := ?_) (a' := ?_) #[true, true, true, true, true, true, true, false, false, false, false, true, true, true, false, true, false, false, false, false, false] rfl rfl (by kernel_rfl) (fun _ _ _ h => h) (Or.inl ⟨by rfl, ?_⟩) ?_ ?_
   rotate_left
   ·intro w'
    go_simp
    with_reducible rfl
   rotate_left
   ·simp only [Act.put, List.setIfInBounds_toArray, List.set_cons_zero, List.set_cons_succ, i64_w, i32_w]
    rfl
   refine take_ (i := 8) (N := some 39) (v := ?_) (a' := ?_) #[true, true, true, true, true, true, true, false, true, false, false, true, true, true, false, true, false, false, false, false, false] rfl rfl (by kernel_rfl) (fun _ _ _ h => h) (Or.inl ⟨by rfl, ?_⟩) hHeld ?_ ?_
   rotate_left
   ·rintro w' ⟨s0, s1, s2, s3⟩
    go_simp
    with_reducible rfl
   rotate_left
   ·simp only [Act.put, List.setIfInBounds_toArray, List.set_cons_zero, List.set_cons_succ, i64_w, i32_w]
    rfl
   refine take_ (i := 14) (N := some 45) (v := ?_) (a' := ?_) #[true, true, true, true, true, true, true, false, true, false, false, true, true, true, true, true, false, false, false, false, false] rfl rfl (by kernel_rfl) (fun _ _ _ h => h) (Or.inl ⟨by rfl, ?_⟩) hHeld ?_ ?_
   rotate_left
   ·rintro w' ⟨s0, s1, s2, s3⟩
    go_simp
    with_reducible rfl
   rotate_left
   ·simp only [Act.put, List.setIfInBounds_toArray, List.set_cons_zero, List.set_cons_succ, i64_w, i32_w]
    rfl
   refine pure_ (i := 16) (N := some 47) (v := ?_) (a' := ?_) #[true, true, true, true, true, true, true, false, true, false, false, true, true, true, true, true, true, false, false, false, false] rfl rfl (by kernel_rfl) (fun _ _ _ h => h) (Or.inl ⟨by rfl, ?_⟩) ?_ ?_
   rotate_left
   ·intro w'
    go_simp
    with_reducible rfl
   rotate_left
   ·simp only [Act.put, List.setIfInBounds_toArray, List.set_cons_zero, List.set_cons_succ, i64_w, i32_w]
    rfl
   refine join_ (σ := Value × Nat) 5 #[true, true, true, true, true, true, true, true, true, true, false, true, true, true, true, true, true, false, false, false, false] (fun s => [(38, s.1), (40, .slice (some ⟨s.2, 0, none⟩) 1 1)]) (fun s w' => Below U.heap.size U w' ∧ Kd.R k67 67 w' U.heap.size (fun k => k ≠ s.2) s.1 (D.take i) ∧ w'.heap[s.2]? = some (.cells #[.string pn, .string pt, .int .i64 pk] 67 (0, 0))) ?_ ?_
   rotate_left
   ·intro hCont
    refine two_ (i := 7) (j := 9) (Ni := some 38) (Nj := some 40) #[true, true, true, true, true, true, true, true, true, false, false, true, true, true, true, true, true, false, false, false, false] #[true, true, true, true, true, true, true, false, true, true, false, true, true, true, true, true, true, false, false, false, false] rfl rfl rfl rfl (by kernel_rfl) (by decide) (by decide) (fun K hK => ?_) (fun K hK => ?_)
    ·skip
     refine Kd.R_append_rows_step k67 (Rr := k67.K U.drew) (w0 := U) (W := U.drew) U.heap.size (by rfl) (.const (.slice none 0 0)) (.tmp 37) 27 67 (.agg #[(.string ⟨#[]⟩), (.string ⟨#[]⟩), (.int .i64 0)]) 40 rfl Try.underlying27 info67 rfl (by decide) (by omega) (.slice none 0 0) [] (D.take i) A i c (fun _ => True) (fun _ => False) rfl rfl ?aO ?aR (fun x cs hk => by rw [k67_open hk]; exact k67_mkM _ _ _ x) (fun _ hk => hk.elim) (fun _ _ => trivial) ?aB ?aS ?aL ?_
     case aO => exact Kd.R_nil k67 67 _ _ _
     case aR => exact Kd.C_below HC1.out (below_drew1 (Below.refl U.heap.size U))
     case aB => exact (below_drew1 (Below.refl U.heap.size U))
     case aS => exact ((below_drew1 (Below.refl U.heap.size U))).size
     case aL => exact HL1.out
     intro v1 w2 ho1 hb1 hg1 hat1
     rw [List.nil_append] at ho1
     refine hK.out _ _ ⟨(blk_cell ((hb1.block g HGL.out).trans HGU.out) 0).trans rfl, (blk_cell ((hb1.block w.heap.size HPL.out).trans HPU.out) 0).trans rfl, (blk_cell ((hb1.block w.heap.size HPL.out).trans HPU.out) 1).trans rfl, (blk_cell ((hb1.block w.heap.size HPL.out).trans HPU.out) 2).trans rfl⟩ (fun hHeld => ?_)
     clear hK K
     refine norm_ (a' := ?_) ?_ ?_
     rotate_left
     ·show Act.put _ (some 38) _ = _
      simp only [Act.put, List.setIfInBounds_toArray, List.set_cons_zero, List.set_cons_succ, i64_w, i32_w]
      rfl
     refine one_ (i := 9) (N := some 40) #[true, true, true, true, true, true, true, true, true, true, false, true, true, true, true, true, true, false, false, false, false] rfl rfl (by kernel_rfl) (by decide) (fun K hK => ?_)
     refine value_ (w1 := ?_) (v := ?_) (by rfl) rfl ?_ ?_
     rotate_left 2
     ·go_simp
      constructor
      ·rfl
      ·rfl
     refine hK.out _ _ ⟨(blk_cell (((show Below U.heap.size U (w2.alloc (.cells #[.string pn, .string pt, .int .i64 pk] 67)) from hb1.alloc hb1.size _).block g HGL.out).trans HGU.out) 0).trans rfl, (blk_cell (((show Below U.heap.size U (w2.alloc (.cells #[.string pn, .string pt, .int .i64 pk] 67)) from hb1.alloc hb1.size _).block w.heap.size HPL.out).trans HPU.out) 0).trans rfl, (blk_cell (((show Below U.heap.size U (w2.alloc (.cells #[.string pn, .string pt, .int .i64 pk] 67)) from hb1.alloc hb1.size _).block w.heap.size HPL.out).trans HPU.out) 1).trans rfl, (blk_cell (((show Below U.heap.size U (w2.alloc (.cells #[.string pn, .string pt, .int .i64 pk] 67)) from hb1.alloc hb1.size _).block w.heap.size HPL.out).trans HPU.out) 2).trans rfl⟩ (fun hHeld => ?_)
     clear hK K
     refine norm_ (a' := ?_) ?_ ?_
     rotate_left
     ·show Act.put _ (some 40) _ = _
      simp only [Act.put, List.setIfInBounds_toArray, List.set_cons_zero, List.set_cons_succ, i64_w, i32_w]
      rfl
     exact norm_ (by simp only [putAll, Act.put, List.setIfInBounds_toArray, List.set_cons_zero, List.set_cons_succ]) (hCont (v1, w2.heap.size) _ ⟨(show Below U.heap.size U (w2.alloc (.cells #[.string pn, .string pt, .int .i64 pk] 67)) from hb1.alloc hb1.size _), Kd.R_mono (Kd.R_alloc (Kd.R_bound ho1) _) (fun k hk => Nat.ne_of_lt hk.2.2.1), blk_new _ _⟩)
    ·skip
     refine value_ (w1 := ?_) (v := ?_) (by rfl) rfl ?_ ?_
     rotate_left 2
     ·go_simp
      constructor
      ·rfl
      ·rfl
     refine hK.out _ _ ⟨(blk_cell (((show Below U.heap.size U (U.alloc (.cells #[.string pn, .string pt, .int .i64 pk] 67)).drew from below_drew1 (below_alloc (Below.refl U.heap.size U) _)).block g HGL.out).trans HGU.out) 0).trans rfl, (blk_cell (((show Below U.heap.size U (U.alloc (.cells #[.string pn, .string pt, .int .i64 pk] 67)).drew from below_drew1 (below_alloc (Below.refl U.heap.size U) _)).block w.heap.size HPL.out).trans HPU.out) 0).trans rfl, (blk_cell (((show Below U.heap.size U (U.alloc (.cells #[.string pn, .string pt, .int .i64 pk] 67)).drew from below_drew1 (below_alloc (Below.refl U.heap.size U) _)).block w.heap.size HPL.out).trans HPU.out) 1).trans rfl, (blk_cell (((show Below U.heap.size U (U.alloc (.cells #[.string pn, .string pt, .int .i64 pk] 67)).drew from below_drew1 (below_alloc (Below.refl U.heap.size U) _)).block w.heap.size HPL.out).trans HPU.out) 2).trans rfl⟩ (fun hHeld => ?_)
     clear hK K
     refine norm_ (a' := ?_) ?_ ?_
     rotate_left
     ·show Act.put _ (some 40) _ = _
      simp only [Act.put, List.setIfInBounds_toArray, List.set_cons_zero, List.set_cons_succ, i64_w, i32_w]
      rfl
     refine one_ (i := 7) (N := some 38) #[true, true, true, true, true, true, true, true, true, true, false, true, true, true, true, true, true, false, false, false, false] rfl rfl (by kernel_rfl) (by decide) (fun K hK => ?_)
     refine Kd.R_append_rows_step k67 (Rr := k67.K (U.alloc (.cells #[.string pn, .string pt, .int .i64 pk] 67)).drew) (w0 := U) (W := (U.alloc (.cells #[.string pn, .string pt, .int .i64 pk] 67)).drew) U.heap.size (by rfl) (.const (.slice none 0 0)) (.tmp 37) 27 67 (.agg #[(.string ⟨#[]⟩), (.string ⟨#[]⟩), (.int .i64 0)]) 40 rfl Try.underlying27 info67 rfl (by decide) (by omega) (.slice none 0 0) [] (D.take i) A i c (fun k => k ≠ U.heap.size) (fun _ => False) rfl rfl ?aO ?aR (fun x cs hk => by rw [k67_open hk]; exact k67_mkM _ _ _ x) (fun _ hk => hk.elim) (fun k hk e_ => by have h1_ := dk_sz U (.cells #[.string pn, .string pt, .int .i64 pk] 67); have h2_ : (U.alloc (.cells #[.string pn, .string pt, .int .i64 pk] 67)).drew.heap.size = U.heap.size + 1 := h1_; omega) ?aB ?aS ?aL ?_
     case aO => exact Kd.R_nil k67 67 _ _ _
     case aR => exact Kd.C_below HC1.out (show Below U.heap.size U (U.alloc (.cells #[.string pn, .string pt, .int .i64 pk] 67)).drew from below_drew1 (below_alloc (Below.refl U.heap.size U) _))
     case aB => exact (show Below U.heap.size U (U.alloc (.cells #[.string pn, .string pt, .int .i64 pk] 67)).drew from below_drew1 (below_alloc (Below.refl U.heap.size U) _))
     case aS => exact ((show Below U.heap.size U (U.alloc (.cells #[.string pn, .string pt, .int .i64 pk] 67)).drew from below_drew1 (below_alloc (Below.refl U.heap.size U) _))).size
     case aL => exact HL1.out
     intro v1 w2 ho1 hb1 hg1 hat1
     rw [List.nil_append] at ho1
     refine hK.out _ _ ⟨(blk_cell ((hb1.block g HGL.out).trans HGU.out) 0).trans rfl, (blk_cell ((hb1.block w.heap.size HPL.out).trans HPU.out) 0).trans rfl, (blk_cell ((hb1.block w.heap.size HPL.out).trans HPU.out) 1).trans rfl, (blk_cell ((hb1.block w.heap.size HPL.out).trans HPU.out) 2).trans rfl⟩ (fun hHeld => ?_)
     clear hK K
     refine norm_ (a' := ?_) ?_ ?_
     rotate_left
     ·show Act.put _ (some 38) _ = _
      simp only [Act.put, List.setIfInBounds_toArray, List.set_cons_zero, List.set_cons_succ, i64_w, i32_w]
      rfl
     exact norm_ (by simp only [putAll, Act.put, List.setIfInBounds_toArray, List.set_cons_zero, List.set_cons_succ]) (hCont (v1, U.heap.size) _ ⟨hb1, ho1, (hg1.block U.heap.size (by have h1_ := dk_sz U (.cells #[.string pn, .string pt, .int .i64 pk] 67); have h2_ : (U.alloc (.cells #[.string pn, .string pt, .int .i64 pk] 67)).drew.heap.size = U.heap.size + 1 := h1_; omega) (by simp [Value.ownBlock])).trans (blk_drew (blk_new U (.cells #[.string pn, .string pt, .int .i64 pk] 67)))⟩)
   rintro ⟨v1, b9⟩ w5 ⟨hb5, ho5, hp9⟩
   simp only at ho5 hp9
   have hHeld : w5.cell? ⟨g, 0, none⟩ = some (.slice A D.length c) ∧ w5.cell? ⟨w.heap.size, 0, none⟩ = some (.string pn) ∧ w5.cell? ⟨w.heap.size, 1, none⟩ = some (.string pt) ∧ w5.cell? ⟨w.heap.size, 2, none⟩ = some (.int .i64 pk) := ⟨(blk_cell ((hb5.block g HGL.out).trans HGU.out) 0).trans rfl, (blk_cell ((hb5.block w.heap.size HPL.out).trans HPU.out) 0).trans rfl, (blk_cell ((hb5.block w.heap.size HPL.out).trans HPU.out) 1).trans rfl, (blk_cell ((hb5.block w.heap.size HPL.out).trans HPU.out) 2).trans rfl⟩
   refine norm_ (a' := ?_) ?_ ?_
   rotate_left
   ·simp only [putAll, Act.put, List.setIfInBounds_toArray, List.set_cons_zero, List.set_cons_succ]
    rfl
   refine one_ (i := 10) (N := some 41) #[true, true, true, true, true, true, true, true, true, true, true, true, true, true, true, true, true, false, false, false, false] rfl rfl (by kernel_rfl) (by decide) (fun K hK => ?_)
   refine Kd.R_append_rows_step k67 (Rr := k67.K w5) (w0 := U) (W := w5) U.heap.size (by rfl) (.tmp 38) (.tmp 40) 27 67 (.agg #[(.string ⟨#[]⟩), (.string ⟨#[]⟩), (.int .i64 0)]) 40 rfl Try.underlying27 info67 rfl (by decide) (by omega) v1 (D.take i) [(⟨pn, pt, pk⟩ : S67)] (some ⟨b9, 0, none⟩) 1 1 (fun k => k ≠ b9) (fun _ => False) rfl rfl ?aO ?aR (fun x cs hk => by rw [k67_open hk]; exact k67_mkM _ _ _ x) (fun _ hk => hk.elim) (fun k hk e_ => by have h1_ := blk_lt hp9; omega) ?aB ?aS ?aL ?_
   case aO => exact ho5
   case aR => exact C_one hp9
   case aB => exact hb5
   case aS => exact (hb5).size
   case aL => exact HL2.out
   intro v2 w6 ho6 hb6 hg6 hat6
   refine hK.out _ _ ⟨(blk_cell ((hb6.block g HGL.out).trans HGU.out) 0).trans rfl, (blk_cell ((hb6.block w.heap.size HPL.out).trans HPU.out) 0).trans rfl, (blk_cell ((hb6.block w.heap.size HPL.out).trans HPU.out) 1).trans rfl, (blk_cell ((hb6.block w.heap.size HPL.out).trans HPU.out) 2).trans rfl⟩ (fun hHeld => ?_)
   clear hK K
   refine norm_ (a' := ?_) ?_ ?_
   rotate_left
   ·show Act.put _ (some 41) _ = _
    simp only [Act.put, List.setIfInBounds_toArray, List.set_cons_zero, List.set_cons_succ, i64_w, i32_w]
    rfl
   refine one_ (i := 17) (N := some 48) #[true, true, true, true, true, true, true, true, true, true, true, true, true, true, true, true, true, true, false, false, false] rfl rfl (by kernel_rfl) (by decide) (fun K hK => ?_)
   refine Kd.R_append_rows_step k67 (Rr := k67.K w6) (w0 := U) (W := w6) U.heap.size (by rfl) (.tmp 41) (.tmp 47) 27 67 (.agg #[(.string ⟨#[]⟩), (.string ⟨#[]⟩), (.int .i64 0)]) 40 rfl Try.underlying27 info67 rfl (by decide) (by omega) v2 (D.take i ++ [(⟨pn, pt, pk⟩ : S67)]) (D.drop i) A9 m cm (fun k => k ≠ b9) (fun _ => False) rfl rfl ?aO ?aR (fun x cs hk => by rw [k67_open hk]; exact k67_mkM _ _ _ x) (fun _ hk => hk.elim) (fun k hk e_ => by have h1_ := blk_lt (blk_grown hp9 hg6 (Kd.R_away ho5 (fun _ h_ => h_))); omega) ?aB ?aS ?aL ?_
   case aO => exact ho6
   case aR => exact Kd.C_below HC2.out hb6
   case aB => exact hb6
   case aS => exact (hb6).size
   case aL => exact HL3.out
   intro v3 w7 ho7 hb7 hg7 hat7
   obtain ⟨o2, ho2e⟩ : ∃ o2, D.take i ++ [(⟨pn, pt, pk⟩ : S67)] ++ D.drop i = o2 := ⟨_, rfl⟩
   rw [ho2e] at ho7
   obtain ⟨A7, c7, hv3⟩ := Kd.R_slice ho7
   subst hv3
   refine hK.out _ _ ⟨(blk_cell ((hb7.block g HGL.out).trans HGU.out) 0).trans rfl, (blk_cell ((hb7.block w.heap.size HPL.out).trans HPU.out) 0).trans rfl, (blk_cell ((hb7.block w.heap.size HPL.out).trans HPU.out) 1).trans rfl, (blk_cell ((hb7.block w.heap.size HPL.out).trans HPU.out) 2).trans rfl⟩ (fun hHeld => ?_)
   clear hK K
   refine norm_ (a' := ?_) ?_ ?_
   rotate_left
   ·show Act.put _ (some 48) _ = _
    simp only [Act.put, List.setIfInBounds_toArray, List.set_cons_zero, List.set_cons_succ, i64_w, i32_w]
    rfl
   refine pure_ (i := 18) (N := some 49) (v := ?_) (a' := ?_) #[true, true, true, true, true, true, true, true, true, true, true, true, true, true, true, true, true, true, true, false, false] rfl rfl (by kernel_rfl) (fun _ _ _ h => h) (Or.inl ⟨by rfl, ?_⟩) ?_ ?_
   rotate_left
   ·intro w'
    go_simp
    with_reducible rfl
   rotate_left
   ·simp only [Act.put, List.setIfInBounds_toArray, List.set_cons_zero, List.set_cons_succ, i64_w, i32_w]
    rfl
   refine pure_ (i := 19) (N := some 50) (v := ?_) (a' := ?_) #[true, true, true, true, true, true, true, true, true, true, true, true, true, true, true, true, true, true, true, true, false] rfl rfl (by kernel_rfl) (fun _ _ _ h => h) (Or.inl ⟨by rfl, ?_⟩) ?_ ?_
   rotate_left
   ·intro w'
    go_simp
    with_reducible rfl
   rotate_left
   ·simp only [Act.put, List.setIfInBounds_toArray, List.set_cons_zero, List.set_cons_succ, i64_w, i32_w]
    rfl
   refine last_ (i := 20) (N := none) #[true, true, true, true, true, true, true, true, true, true, true, true, true, true, true, true, true, true, true, true, true] rfl rfl (by kernel_rfl) (by decide) (fun K hK => ?_)
   have hs9 := (blk_cell ((hb7.block g HGL.out).trans HGU.out) 0).trans rfl
   have hf9 := blk_frozen ((hb7.block g HGL.out).trans HGU.out) 0
   refine skip_ (w1 := ?_) (by rfl) rfl ?_ ?_
   rotate_left
   ·go_simp
    rfl
   refine hK.out _ _ ?_
   clear hK K
   refine done_ (by kernel_rfl) ?_
   go_wp2
   go_end0
   rw [HINS.out, ho2e]
   have hgw := (hb7.block g HGL.out).trans HGU.out
   exact ⟨rfl, _, ⟨blk_put hgw 0 _ rfl, Kd.R_mono (Kd.R_set (Kd.R_lower ho7 HBU.out) hgw (by decide) 0 _) (fun _ _ => trivial)⟩, grown_then HGR.out hb7⟩
  | succ kk =>
   have hlt : (i : Int) < (D.length : Int) := by omega
   have hlt2 : decide ((i : Int) < (D.length : Int)) = true := decide_eq_true hlt
   have hi0 : (0 : Int) ≤ (i : Int) := Int.natCast_nonneg i
   have hin : i < D.length := by omega
   obtain ⟨ad, ea, hx0, hx1, hx2⟩ := dk_row (Kd.C_below HCD.out HB1.out) i hin
   subst ea
   have HI := Aside0.mk hi
   have hwi : wrap64 ((i : Int) + 1) = ((i + 1 : Nat) : Int) := by have := HL.out; have := HDL.out; unfold wrap64; omega
   have HWI := Aside0.mk hwi
   have hp0 := eq_true hi0
   have hq0 := eq_true hlt
   cases hb : Op.bytesLess (D.getD i z67).f0.toList pn.toList with
   | true =>
    have HT2 := Aside0.mk (show ∀ t, t < i + 1 → Op.bytesLess (D.getD t z67).f0.toList pn.toList = true from fun t ht => by
     rcases Nat.lt_or_ge t i with h_ | h_
     ·exact HT.out t h_
     ·have : t = i := by omega
      subst this
      exact hb)
    generalize (D.getD i z67).f0 = fn at hx0 hb
    clear hi hx1 hx2
    go_wp2
    go_quiet (fail)
    go_wp2
    go_roundg kk
    case measure => have := HI.out; omega
    case rel => exact ⟨i + 1, by have := HI.out; omega, by first | rfl | (rw [HWI.out]), HT2, ⟨by repeat (first | exact HB1.out | refine pw_below_drewN ?_ _ | refine below_drew1 ?_)⟩⟩
   | false =>
    have HINS := Aside0.mk (insD_at ⟨pn, pt, pk⟩ D i (by omega) HT.out (fun h_ => hb))
    have hi9 : i ≤ D.length := by omega
    generalize (D.getD i z67).f0 = fn at hx0 hb
    clear hi hx1 hx2
    go_wp2
    go_quiet (fail)
    go_wp2
    obtain ⟨U, hU⟩ : ∃ U, wr.drewN nq = U := ⟨_, rfl⟩
    rw [hU]
    have HB2 := Aside0.mk (show Below w1.heap.size w1 U from hU ▸ pw_below_drewN HB1.out _)
    have HGU := Aside0.mk (blk_below HPT1.out.1 HB2.out)
    have HPU := Aside0.mk (blk_below HPB.out HB2.out)
    have HGL := Aside0.mk (blk_lt HGU.out)
    have HPL := Aside0.mk (blk_lt HPU.out)
    have HCU := Aside0.mk (Kd.C_below HCD.out HB2.out)
    have HGR2 := Aside0.mk HGR.out
    have HBU := Aside0.mk (show B ≤ U.heap.size by have h1_ := HB2.out.size; have h2_ := HGR.out.size; have h3_ := HBB.out; omega)
    have hgr3 : w.grownBy U (some g) := ⟨HB2.out.os.trans HGR.out.os, HB2.out.tape.trans HGR.out.tape, HB2.out.output.trans HGR.out.output, Nat.le_trans HGR.out.size HB2.out.size, fun i_ hi_ hne_ => (HB2.out.block i_ (Nat.lt_of_lt_of_le hi_ HGR.out.size)).trans (HGR.out.block i_ hi_ hne_)⟩
    clear HGR HGR2 hcg hcp hU hlt hlt2 HPT1 HCD HB1 HB2 HT HGr HPr hp0 hq0 hb hx0
    have HGR := Aside0.mk hgr3
    clear hgr3
    have hi0 : (0 : Int) ≤ (i : Int) := Int.natCast_nonneg i
    have hi4 : (i : Int) ≤ (D.length : Int) := by omega
    have hi5 : ((i : Int)).toNat = i := Int.toNat_natCast i
    obtain ⟨i27, hi27, -⟩ := Option.map_eq_some_iff.1 info67
    have hz27 : i27.size = 3 := by have := size67; rw [hi27] at this; simpa using this
    have hcut1 := cut_to (P := Try.prog) 27 67 .i64 Try.underlying27 hi27 (some ad) D.length c (i : Int) hi0 hi4 HCC.out
    rw [Int.toNat_natCast] at hcut1
    have hcut2 := cut_from (P := Try.prog) 27 67 .i64 Try.underlying27 hi27 3 hz27 (some ad) D.length c (i : Int) hi0 hi4
    rw [Int.toNat_natCast] at hcut2
    obtain ⟨A9, hA9⟩ : ∃ A9, (if c = i then (some ad) else (some ad : Option Addr).map (·.add (i * 3))) = A9 := ⟨_, rfl⟩
    rw [hA9] at hcut2
    obtain ⟨m, hm⟩ : ∃ m, D.length - i = m := ⟨_, rfl⟩
    obtain ⟨cm, hcm⟩ : ∃ cm, c - i = cm := ⟨_, rfl⟩
    rw [hm, hcm] at hcut2
    have HC1 : Aside0 (Kd.C k67 U (some ad) i (D.take i)) := ⟨by have := Kd.C_take HCU.out (m := i) hi9; rwa [List.length_take, Nat.min_eq_left hi9] at this⟩
    have HC2 : Aside0 (Kd.C k67 U A9 m (D.drop i)) := ⟨by have := Kd.C_drop HCU.out (m := i) hi9 HCC.out; rw [List.length_drop, hm] at this; rw [← hA9]; exact this⟩
    have HL1 : Aside0 ((([] : List S67).length + i) * 40 ≤ 140737488355328) := ⟨by rw [List.length_nil]; have := HL.out; have := HDL.out; omega⟩
    have HL2 : Aside0 (((D.take i).length + 1) * 40 ≤ 140737488355328) := ⟨by rw [List.length_take]; have := HL.out; have := HDL.out; omega⟩
    have HL3 : Aside0 (((D.take i ++ [(⟨pn, pt, pk⟩ : S67)]).length + m) * 40 ≤ 140737488355328) := ⟨by rw [List.length_append, List.length_take, List.length_singleton]; have := HL.out; have := HDL.out; omega⟩
    clear hi27 hz27
    refine start_ (n := 21) (S := fun w' => w'.cell? ⟨g, 0, none⟩ = some (.slice (some ad) D.length c) ∧ w'.cell? ⟨w.heap.size, 0, none⟩ = some (.string pn) ∧ w'.cell? ⟨w.heap.size, 1, none⟩ = some (.string pt) ∧ w'.cell? ⟨w.heap.size, 2, none⟩ = some (.int .i64 pk)) (ds := [20]) #[false, false, false, false, false, false, false, false, false, false, false, false, false, false, false, false, false, false, false, false, false] (by kernel_rfl) rfl rfl ⟨(blk_cell (((below_drew1 (Below.refl U.heap.size U)).block g HGL.out).trans HGU.out) 0).trans rfl, (blk_cell (((below_drew1 (Below.refl U.heap.size U)).block w.heap.size HPL.out).trans HPU.out) 0).trans rfl, (blk_cell (((below_drew1 (Below.refl U.heap.size U)).block w.heap.size HPL.out).trans HPU.out) 1).trans rfl, (blk_cell (((below_drew1 (Below.refl U.heap.size U)).block w.heap.size HPL.out).trans HPU.out) 2).trans rfl⟩ (fun hHeld => ?_)
    refine pure_ (i := 0) (N := some 31) (v := ?_) (a' := ?_) #[true, false, false, false, false, false, false, false, false, false, false, false, false, false, false, false, false, false, false, false, false] rfl rfl (by kernel_rfl) (fun _ _ _ h => h) (Or.inl ⟨by rfl, ?_⟩) ?_ ?_
    rotate_left
    ·intro w'
     go_simp
     with_reducible rfl
    rotate_left
    ·simp only [Act.put, List.setIfInBounds_toArray, List.set_cons_zero, List.set_cons_succ, i64_w, i32_w]
     rfl
    refine pure_ (i := 1) (N := some 32) (v := ?_) (a' := ?_) #[true, true, false, false, false, false, false, false, false, false, false, false, false, false, false, false, false, false, false, false, false] rfl rfl (by kernel_rfl) (fun _ _ _ h => h) (Or.inl ⟨by rfl, ?_⟩) ?_ ?_
    rotate_left
    ·intro w'
     go_simp
     with_reducible rfl
    rotate_left
    ·simp only [Act.put, List.setIfInBounds_toArray, List.set_cons_zero, List.set_cons_succ, i64_w, i32_w]
     rfl
    refine pure_ (i := 2) (N := some 33) (v := ?_) (a' := ?_) #[true, true, true, false, false, false, false, false, false, false, false, false, false, false, false, false, false, false, false, false, false] rfl rfl (by kernel_rfl) (fun _ _ _ h => h) (Or.inl ⟨by rfl, ?_⟩) ?_ ?_
    rotate_left
    ·intro w'
     go_simp
     with_reducible rfl
    rotate_left
    ·simp only [Act.put, List.setIfInBounds_toArray, List.set_cons_zero, List.set_cons_succ, i64_w, i32_w]
     rfl
    refine pure_ (i := 3) (N := some 34) (v := ?_) (a' := ?_) #[true, true, true, true, false, false, false, false, false, false, false, false, false, false, false, false, false, false, false, false, false] rfl rfl (by kernel_rfl) (fun _ _ _ h => h) (Or.inl ⟨by rfl, ?_⟩) ?_ ?_
    rotate_left
    ·intro w'
     go_simp
     with_reducible rfl
    rotate_left
    ·simp only [Act.put, List.setIfInBounds_toArray, List.set_cons_zero, List.set_cons_succ, i64_w, i32_w]
     rfl
    refine pure_ (i := 5) (N := some 36) (v := ?_) (a' := ?_) #[true, true, true, true, false, true, false, false, false, false, false, false, false, false, false, false, false, false, false, false, false] rfl rfl (by kernel_rfl) (fun _ _ _ h => h) (Or.inl ⟨by rfl, ?_⟩) ?_ ?_
    rotate_left
    ·intro w'
     go_simp
     with_reducible rfl
    rotate_left
    ·simp only [Act.put, List.setIfInBounds_toArray, List.set_cons_zero, List.set_cons_succ, i64_w, i32_w]
     rfl
    refine pure_ (i := 11) (N := some 42) (v := ?_) (a' := ?_) #[true, true, true, true, false, true, false, false, false, false, false, true, false, false, false, false, false, false, false, false, false] rfl rfl (by kernel_rfl) (fun _ _ _ h => h) (Or.inl ⟨by rfl, ?_⟩) ?_ ?_
    rotate_left
    ·intro w'
     go_simp
     with_reducible rfl
    rotate_left
    ·simp only [Act.put, List.setIfInBounds_toArray, List.set_cons_zero, List.set_cons_succ, i64_w, i32_w]
     rfl
    refine pure_ (i := 12) (N := some 43) (v := ?_) (a' := ?_) #[true, true, true, true, false, true, false, false, false, false, false, true, true, false, false, false, false, false, false, false, false] rfl rfl (by kernel_rfl) (fun _ _ _ h => h) (Or.inl ⟨by rfl, ?_⟩) ?_ ?_
    rotate_left
    ·intro w'
     go_simp
     with_reducible rfl
    rotate_left
    ·simp only [Act.put, List.setIfInBounds_toArray, List.set_cons_zero, List.set_cons_succ, i64_w, i32_w]
     rfl
    refine pure_ (i := 13) (N := some 44) (v := ?_) (a' := ?_) #[true, true, true, true, false, true, false, false, false, false, false, true, true, true, false, false, false, false, false, false, false] rfl rfl (by kernel_rfl) (fun _ _ _ h => h) (Or.inl ⟨by rfl, ?_⟩) ?_ ?_
    rotate_left
    ·intro w'
     go_simp
     with_reducible rfl
    rotate_left
    ·simp only [Act.put, List.setIfInBounds_toArray, List.set_cons_zero, List.set_cons_succ, i64_w, i32_w]
     rfl
    refine pure_ (i := 15) (N := some 46) (v := ?_) (a' := ?_) #[true, true, true, true, false, true, false, false, false, false, false, true, true, true, false, true, false, false, false, false, false] rfl rfl (by kernel_rfl) (fun _ _ _ h => h) (Or.inl ⟨by rfl, ?_⟩) ?_ ?_
    rotate_left
    ·intro w'
     go_simp
     with_reducible rfl
    rotate_left
    ·simp only [Act.put, List.setIfInBounds_toArray, List.set_cons_zero, List.set_cons_succ, i64_w, i32_w]
     rfl
    refine take_ (i := 4) (N := some 35) (v := ?_) (a' := ?_) #[true, true, true, true, true, true, false, false, false, false, false, true, true, true, false, true, false, false, false, false, false] rfl rfl (by kernel_rfl) (fun _ _ _ h => h) (Or.inl ⟨by rfl, ?_⟩) hHeld ?_ ?_
    rotate_left
    ·rintro w' ⟨s0, s1, s2, s3⟩
     go_simp
     with_reducible rfl
    rotate_left
    ·simp only [Act.put, List.setIfInBounds_toArray, List.set_cons_zero, List.set_cons_succ, i64_w, i32_w]
     rfl
    refine pure_ (i := 6) (N := some 37) (v := ?_) (a' := ?_) #[true, true, true, true, true, true, true, false, false, false, false, true, true, true, false, true, false, false, false, false, false] rfl rfl (by kernel_rfl) (fun _ _ _ h => h) (Or.inl ⟨by rfl, ?_⟩) ?_ ?_
    rotate_left
    ·intro w'
     go_simp
     with_reducible rfl
    rotate_left
    ·simp only [Act.put, List.setIfInBounds_toArray, List.set_cons_zero, List.set_cons_succ, i64_w, i32_w]
     rfl
    refine take_ (i := 8) (N := some 39) (v := ?_) (a' := ?_) #[true, true, true, true, true, true, true, false, true, false, false, true, true, true, false, true, false, false, false, false, false] rfl rfl (by kernel_rfl) (fun _ _ _ h => h) (Or.inl ⟨by rfl, ?_⟩) hHeld ?_ ?_
    rotate_left
    ·rintro w' ⟨s0, s1, s2, s3⟩
     go_simp
     with_reducible rfl
    rotate_left
    ·simp only [Act.put, List.setIfInBounds_toArray, List.set_cons_zero, List.set_cons_succ, i64_w, i32_w]
     rfl
    refine take_ (i := 14) (N := some 45) (v := ?_) (a' := ?_) #[true, true, true, true, true, true, true, false, true, false, false, true, true, true, true, true, false, false, false, false, false] rfl rfl (by kernel_rfl) (fun _ _ _ h => h) (Or.inl ⟨by rfl, ?_⟩) hHeld ?_ ?_
    rotate_left
    ·rintro w' ⟨s0, s1, s2, s3⟩
     go_simp
     with_reducible rfl
    rotate_left
    ·simp only [Act.put, List.setIfInBounds_toArray, List.set_cons_zero, List.set_cons_succ, i64_w, i32_w]
     rfl
    refine pure_ (i := 16) (N := some 47) (v := ?_) (a' := ?_) #[true, true, true, true, true, true, true, false, true, false, false, true, true, true, true, true, true, false, false, false, false] rfl rfl (by kernel_rfl) (fun _ _ _ h => h) (Or.inl ⟨by rfl, ?_⟩) ?_ ?_
    rotate_left
    ·intro w'
     go_simp
     with_reducible rfl
    rotate_left
    ·simp only [Act.put, List.setIfInBounds_toArray, List.set_cons_zero, List.set_cons_succ, i64_w, i32_w]
     rfl
    refine join_ (σ := Value × Nat) 5 #[true, true, true, true, true, true, true, true, true, true, false, true, true, true, true, true, true, false, false, false, false] (fun s => [(38, s.1), (40, .slice (some ⟨s.2, 0, none⟩) 1 1)]) (fun s w' => Below U.heap.size U w' ∧ Kd.R k67 67 w' U.heap.size (fun k => k ≠ s.2) s.1 (D.take i) ∧ w'.heap[s.2]? = some (.cells #[.string pn, .string pt, .int .i64 pk] 67 (0, 0))) ?_ ?_
    rotate_left
    ·intro hCont
     refine two_ (i := 7) (j := 9) (Ni := some 38) (Nj := some 40) #[true, true, true, true, true, true, true, true, true, false, false, true, true, true, true, true, true, false, false, false, false] #[true, true, true, true, true, true, true, false, true, true, false, true, true, true, true, true, true, false, false, false, false] rfl rfl rfl rfl (by kernel_rfl) (by decide) (by decide) (fun K hK => ?_) (fun K hK => ?_)
     ·skip
      refine Kd.R_append_rows_step k67 (Rr := k67.K U.drew) (w0 := U) (W := U.drew) U.heap.size (by rfl) (.const (.slice none 0 0)) (.tmp 37) 27 67 (.agg #[(.string ⟨#[]⟩), (.string ⟨#[]⟩), (.int .i64 0)]) 40 rfl Try.underlying27 info67 rfl (by decide) (by omega) (.slice none 0 0) [] (D.take i) (some ad) i c (fun _ => True) (fun _ => False) rfl rfl ?aO ?aR (fun x cs hk => by rw [k67_open hk]; exact k67_mkM _ _ _ x) (fun _ hk => hk.elim) (fun _ _ => trivial) ?aB ?aS ?aL ?_
      case aO => exact Kd.R_nil k67 67 _ _ _
      case aR => exact Kd.C_below HC1.out (below_drew1 (Below.refl U.heap.size U))
      case aB => exact (below_drew1 (Below.refl U.heap.size U))
      case aS => exact ((below_drew1 (Below.refl U.heap.size U))).size
      case aL => exact HL1.out
      intro v1 w2 ho1 hb1 hg1 hat1
      rw [List.nil_append] at ho1
      refine hK.out _ _ ⟨(blk_cell ((hb1.block g HGL.out).trans HGU.out) 0).trans rfl, (blk_cell ((hb1.block w.heap.size HPL.out).trans HPU.out) 0).trans rfl, (blk_cell ((hb1.block w.heap.size HPL.out).trans HPU.out) 1).trans rfl, (blk_cell ((hb1.block w.heap.size HPL.out).trans HPU.out) 2).trans rfl⟩ (fun hHeld => ?_)
      clear hK K
      refine norm_ (a' := ?_) ?_ ?_
      rotate_left
      ·show Act.put _ (some 38) _ = _
       simp only [Act.put, List.setIfInBounds_toArray, List.set_cons_zero, List.set_cons_succ, i64_w, i32_w]
       rfl
      refine one_ (i := 9) (N := some 40) #[true, true, true, true, true, true, true, true, true, true, false, true, true, true, true, true, true, false, false, false, false] rfl rfl (by kernel_rfl) (by decide) (fun K hK => ?_)
      refine value_ (w1 := ?_) (v := ?_) (by rfl) rfl ?_ ?_
      rotate_left 2
      ·go_simp
       constructor
       ·rfl
       ·rfl
      refine hK.out _ _ ⟨(blk_cell (((show Below U.heap.size U (w2.alloc (.cells #[.string pn, .string pt, .int .i64 pk] 67)) from hb1.alloc hb1.size _).block g HGL.out).trans HGU.out) 0).trans rfl, (blk_cell (((show Below U.heap.size U (w2.alloc (.cells #[.string pn, .string pt, .int .i64 pk] 67)) from hb1.alloc hb1.size _).block w.heap.size HPL.out).trans HPU.out) 0).trans rfl, (blk_cell (((show Below U.heap.size U (w2.alloc (.cells #[.string pn, .string pt, .int .i64 pk] 67)) from hb1.alloc hb1.size _).block w.heap.size HPL.out).trans HPU.out) 1).trans rfl, (blk_cell (((show Below U.heap.size U (w2.alloc (.cells #[.string pn, .string pt, .int .i64 pk] 67)) from hb1.alloc hb1.size _).block w.heap.size HPL.out).trans HPU.out) 2).trans rfl⟩ (fun hHeld => ?_)
      clear hK K
      refine norm_ (a' := ?_) ?_ ?_
      rotate_left
      ·show Act.put _ (some 40) _ = _
       simp only [Act.put, List.setIfInBounds_toArray, List.set_cons_zero, List.set_cons_succ, i64_w, i32_w]
       rfl
      exact norm_ (by simp only [putAll, Act.put, List.setIfInBounds_toArray, List.set_cons_zero, List.set_cons_succ]) (hCont (v1, w2.heap.size) _ ⟨(show Below U.heap.size U (w2.alloc (.cells #[.string pn, .string pt, .int .i64 pk] 67)) from hb1.alloc hb1.size _), Kd.R_mono (Kd.R_alloc (Kd.R_bound ho1) _) (fun k hk => Nat.ne_of_lt hk.2.2.1), blk_new _ _⟩)
     ·skip
      refine value_ (w1 := ?_) (v := ?_) (by rfl) rfl ?_ ?_
      rotate_left 2
      ·go_simp
       constructor
       ·rfl
       ·rfl
      refine hK.out _ _ ⟨(blk_cell (((show Below U.heap.size U (U.alloc (.cells #[.string pn, .string pt, .int .i64 pk] 67)).drew from below_drew1 (below_alloc (Below.refl U.heap.size U) _)).block g HGL.out).trans HGU.out) 0).trans rfl, (blk_cell (((show Below U.heap.size U (U.alloc (.cells #[.string pn, .string pt, .int .i64 pk] 67)).drew from below_drew1 (below_alloc (Below.refl U.heap.size U) _)).block w.heap.size HPL.out).trans HPU.out) 0).trans rfl, (blk_cell (((show Below U.heap.size U (U.alloc (.cells #[.string pn, .string pt, .int .i64 pk] 67)).drew from below_drew1 (below_alloc (Below.refl U.heap.size U) _)).block w.heap.size HPL.out).trans HPU.out) 1).trans rfl, (blk_cell (((show Below U.heap.size U (U.alloc (.cells #[.string pn, .string pt, .int .i64 pk] 67)).drew from below_drew1 (below_alloc (Below.refl U.heap.size U) _)).block w.heap.size HPL.out).trans HPU.out) 2).trans rfl⟩ (fun hHeld => ?_)
      clear hK K
      refine norm_ (a' := ?_) ?_ ?_
      rotate_left
      ·show Act.put _ (some 40) _ = _
       simp only [Act.put, List.setIfInBounds_toArray, List.set_cons_zero, List.set_cons_succ, i64_w, i32_w]
       rfl
      refine one_ (i := 7) (N := some 38) #[true, true, true, true, true, true, true, true, true, true, false, true, true, true, true, true, true, false, false, false, false] rfl rfl (by kernel_rfl) (by decide) (fun K hK => ?_)
      refine Kd.R_append_rows_step k67 (Rr := k67.K (U.alloc (.cells #[.string pn, .string pt, .int .i64 pk] 67)).drew) (w0 := U) (W := (U.alloc (.cells #[.string pn, .string pt, .int .i64 pk] 67)).drew) U.heap.size (by rfl) (.const (.slice none 0 0)) (.tmp 37) 27 67 (.agg #[(.string ⟨#[]⟩), (.string ⟨#[]⟩), (.int .i64 0)]) 40 rfl Try.underlying27 info67 rfl (by decide) (by omega) (.slice none 0 0) [] (D.take i) (some ad) i c (fun k => k ≠ U.heap.size) (fun _ => False) rfl rfl ?aO ?aR (fun x cs hk => by rw [k67_open hk]; exact k67_mkM _ _ _ x) (fun _ hk => hk.elim) (fun k hk e_ => by have h1_ := dk_sz U (.cells #[.string pn, .string pt, .int .i64 pk] 67); have h2_ : (U.alloc (.cells #[.string pn, .string pt, .int .i64 pk] 67)).drew.heap.size = U.heap.size + 1 := h1_; omega) ?aB ?aS ?aL ?_
      case aO => exact Kd.R_nil k67 67 _ _ _
      case aR => exact Kd.C_below HC1.out (show Below U.heap.size U (U.alloc (.cells #[.string pn, .string pt, .int .i64 pk] 67)).drew from below_drew1 (below_alloc (Below.refl U.heap.size U) _))
      case aB => exact (show Below U.heap.size U (U.alloc (.cells #[.string pn, .string pt, .int .i64 pk] 67)).drew from below_drew1 (below_alloc (Below.refl U.heap.size U) _))
      case aS => exact ((show Below U.heap.size U (U.alloc (.cells #[.string pn, .string pt, .int .i64 pk] 67)).drew from below_drew1 (below_alloc (Below.refl U.heap.size U) _))).size
      case aL => exact HL1.out
      intro v1 w2 ho1 hb1 hg1 hat1
      rw [List.nil_append] at ho1
      refine hK.out _ _ ⟨(blk_cell ((hb1.block g HGL.out).trans HGU.out) 0).trans rfl, (blk_cell ((hb1.block w.heap.size HPL.out).trans HPU.out) 0).trans rfl, (blk_cell ((hb1.block w.heap.size HPL.out).trans HPU.out) 1).trans rfl, (blk_cell ((hb1.block w.heap.size HPL.out).trans HPU.out) 2).trans rfl⟩ (fun hHeld => ?_)
      clear hK K
      refine norm_ (a' := ?_) ?_ ?_
      rotate_left
      ·show Act.put _ (some 38) _ = _
       simp only [Act.put, List.setIfInBounds_toArray, List.set_cons_zero, List.set_cons_succ, i64_w, i32_w]
       rfl
      exact norm_ (by simp only [putAll, Act.put, List.setIfInBounds_toArray, List.set_cons_zero, List.set_cons_succ]) (hCont (v1, U.heap.size) _ ⟨hb1, ho1, (hg1.block U.heap.size (by have h1_ := dk_sz U (.cells #[.string pn, .string pt, .int .i64 pk] 67); have h2_ : (U.alloc (.cells #[.string pn, .string pt, .int .i64 pk] 67)).drew.heap.size = U.heap.size + 1 := h1_; omega) (by simp [Value.ownBlock])).trans (blk_drew (blk_new U (.cells #[.string pn, .string pt, .int .i64 pk] 67)))⟩)
    rintro ⟨v1, b9⟩ w5 ⟨hb5, ho5, hp9⟩
    simp only at ho5 hp9
    have hHeld : w5.cell? ⟨g, 0, none⟩ = some (.slice (some ad) D.length c) ∧ w5.cell? ⟨w.heap.size, 0, none⟩ = some (.string pn) ∧ w5.cell? ⟨w.heap.size, 1, none⟩ = some (.string pt) ∧ w5.cell? ⟨w.heap.size, 2, none⟩ = some (.int .i64 pk) := ⟨(blk_cell ((hb5.block g HGL.out).trans HGU.out) 0).trans rfl, (blk_cell ((hb5.block w.heap.size HPL.out).trans HPU.out) 0).trans rfl, (blk_cell ((hb5.block w.heap.size HPL.out).trans HPU.out) 1).trans rfl, (blk_cell ((hb5.block w.heap.size HPL.out).trans HPU.out) 2).trans rfl⟩
    refine norm_ (a' := ?_) ?_ ?_
    rotate_left
    ·simp only [putAll, Act.put, List.setIfInBounds_toArray, List.set_cons_zero, List.set_cons_succ]
     rfl
    refine one_ (i := 10) (N := some 41) #[true, true, true, true, true, true, true, true, true, true, true, true, true, true, true, true, true, false, false, false, false] rfl rfl (by kernel_rfl) (by decide) (fun K hK => ?_)
    refine Kd.R_append_rows_step k67 (Rr := k67.K w5) (w0 := U) (W := w5) U.heap.size (by rfl) (.tmp 38) (.tmp 40) 27 67 (.agg #[(.string ⟨#[]⟩), (.string ⟨#[]⟩), (.int .i64 0)]) 40 rfl Try.underlying27 info67 rfl (by decide) (by omega) v1 (D.take i) [(⟨pn, pt, pk⟩ : S67)] (some ⟨b9, 0, none⟩) 1 1 (fun k => k ≠ b9) (fun _ => False) rfl rfl ?aO ?aR (fun x cs hk => by rw [k67_open hk]; exact k67_mkM _ _ _ x) (fun _ hk => hk.elim) (fun k hk e_ => by have h1_ := blk_lt hp9; omega) ?aB ?aS ?aL ?_
    case aO => exact ho5
    case aR => exact C_one hp9
    case aB => exact hb5
    case aS => exact (hb5).size
    case aL => exact HL2.out
    intro v2 w6 ho6 hb6 hg6 hat6
    refine hK.out _ _ ⟨(blk_cell ((hb6.block g HGL.out).trans HGU.out) 0).trans rfl, (blk_cell ((hb6.block w.heap.size HPL.out).trans HPU.out) 0).trans rfl, (blk_cell ((hb6.block w.heap.size HPL.out).trans HPU.out) 1).trans rfl, (blk_cell ((hb6.block w.heap.size HPL.out).trans HPU.out) 2).trans rfl⟩ (fun hHeld => ?_)
    clear hK K
    refine norm_ (a' := ?_) ?_ ?_
    rotate_left
    ·show Act.put _ (some 41) _ = _
     simp only [Act.put, List.setIfInBounds_toArray, List.set_cons_zero, List.set_cons_succ, i64_w, i32_w]
     rfl
    refine one_ (i := 17) (N := some 48) #[true, true, true, true, true, true, true, true, true, true, true, true, true, true, true, true, true, true, false, false, false] rfl rfl (by kernel_rfl) (by decide) (fun K hK => ?_)
    refine Kd.R_append_rows_step k67 (Rr := k67.K w6) (w0 := U) (W := w6) U.heap.size (by rfl) (.tmp 41) (.tmp 47) 27 67 (.agg #[(.string ⟨#[]⟩), (.string ⟨#[]⟩), (.int .i64 0)]) 40 rfl Try.underlying27 info67 rfl (by decide) (by omega) v2 (D.take i ++ [(⟨pn, pt, pk⟩ : S67)]) (D.drop i) A9 m cm (fun k => k ≠ b9) (fun _ => False) rfl rfl ?aO ?aR (fun x cs hk => by rw [k67_open hk]; exact k67_mkM _ _ _ x) (fun _ hk => hk.elim) (fun k hk e_ => by have h1_ := blk_lt (blk_grown hp9 hg6 (Kd.R_away ho5 (fun _ h_ => h_))); omega) ?aB ?aS ?aL ?_
    case aO => exact ho6
    case aR => exact Kd.C_below HC2.out hb6
    case aB => exact hb6
    case aS => exact (hb6).size
    case aL => exact HL3.out
    intro v3 w7 ho7 hb7 hg7 hat7
    obtain ⟨o2, ho2e⟩ : ∃ o2, D.take i ++ [(⟨pn, pt, pk⟩ : S67)] ++ D.drop i = o2 := ⟨_, rfl⟩
    rw [ho2e] at ho7
    obtain ⟨A7, c7, hv3⟩ := Kd.R_slice ho7
    subst hv3
    refine hK.out _ _ ⟨(blk_cell ((hb7.block g HGL.out).trans HGU.out) 0).trans rfl, (blk_cell ((hb7.block w.heap.size HPL.out).trans HPU.out) 0).trans rfl, (blk_cell ((hb7.block w.heap.size HPL.out).trans HPU.out) 1).trans rfl, (blk_cell ((hb7.block w.heap.size HPL.out).trans HPU.out) 2).trans rfl⟩ (fun hHeld => ?_)
    clear hK K
    refine norm_ (a' := ?_) ?_ ?_
    rotate_left
    ·show Act.put _ (some 48) _ = _
     simp only [Act.put, List.setIfInBounds_toArray, List.set_cons_zero, List.set_cons_succ, i64_w, i32_w]
     rfl
    refine pure_ (i := 18) (N := some 49) (v := ?_) (a' := ?_) #[true, true, true, true, true, true, true, true, true, true, true, true, true, true, true, true, true, true, true, false, false] rfl rfl (by kernel_rfl) (fun _ _ _ h => h) (Or.inl ⟨by rfl, ?_⟩) ?_ ?_
    rotate_left
    ·intro w'
     go_simp
     with_reducible rfl
    rotate_left
    ·simp only [Act.put, List.setIfInBounds_toArray, List.set_cons_zero, List.set_cons_succ, i64_w, i32_w]
     rfl
    refine pure_ (i := 19) (N := some 50) (v := ?_) (a' := ?_) #[true, true, true, true, true, true, true, true, true, true, true, true, true, true, true, true, true, true, true, true, false] rfl rfl (by kernel_rfl) (fun _ _ _ h => h) (Or.inl ⟨by rfl, ?_⟩) ?_ ?_
    rotate_left
    ·intro w'
     go_simp
     with_reducible rfl
    rotate_left
    ·simp only [Act.put, List.setIfInBounds_toArray, List.set_cons_zero, List.set_cons_succ, i64_w, i32_w]
     rfl
    refine last_ (i := 20) (N := none) #[true, true, true, true, true, true, true, true, true, true, true, true, true, true, true, true, true, true, true, true, true] rfl rfl (by kernel_rfl) (by decide) (fun K hK => ?_)
    have hs9 := (blk_cell ((hb7.block g HGL.out).trans HGU.out) 0).trans rfl
    have hf9 := blk_frozen ((hb7.block g HGL.out).trans HGU.out) 0
    refine skip_ (w1 := ?_) (by rfl) rfl ?_ ?_
    rotate_left
    ·go_simp
     rfl
    refine hK.out _ _ ?_
    clear hK K
    refine done_ (by kernel_rfl) ?_
    go_wp2
    go_end0
    rw [HINS.out, ho2e]
    have hgw := (hb7.block g HGL.out).trans HGU.out
    exact ⟨rfl, _, ⟨blk_put hgw 0 _ rfl, Kd.R_mono (Kd.R_set (Kd.R_lower ho7 HBU.out) hgw (by decide) 0 _) (fun _ _ => trivial)⟩, grown_then HGR.out hb7⟩
end Go.Proofs.Yteghgeanbglmoaa.PFnActs
