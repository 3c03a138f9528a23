-- a text of this session's program wip/hyb.py (over the kit's print), out of the translation
import Derived.Test.YteghgeanbglmoaaRows
import Derived.Test.YteghgeanbglmoaaPFnExactCutActsx10
import Derived.Test.YteghgeanbglmoaaPureFnExactCutActs
import Derived.WalkKit
import Derived.ProofKit
import Derived.OpenShut
import Derived.ShutString
import Derived.ChangeOld
import Derived.Below
import Derived.SizedLaws
import Derived.ChangeSame
import Derived.Deep.Slices
import Derived.Deep.Fields
import Derived.Lib.SmallJoins
import Derived.Carry
import Derived.Test.YteghgeanbglmoaaWSized
namespace Go.Proofs.Yteghgeanbglmoaa.fnExactCutActs
open Go.ChangeShapes Go.WideShapes Go.ChangeAt Go.RowKit Go.Joins Go.Deep
open Go.ChangeMaps (open_string shut_string)
open Go.Proofs.Yteghgeanbglmoaa.PFnExactCutActs Go.Proofs.YteghgeanbglmoaaW.PrintWords Go.Proofs.YteghgeanbglmoaaW.PrintLast
set_option linter.unusedVariables false
set_option linter.unusedSimpArgs false
theorem own : ownKnob Try.prog.godebug = none := by kernel_rfl
theorem laidOut : laidOutB Try.prog = true := by kernel_rfl
def IsRow (k : IntKind) (w : World) (a : Option Addr) (len cap : Nat) (zs : List Int) : Prop :=
  (a = none ∧ len = 0 ∧ cap = 0 ∧ zs = []) ∨
  ∃ x, a = some x ∧ len ≤ cap ∧ cap ≤ maxLen ∧ zs.length = cap ∧ (∀ i, i < zs.length → w.cell? (x.add i) = some (.int k (zs.getD i 0))) ∧ ∀ n ∈ zs, (Lit.int k n).wf = true
theorem arr1 {α : Type} {a : Array α} (h : a.size = 1) : ∃ x0, a = #[x0] := by
  obtain ⟨l⟩ := a
  match l, h with
  | [x0], _ => exact ⟨x0, rfl⟩
theorem lst3 {α : Type} {l : List α} (h : l.length = 3) : ∃ x0 x1 x2, l = [x0, x1, x2] := by
  match l, h with
  | [x0, x1, x2], _ => exact ⟨x0, x1, x2, rfl⟩
theorem lst4 {α : Type} {l : List α} (h : l.length = 4) : ∃ x0 x1 x2 x3, l = [x0, x1, x2, x3] := by
  match l, h with
  | [x0, x1, x2, x3], _ => exact ⟨x0, x1, x2, x3, rfl⟩
/-- a row of elements out of each element's cells -/
theorem rows_of {α : Type} (d : Kd α) (z : α) (P : α → Prop) (W : World) (a : Addr) (len : Nat) (hl : len ≤ 9223372036854775807)
    (Hh : ∀ i, i < len → ∃ x, P x ∧ ∃ c : List Value, c.length = d.sz ∧ d.K W x c ∧ ∀ j u, c[j]? = some u → W.cell? (a.add (i * d.sz + j)) = some u) : ∃ l : List α, l.length = len ∧ Kd.C d W (some a) len l ∧ ∀ x ∈ l, P x := by
  have hg : ∃ f : Nat → α, ∀ i, i < len → P (f i) ∧ ∃ c : List Value, c.length = d.sz ∧ d.K W (f i) c ∧ ∀ j u, c[j]? = some u → W.cell? (a.add (i * d.sz + j)) = some u := by
    refine ⟨fun i => Classical.epsilon (h := ⟨z⟩) fun x => P x ∧ ∃ c : List Value, c.length = d.sz ∧ d.K W x c ∧ ∀ j u, c[j]? = some u → W.cell? (a.add (i * d.sz + j)) = some u, fun i hi => ?_⟩
    exact Classical.epsilon_spec (p := fun x => P x ∧ ∃ c : List Value, c.length = d.sz ∧ d.K W x c ∧ ∀ j u, c[j]? = some u → W.cell? (a.add (i * d.sz + j)) = some u) (Hh i hi)
  obtain ⟨f, hf⟩ := hg
  refine ⟨(List.range len).map f, by simp, ⟨by simp, hl, fun _ => ⟨a, rfl, fun j p hp => ?_⟩⟩, fun x hx => ?_⟩
  · rw [List.getElem?_map] at hp
    have hj : j < len := by
      rcases Nat.lt_or_ge j len with h | h
      · exact h
      · rw [List.getElem?_eq_none (by simpa using h)] at hp; cases hp
    rw [List.getElem?_eq_getElem (by simpa using hj)] at hp
    simp only [List.getElem_range, Option.map_some, Option.some.injEq] at hp
    subst hp
    obtain ⟨_, c, h1, h2, h3⟩ := hf j hj
    exact ⟨c, h1, h2, h3⟩
  · obtain ⟨i, hi, rfl⟩ := List.mem_map.1 hx
    exact (hf i (List.mem_range.1 hi)).1
section
variable {H : Type} {enc : TypeId × Value → H} {W : World} {spare : Nat → Bool} {held : Bool}
theorem open96 {fuel : Nat} {cs : List Value} {x : DataW H × List MemPlace} (h : DataW.trod enc Try.prog W 0 spare held fuel 22 cs = some x) :
    ∃ (A_ : Option Addr) (c_ : Nat) (l : List S96), cs = [.slice A_ l.length c_] ∧ l.length ≤ c_ ∧ l.length ≤ 9223372036854775807 ∧ Kd.C k96 W A_ l.length l ∧ ∀ x ∈ l, good96 x := by
  rcases open_slice Try.underlying22 h with ⟨rfl, _⟩ | ⟨a, len, cap, m, n, D, Pl, rfl, _, hl, hm, hmm, _, hi⟩
  · exact ⟨none, 0, [], rfl, Nat.le_refl _, by simp, ⟨rfl, by simp, fun q => absurd q (by simp)⟩, by simp⟩
  · have hC : Try.prog.cellsOf 96 = 3 := by kernel_rfl
    have hm' : cap ≤ 9223372036854775807 := hm
    obtain ⟨l, hlen, hC2, hgood⟩ := rows_of k96 z96 good96 W a len (Nat.le_trans hl hm') (fun i hil => by
      obtain ⟨cs', hc, ht'⟩ := hi i (by rw [hmm]; split <;> omega)
      obtain ⟨ys, n', _, _, hlen, hyl, hf⟩ := DataW.trod_struct Try.underlying96 ht'
      obtain ⟨_, hcl, hat⟩ := World.cells?_some hc
      rw [hC] at hlen hcl hat
      obtain ⟨c0, c1, c2, rfl⟩ := lst3 hlen
      have hys : ys.length = 3 := hyl
      have w0 : Try.prog.cellsOf 9 = 1 := by kernel_rfl
      have q0 : DataW.trod enc Try.prog W 0 spare held n' 9 (List.take (Try.prog.cellsOf 9) (List.drop 0 [c0, c1, c2])) = ys[0]? := hf 0 _ rfl
      rw [w0, List.getElem?_eq_getElem (show 0 < ys.length by omega)] at q0
      replace q0 : DataW.trod enc Try.prog W 0 spare held n' 9 [c0] = some (ys[0]'(by omega)) := q0
      obtain ⟨s0, e0, _, g0⟩ := DataW.trod_string Try.underlying9 q0
      simp only [List.cons.injEq, and_true] at e0
      subst e0
      have w1 : Try.prog.cellsOf 9 = 1 := by kernel_rfl
      have q1 : DataW.trod enc Try.prog W 0 spare held n' 9 (List.take (Try.prog.cellsOf 9) (List.drop 1 [(.string s0), c1, c2])) = ys[1]? := hf 1 _ rfl
      rw [w1, List.getElem?_eq_getElem (show 1 < ys.length by omega)] at q1
      replace q1 : DataW.trod enc Try.prog W 0 spare held n' 9 [c1] = some (ys[1]'(by omega)) := q1
      obtain ⟨s1, e1, _, g1⟩ := DataW.trod_string Try.underlying9 q1
      simp only [List.cons.injEq, and_true] at e1
      subst e1
      have w2 : Try.prog.cellsOf 3 = 1 := by kernel_rfl
      have q2 : DataW.trod enc Try.prog W 0 spare held n' 3 (List.take (Try.prog.cellsOf 3) (List.drop 2 [(.string s0), (.string s1), c2])) = ys[2]? := hf 2 _ rfl
      rw [w2, List.getElem?_eq_getElem (show 2 < ys.length by omega)] at q2
      replace q2 : DataW.trod enc Try.prog W 0 spare held n' 3 [c2] = some (ys[2]'(by omega)) := q2
      obtain ⟨s2, e2, _, g2⟩ := DataW.trod_int Try.underlying3 q2
      simp only [List.cons.injEq, and_true] at e2
      subst e2
      refine ⟨⟨s0, s1, s2⟩, ⟨g0, g1, g2⟩, _, rfl, k96_mk W _, fun j u hu => ?_⟩
      have hj : j < 3 := (List.getElem?_eq_some_iff.1 hu).1
      have h2 := hat j hj
      rw [Go.Deep.add_add] at h2
      exact h2.trans hu)
    exact ⟨some a, cap, l, by rw [hlen], by omega, by omega, by rw [hlen]; exact hC2, hgood⟩
end
section
variable {H : Type} {enc : TypeId × Value → H} {W : World} {spare : Nat → Bool} {held : Bool}
theorem open37 {fuel : Nat} {cs : List Value} {x : DataW H × List MemPlace} (h : DataW.trod enc Try.prog W 0 spare held fuel 45 cs = some x) :
    ∃ (A_ : Option Addr) (c_ : Nat) (l : List S37), cs = [.slice A_ l.length c_] ∧ l.length ≤ c_ ∧ l.length ≤ 9223372036854775807 ∧ Kd.C k37 W A_ l.length l ∧ ∀ x ∈ l, good37 x := by
  rcases open_slice Try.underlying45 h with ⟨rfl, _⟩ | ⟨a, len, cap, m, n, D, Pl, rfl, _, hl, hm, hmm, _, hi⟩
  · exact ⟨none, 0, [], rfl, Nat.le_refl _, by simp, ⟨rfl, by simp, fun q => absurd q (by simp)⟩, by simp⟩
  · have hC : Try.prog.cellsOf 37 = 4 := by kernel_rfl
    have hm' : cap ≤ 9223372036854775807 := hm
    obtain ⟨l, hlen, hC2, hgood⟩ := rows_of k37 z37 good37 W a len (Nat.le_trans hl hm') (fun i hil => by
      obtain ⟨cs', hc, ht'⟩ := hi i (by rw [hmm]; split <;> omega)
      obtain ⟨ys, n', _, _, hlen, hyl, hf⟩ := DataW.trod_struct Try.underlying37 ht'
      obtain ⟨_, hcl, hat⟩ := World.cells?_some hc
      rw [hC] at hlen hcl hat
      obtain ⟨c0, c1, c2, c3, rfl⟩ := lst4 hlen
      have hys : ys.length = 4 := hyl
      have w0 : Try.prog.cellsOf 3 = 1 := by kernel_rfl
      have q0 : DataW.trod enc Try.prog W 0 spare held n' 3 (List.take (Try.prog.cellsOf 3) (List.drop 0 [c0, c1, c2, c3])) = ys[0]? := hf 0 _ rfl
      rw [w0, List.getElem?_eq_getElem (show 0 < ys.length by omega)] at q0
      replace q0 : DataW.trod enc Try.prog W 0 spare held n' 3 [c0] = some (ys[0]'(by omega)) := q0
      obtain ⟨s0, e0, _, g0⟩ := DataW.trod_int Try.underlying3 q0
      simp only [List.cons.injEq, and_true] at e0
      subst e0
      have w1 : Try.prog.cellsOf 9 = 1 := by kernel_rfl
      have q1 : DataW.trod enc Try.prog W 0 spare held n' 9 (List.take (Try.prog.cellsOf 9) (List.drop 1 [(.int .i64 s0), c1, c2, c3])) = ys[1]? := hf 1 _ rfl
      rw [w1, List.getElem?_eq_getElem (show 1 < ys.length by omega)] at q1
      replace q1 : DataW.trod enc Try.prog W 0 spare held n' 9 [c1] = some (ys[1]'(by omega)) := q1
      obtain ⟨s1, e1, _, g1⟩ := DataW.trod_string Try.underlying9 q1
      simp only [List.cons.injEq, and_true] at e1
      subst e1
      have w2 : Try.prog.cellsOf 9 = 1 := by kernel_rfl
      have q2 : DataW.trod enc Try.prog W 0 spare held n' 9 (List.take (Try.prog.cellsOf 9) (List.drop 2 [(.int .i64 s0), (.string s1), c2, c3])) = ys[2]? := hf 2 _ rfl
      rw [w2, List.getElem?_eq_getElem (show 2 < ys.length by omega)] at q2
      replace q2 : DataW.trod enc Try.prog W 0 spare held n' 9 [c2] = some (ys[2]'(by omega)) := q2
      obtain ⟨s2, e2, _, g2⟩ := DataW.trod_string Try.underlying9 q2
      simp only [List.cons.injEq, and_true] at e2
      subst e2
      have w3 : Try.prog.cellsOf 9 = 1 := by kernel_rfl
      have q3 : DataW.trod enc Try.prog W 0 spare held n' 9 (List.take (Try.prog.cellsOf 9) (List.drop 3 [(.int .i64 s0), (.string s1), (.string s2), c3])) = ys[3]? := hf 3 _ rfl
      rw [w3, List.getElem?_eq_getElem (show 3 < ys.length by omega)] at q3
      replace q3 : DataW.trod enc Try.prog W 0 spare held n' 9 [c3] = some (ys[3]'(by omega)) := q3
      obtain ⟨s3, e3, _, g3⟩ := DataW.trod_string Try.underlying9 q3
      simp only [List.cons.injEq, and_true] at e3
      subst e3
      refine ⟨⟨s0, s1, s2, s3⟩, ⟨g0, g1, g2, g3⟩, _, rfl, k37_mk W _, fun j u hu => ?_⟩
      have hj : j < 4 := (List.getElem?_eq_some_iff.1 hu).1
      have h2 := hat j hj
      rw [Go.Deep.add_add] at h2
      exact h2.trans hu)
    exact ⟨some a, cap, l, by rw [hlen], by omega, by omega, by rw [hlen]; exact hC2, hgood⟩
end
set_option maxRecDepth 100000 in
theorem lifted (os : Os) (started : os.Started) (H : Type) (enc : TypeId × Value → H) :
    ReturnsInHanded {} Try.checked os 9 .any (Rows.fnExactCutActsSpec.pre6 enc Try.prog Try.f9 Rows.fnExactCutActsRow.domain false) (Rows.fnExactCutActsSpec.post enc Try.prog Try.f9 false true false false) := by
  refine returnsInHanded_of_change_sized (C := Try.checked) own started (by kernel_rfl) Try.func9
    (ChangeSpec.witness6 (enc := enc) (C := Try.checked) false ⟨#[], #[.agg #[.slice none 0 0], .slice none 0 0, .int .i64 0, .slice none 0 0], []⟩ 8 (by kernel_rfl) (by kernel_rfl) (by kernel_rfl) (by kernel_rfl)) ?_
  intro W base args ds gs before hval0 hW hcnd hsz0 _
  have hsz : (DataW.weightsEach Try.prog (Try.f9.params.toList ++ Rows.fnExactCutActsSpec.plain.varTypes Try.prog) (ds ++ gs)).all (· ≤ reachBytes) = true := hsz0
  have hval : ∀ (j : Nat) t v, Try.f9.params[j]? = some t → args[j]? = some v → Value.okWide Try.prog W .any base t v := hval0
  have hW' := hW
  obtain ⟨p, q, hA0, hV, rfl, hfz, hnd⟩ := hW
  have hA : DataW.TrodAll enc Try.prog W 0 (fun _ => true) true Try.f9.params.toList args.toList ds p := hA0
  rw [Try.params9] at hA hval hsz
  obtain ⟨v0, vs0, d0, ds0, p0, q0, hargs, rfl, rfl, h0, r0⟩ := trodAll_cons hA
  obtain ⟨v1, vs1, d1, ds1, p1, q1, rfl, rfl, rfl, h1, r1⟩ := trodAll_cons r0
  obtain ⟨v2, vs2, d2, ds2, p2, q2, rfl, rfl, rfl, h2, r2⟩ := trodAll_cons r1
  obtain ⟨v3, vs3, d3, ds3, p3, q3, rfl, rfl, rfl, h3, r3⟩ := trodAll_cons r2
  obtain ⟨rfl, rfl, rfl⟩ := trodAll_nil r3
  obtain rfl : args = #[v0, v1, v2, v3] := by cases args; simp_all
  obtain ⟨rfl, rfl⟩ := trodVars_none hV
  have k0 := h0
  have lt0 : ∀ x ∈ p0, x.block < W.heap.size := by obtain ⟨m, hm⟩ := k0; exact DataW.trod_lt m _ _ _ hm
  obtain ⟨cs0, rfl, sz0⟩ := okWide_struct Try.underlying24 (hval 0 24 v0 rfl rfl)
  have cz0 : Try.prog.cellsOf 24 = 1 := by kernel_rfl
  obtain ⟨fuel0, hf0⟩ := h0
  obtain ⟨ys0, n0, _, _, hl0, hy0, hq0⟩ := DataW.trod_struct Try.underlying24 hf0
  obtain ⟨c0_0, rfl⟩ := arr1 (sz0.trans cz0)
  have hys0 : ys0.length = 1 := hy0
  have q0_0 := hq0 0 _ rfl
  rw [List.getElem?_eq_getElem (show 0 < ys0.length by omega)] at q0_0
  have w0_0 : Try.prog.cellsOf 22 = 1 := by kernel_rfl
  simp only [Value.cells, w0_0] at q0_0
  replace q0_0 : DataW.trod enc Try.prog W 0 (fun _ => true) true n0 22 [c0_0] = some _ := q0_0
  obtain ⟨A0_0, cc0_0, l0_0, e0_0, hc0_0, hm0_0, hC0_0, hg0_0⟩ := open96 q0_0
  simp only [List.cons.injEq, and_true] at e0_0
  subst e0_0
  have k1 := h1
  have lt1 : ∀ x ∈ p1, x.block < W.heap.size := by obtain ⟨m, hm⟩ := k1; exact DataW.trod_lt m _ _ _ hm
  obtain ⟨b1, len1, cap1, rfl⟩ := okWide_slice Try.underlying45 (hval 1 45 v1 rfl rfl)
  obtain ⟨fuel1, hf1⟩ := h1
  simp only [Value.cells] at hf1
  obtain ⟨A1, c1, l1, e1, hc1, hm1, hC1, hg1⟩ := open37 hf1
  simp only [List.cons.injEq, and_true] at e1
  injection e1 with ea_ eb_ ec_
  subst ea_
  subst eb_
  subst ec_
  have k2 := h2
  have lt2 : ∀ x ∈ p2, x.block < W.heap.size := by obtain ⟨m, hm⟩ := k2; exact DataW.trod_lt m _ _ _ hm
  obtain ⟨a2, rfl, rfl, rfl, w2⟩ := open_int Try.underlying3 (hval 2 3 v2 rfl rfl) h2
  have k3 := h3
  have lt3 : ∀ x ∈ p3, x.block < W.heap.size := by obtain ⟨m, hm⟩ := k3; exact DataW.trod_lt m _ _ _ hm
  obtain ⟨b3, len3, cap3, rfl⟩ := okWide_slice Try.underlying54 (hval 3 54 v3 rfl rfl)
  obtain ⟨z3, w3⟩ : ∃ zs, IsRow .i64 W b3 len3 cap3 zs := by
    obtain ⟨fuel, hf⟩ := h3
    rcases open_ints Try.underlying54 Try.underlying3 (by kernel_rfl) hf with ⟨hcs, _⟩ | ⟨x, l, c, zs, hcs, _, hl, hm, hz, _, hcell, hwz⟩
    · simp [Value.cells] at hcs
      obtain ⟨rfl, rfl, rfl⟩ := hcs
      exact ⟨[], .inl ⟨rfl, rfl, rfl, rfl⟩⟩
    · simp [Value.cells] at hcs
      obtain ⟨rfl, rfl, rfl⟩ := hcs
      exact ⟨zs, .inr ⟨_, rfl, hl, hm, by simpa using hz, hcell, hwz⟩⟩
  have y3 : len3 * 8 ≤ 140737488351232 := sized_ints hsz (j := 3) (t := 54) rfl rfl Try.underlying54 Try.underlying3 (by kernel_rfl) (by kernel_rfl) h3
  obtain ⟨l3, rfl, hr3, hm3, hw3, hc3⟩ := ReadsInt.ofRowC w3
  clear hA0 hval0 hsz0 hsz
  obtain ⟨kk, hp⟩ := Pure.FnExactCutActs l0_0 l1 a2 l3 hm0_0 hg0_0 hm1 hg1 w2 y3 hw3
  refine (laws_FnExactCutActs.calls kk A0_0 cc0_0 l0_0 _ _ l1 a2 _ _ l3 true W hC0_0 hc0_0 hC1 hc1 (Kd.C_of_reads (d := (0 : Int)) (h1 := fun _ => rfl) hr3) hc3 hp rfl).mono fun e W' he => ?_
  obtain ⟨he, bel0⟩ := he
  have bel : Below W.heap.size W W' := bel0
  subst he
  exact ⟨_, rfl, _, _, _, [], _, [], hW', trodAll_mk1 (shut_bool Try.underlying4 _), (trodAll_cons_mk (Below.trod laidOut (by kernel_rfl) (of_decide_eq_true (by kernel_rfl)) k0 bel lt0) (trodAll_cons_mk (Below.trod laidOut (by kernel_rfl) (of_decide_eq_true (by kernel_rfl)) k1 bel lt1) (trodAll_cons_mk (Below.trod laidOut (by kernel_rfl) (of_decide_eq_true (by kernel_rfl)) k2 bel lt2) (trodAll_cons_mk (Below.trod laidOut (by kernel_rfl) (of_decide_eq_true (by kernel_rfl)) k3 bel lt3) trodAll_mk0)))), rfl, bel.frame _, fun h => by cases h⟩
theorem over : Rows.fnExactCutActsRow.holds Try.pinned (OpenSpec.ofChange Rows.fnExactCutActsSpec) :=
  OpenClaim.holds_of_wide 9 Try.f9 rfl rfl rfl rfl rfl rfl rfl ⟨rfl, rfl, rfl, rfl, rfl⟩ rfl rfl rfl rfl rfl (by kernel_rfl) Try.func9 (by kernel_rfl)
    (of_decide_eq_true (by kernel_rfl)) (by unfold Func.isWrapper; first | (rw [if_pos (by decide +kernel)]; kernel_rfl) | (rw [if_neg (by decide +kernel)]; exact ⟨rfl, rfl⟩))
    (fun os started H enc _ => lifted os started H enc)
theorem proved : Rows.FnExactCutActsSaid := over
#print axioms proved
end Go.Proofs.Yteghgeanbglmoaa.fnExactCutActs
namespace Go.Proofs.Yteghgeanbglmoaa
/-- The row, under a short name, for the claim. -/
theorem fnExactCutActs_holds : Rows.FnExactCutActsSaid := fnExactCutActs.proved
end Go.Proofs.Yteghgeanbglmoaa
