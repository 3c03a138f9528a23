/- A file dropped. No condition. -/
import Derived.Test.YteghgeanbglmoaaDkFnActsA
import Derived.Test.YteghgeanbglmoaaDkFnActsT
import Derived.Deep.RegionLaw
namespace Go.Proofs.Yteghgeanbglmoaa.PFnActs
open Go.RowKit Go.Proofs.YteghgeanbglmoaaW.PrintWords Go.Proofs.YteghgeanbglmoaaW.PrintLast Go.Proofs.YteghgeanbglmoaaW.PrintMore
attribute [local go_sem] max_two min_two
set_option linter.unusedVariables false
set_option linter.unusedSimpArgs false
/-- A disk without the first file of a name. -/
def dropD (l : List S67) (s : ByteArray) : List S67 := match l.findIdx? (fun x => x.f0.toList == s.toList) with
 | some i => l.take i ++ l.drop (i + 1)
 | none => l
/-- The pointer's block holds a row. -/
def ptSt (w : World) (B g : Nat) (v : Value) (l : List S67) : Prop := w.heap[g]? = some (.cells #[v] 29 (0, 0)) ∧ Kd.R k67 67 w B (fun _ => True) v l
theorem grown_store {w W : World} {g : Nat} {u : Value} (hb : Below w.heap.size w W) : w.grownBy (W.setCell ⟨g, 0, none⟩ u) (some g) :=
 ⟨hb.os, hb.tape, hb.output, by rw [show (W.setCell ⟨g, 0, none⟩ u).heap.size = W.heap.size by simp [World.setCell]]; exact hb.size, fun i hi hne => (Below.heap_setCell W ⟨g, 0, none⟩ u i (fun e => hne (by rw [e]))).trans (hb.block i hi)⟩
theorem dropD_none {l : List S67} {s : ByteArray} (h : l.findIdx? (fun x => x.f0.toList == s.toList) = none) : dropD l s = l := by unfold dropD; rw [h]
theorem dropD_some {l : List S67} {s : ByteArray} {i : Nat} (h : l.findIdx? (fun x => x.f0.toList == s.toList) = some i) : dropD l s = l.take i ++ l.drop (i + 1) := by unfold dropD; rw [h]
theorem dropD_len (l : List S67) (s : ByteArray) : (dropD l s).length ≤ l.length := by
 unfold dropD
 split
 ·rw [List.length_append, List.length_take, List.length_drop]; omega
 ·exact Nat.le_refl _
theorem find_lt {l : List S67} {p : S67 → Bool} {i : Nat} (h : l.findIdx? p = some i) : i < l.length := (List.findIdx?_eq_some_iff_getElem.1 h).1
set_option maxHeartbeats 8000000 in
set_option maxRecDepth 100000 in
theorem drop59 (B g : Nat) (v : Value) (l : List S67) (s : ByteArray) (w : World) (h : ptSt w B g v l) (hB : B ≤ w.heap.size) (hl : l.length ≤ 2000000) :
  Calls Try.prog 59 #[.pointer (some ⟨g, 0, none⟩), .string s] w fun e w' => e = .returned (.tuple #[]) ∧ ∃ v', ptSt w' B g v' (dropD l s) ∧ w.grownBy w' (some g) ∧ ∀ k, v'.ownBlock = some k → v.ownBlock = some k ∨ w.heap.size ≤ k := by
 obtain ⟨hg, hR⟩ := h
 have hgl := blk_lt hg
 obtain ⟨A, c, rfl, hc, hC⟩ := Kd.R_reads hR
 have HL := Aside0.mk hl
 have HG := Aside0.mk hg
 have HR := Aside0.mk hR
 have HC := Aside0.mk hC
 have HCC := Aside0.mk hc
 have HGL := Aside0.mk hgl
 have HBB := Aside0.mk hB
 have hb0 : Below w.heap.size w w := Below.refl _ _
 have HB0 := Aside0.mk hb0
 cases hf : l.findIdx? (fun x => x.f0.toList == s.toList) with
 | none =>
  have ha := atD_no l s hf
  rw [dropD_none hf]
  have HA := Aside0.mk ha
  clear hg hR hgl hl hc hC hB hb0 hf ha
  go_enter Try.func59, Try.ntmps59
  go_wp2_with (first | ((with_reducible refine gate_dst (N := 7) rfl ?_); refine ld29 HG.out (.tmp 6) rfl rfl rfl ?_) | (go_at_call 54; refine (at54 _ _ l s _ HC.out HCC.out (by have := HL.out; omega)).mono ?_; rw [HA.out]; rintro e_ w1 ⟨rfl, hb1⟩; have HQ := Aside0.mk hb1; clear hb1))
  go_end0
  exact ⟨rfl, _, ⟨blk_below HG.out HQ.out, Kd.R_below HR.out HQ.out⟩, grown_of_below HQ.out _, fun k hk => .inl hk⟩
 | some i =>
  have ha := atD_yes l s i hf
  have hil := find_lt hf
  rw [dropD_some hf]
  have HA := Aside0.mk ha
  have HI := Aside0.mk hil
  have hi0 : (0 : Int) ≤ (i : Int) := Int.natCast_nonneg i
  have hi1 : decide ((0 : Int) ≤ (i : Int)) = true := decide_eq_true hi0
  have hwi : wrap64 ((i : Int) + 1) = ((i + 1 : Nat) : Int) := by unfold wrap64; omega
  obtain ⟨i27, hi27, -⟩ := Option.map_eq_some_iff.1 info67
  have hz27 : i27.size = 3 := by have := size67; rw [hi27] at this; simpa using this
  have hcut1 := cut_to (P := Try.prog) 27 67 .i64 Try.underlying27 hi27 A l.length c (i : Int) hi0 (by omega) hc
  rw [Int.toNat_natCast] at hcut1
  have hcut2 := cut_from (P := Try.prog) 27 67 .i64 Try.underlying27 hi27 3 hz27 A l.length c ((i + 1 : Nat) : Int) (Int.natCast_nonneg _) (by omega)
  rw [Int.toNat_natCast] at hcut2
  obtain ⟨A9, hA9⟩ : ∃ A9, (if c = i + 1 then A else A.map (·.add ((i + 1) * 3))) = A9 := ⟨_, rfl⟩
  rw [hA9] at hcut2
  obtain ⟨m, hm⟩ : ∃ m, l.length - (i + 1) = m := ⟨_, rfl⟩
  obtain ⟨cm, hcm⟩ : ∃ cm, c - (i + 1) = cm := ⟨_, rfl⟩
  rw [hm, hcm] at hcut2
  have hC1 : Kd.C k67 w A i (l.take i) := by have := Kd.C_take hC (m := i) (by omega); rwa [List.length_take, Nat.min_eq_left (by omega)] at this
  have hC2 : Kd.C k67 w A9 m (l.drop (i + 1)) := by have := Kd.C_drop hC (m := i + 1) (by omega) hc; rw [List.length_drop, hm] at this; rw [← hA9]; exact this
  have HC1 := Aside0.mk hC1
  have HC2 := Aside0.mk hC2
  have hl1 : ([] : List S67).length + i ≤ 2000000 := by rw [List.length_nil]; omega
  have HL1 : Aside0 ((([] : List S67).length + i) * 40 ≤ 140737488355328) := ⟨by omega⟩
  have HL2 : Aside0 ((([] ++ l.take i).length + m) * 40 ≤ 140737488355328) := ⟨by rw [List.nil_append, List.length_take]; omega⟩
  have hwj : wrap64 ((i : Int) + 1) = (i : Int) + 1 := hwi
  have hwk : IntKind.i64.wrap ((i : Int) + 1) = (i : Int) + 1 := by rw [i64_w]; exact hwj
  have hi2 : (0 : Int) ≤ (i : Int) + 1 := by omega
  have hi3 : (i : Int) + 1 ≤ (l.length : Int) := by omega
  have hi4 : (i : Int) ≤ (l.length : Int) := by omega
  have hi5 : ((i : Int) + 1).toNat = i + 1 := by omega
  have hi6 : i ≤ c := by omega
  have hcut3 : ∀ W : World, (Instr.slice 27 (.slice A l.length c) (some (.int .i64 ((i : Int) + 1))) none none).run Try.prog W = .ok (.slice A9 m cm) W := hcut2
  have hcg : w.cell? ⟨g, 0, none⟩ = some (.slice A l.length c) := (blk_cell hg 0).trans rfl
  clear hg hR hgl hl hc hC hB hb0 hf ha hil hi27 hz27 hC1 hC2 hl1 hwi hcut2
  go_enter Try.func59, Try.ntmps59
  go_wp2_with (first | ((with_reducible refine gate_dst (N := 7) rfl ?_); refine ld29 HG.out (.tmp 6) rfl rfl rfl ?_) | (go_at_call 54; refine (at54 _ _ l s _ HC.out HCC.out (by have := HL.out; omega)).mono ?_; rw [HA.out]; rintro e_ w1 ⟨rfl, hb1⟩; have HQ := Aside0.mk hb1; have hc1 := (blk_cell (blk_below HG.out hb1) 0).trans rfl; clear hb1))
  go_region_law (first | (refine Kd.R_append_rows_step k67 (Rr := k67.K w1.drew) (w0 := w) (W := w1.drew) w.heap.size (by rfl) (.const (.slice none 0 0)) (.tmp 18) 27 67 (.agg #[(.string ⟨#[]⟩), (.string ⟨#[]⟩), (.int .i64 0)]) 40 rfl Try.underlying27 info67 rfl (by decide) (by omega) (.slice none 0 0) [] (l.take i) A i c (fun _ => True) (fun _ => False) rfl rfl ?aO ?aR ?aK (fun _ hk => hk.elim) (fun _ _ => trivial) ?aB ?aS ?aL ?_; (case aO => exact (Kd.R_nil k67 67 _ _ _)); (case aR => exact (Kd.C_below HC1.out (below_drew1 HQ.out))); (case aK => exact (fun x cs hk => by rw [k67_open hk]; exact k67_mkM _ _ _ x)); (case aB => exact (below_drew1 HQ.out)); (case aS => exact ((below_drew1 HQ.out)).size); (case aL => exact HL1.out); intro v1 w2 ho1 hb1 hg1 hat1; (have hk1 := (blk_cell ((hb1.block g HGL.out).trans HG.out) 0).trans rfl); have HO1 := Aside0.mk ho1; have HBa := Aside0.mk hb1; clear ho1 hb1 hg1 hat1) | (refine Kd.R_append_rows_step k67 (Rr := k67.K w2) (w0 := w) (W := w2) w.heap.size (by rfl) (.tmp 19) (.tmp 26) 27 67 (.agg #[(.string ⟨#[]⟩), (.string ⟨#[]⟩), (.int .i64 0)]) 40 rfl Try.underlying27 info67 rfl (by decide) (by omega) v1 ([] ++ l.take i) (l.drop (i + 1)) A9 m cm (fun _ => True) (fun _ => False) rfl rfl ?aO ?aR ?aK (fun _ hk => hk.elim) (fun _ _ => trivial) ?aB ?aS ?aL ?_; (case aO => exact HO1.out); (case aR => exact (Kd.C_below HC2.out HBa.out)); (case aK => exact (fun x cs hk => by rw [k67_open hk]; exact k67_mkM _ _ _ x)); (case aB => exact HBa.out); (case aS => exact (HBa.out).size); (case aL => exact HL2.out); intro v2 w3 ho2 hb2 hg2 hat2; (have hk2 := (blk_cell ((hb2.block g HGL.out).trans HG.out) 0).trans rfl); (have hf2 := blk_frozen ((hb2.block g HGL.out).trans HG.out) 0); (have hb9 := hb2.block g HGL.out); (obtain ⟨o2, ho2e⟩ : ∃ o2, [] ++ l.take i ++ l.drop (i + 1) = o2 := ⟨_, rfl⟩); rw [ho2e] at ho2; have HOE := Aside0.mk ho2e; clear ho2e; (obtain ⟨A7, c7, hv2⟩ := Kd.R_slice ho2); subst hv2; have HO2 := Aside0.mk ho2; have HBb := Aside0.mk hb2; have HB9 := Aside0.mk hb9; clear ho2 hb2 hg2 hat2 hb9))
  all_goals
   go_wp2
   go_end0
   have e9 : l.take i ++ l.drop (i + 1) = o2 := by rw [← HOE.out, List.nil_append]
   rw [e9]
   exact ⟨rfl, _, ⟨blk_put (HB9.out.trans HG.out) 0 _ rfl, Kd.R_set (Kd.R_lower HO2.out HBB.out) (HB9.out.trans HG.out) (by decide) 0 _⟩, grown_store HBb.out, fun k hk => .inr (Kd.R_base HO2.out k hk)⟩
end Go.Proofs.Yteghgeanbglmoaa.PFnActs
