/- An act of the reference. No condition. -/
import Derived.Test.YteghgeanbglmoaaDkFnActsA
import Derived.Test.YteghgeanbglmoaaDkFnActsT
import Derived.Test.YteghgeanbglmoaaDkFnActsD
import Derived.Test.YteghgeanbglmoaaDkFnActsF
import Derived.Test.YteghgeanbglmoaaDkFnActsW
import Derived.Test.YteghgeanbglmoaaDkFnActsP
import Derived.Test.YteghgeanbglmoaaDkFnActsL
import Derived.Test.YteghgeanbglmoaaDkFnActsB
import Derived.Test.YteghgeanbglmoaaDkFnActsE
import Derived.Deep.RegionLaw
namespace Go.Proofs.Yteghgeanbglmoaa.PFnActs
open Go.RowKit Go.Proofs.YteghgeanbglmoaaW.PrintWords Go.Proofs.YteghgeanbglmoaaW.PrintLast Go.Proofs.YteghgeanbglmoaaW.PrintMore
attribute [local go_sem] max_two min_two
set_option linter.unusedVariables false
set_option linter.unusedSimpArgs false
set_option maxHeartbeats 16000000 in
set_option maxRecDepth 100000 in
theorem sda_bad (A : Option Addr) (c : Nat) (l : List S67) (ki : Int) (an at_ ao : ByteArray) (w : World) (hr : Kd.C k67 w A l.length l) (hc : l.length ≤ c) (hl : l.length ≤ 2000000) (hok : okD l = false) :
  Calls Try.prog 22 #[.agg #[.slice A l.length c], .agg #[.int .i64 ki, .string an, .string at_, .string ao]] w fun e w' => ∃ v : Value, e = .returned (.tuple #[.agg #[v], .bool false]) ∧ Kd.R k67 67 w' w.heap.size (fun _ => True) v [] ∧ Below w.heap.size w w' := by
 have HC := Aside0.mk hr; have HCC := Aside0.mk hc; have HL := Aside0.mk hl; have HOK := Aside0.mk hok
 obtain ⟨W0, HS0, HF0, HB0, HW0, hcs⟩ := da_go w A l.length c ki an at_ ao
 obtain ⟨ca, cb0, cb1, cb2, cb3, cr, fr⟩ := da_cells hcs
 clear hr hc hl hok hcs
 go_enter Try.func22, Try.ntmps22
 go_wp2_with (first | ((with_reducible refine gate_dst (N := 9) rfl ?_); rw [HW0.out]; refine ld29 (HF0.out _ HB0.out).1 (.tmp 2) rfl rfl rfl ?_) | (go_at_call 13; (with_reducible refine (spec_ok_walk _ c l _ ?s1 ?s2 ?s3).mono ?_); (case s1 => exact Kd.C_below HC.out (HF0.out _ HB0.out).2.2.2.1); (case s2 => exact HCC.out); (case s3 => have := HL.out; omega); rw [HOK.out]; rintro e_ w1 ⟨rfl, hb1⟩; have HQ := Aside0.mk (HB0.out.trans (hb1.mono (by have := HS0.out; omega))); clear ca cb0 cb1 cb2 cb3 cr fr hb1; obtain ⟨ca, cb0, cb1, cb2, cb3, cr, fr⟩ := da_cells (HF0.out _ HQ.out)))
 (try simp only [Exit.inBlock, Exit.then])
 exact bodyPost_ret (ret29 (x := .slice none 0 0) (y := .bool false) rfl _ _ (blk_put (HF0.out _ HQ.out).2.2.1 0 _ rfl) rfl rfl) rfl ⟨_, rfl, Kd.R_nil _ _ _ _ _, below_set (HF0.out _ HQ.out).2.2.2.1 (by omega)⟩
set_option maxHeartbeats 16000000 in
set_option maxRecDepth 100000 in
theorem sda_bn (A : Option Addr) (c : Nat) (l : List S67) (ki : Int) (an at_ ao : ByteArray) (w : World) (hr : Kd.C k67 w A l.length l) (hc : l.length ≤ c) (hl : l.length ≤ 2000000) (hok : okD l = true) (hnm : nameB an = false) :
  Calls Try.prog 22 #[.agg #[.slice A l.length c], .agg #[.int .i64 ki, .string an, .string at_, .string ao]] w fun e w' => ∃ v : Value, e = .returned (.tuple #[.agg #[v], .bool false]) ∧ Kd.R k67 67 w' w.heap.size (fun _ => True) v [] ∧ Below w.heap.size w w' := by
 have HC := Aside0.mk hr; have HCC := Aside0.mk hc; have HL := Aside0.mk hl; have HOK := Aside0.mk hok
 obtain ⟨W0, HS0, HF0, HB0, HW0, hcs⟩ := da_go w A l.length c ki an at_ ao
 obtain ⟨ca, cb0, cb1, cb2, cb3, cr, fr⟩ := da_cells hcs
 clear hr hc hl hok hcs
 have HNM := Aside0.mk hnm
 clear hnm
 go_enter Try.func22, Try.ntmps22
 go_wp2_with (first | ((with_reducible refine gate_dst (N := 9) rfl ?_); rw [HW0.out]; refine ld29 (HF0.out _ HB0.out).1 (.tmp 2) rfl rfl rfl ?_) | (go_at_call 13; (with_reducible refine (spec_ok_walk _ c l _ ?s1 ?s2 ?s3).mono ?_); (case s1 => exact Kd.C_below HC.out (HF0.out _ HB0.out).2.2.2.1); (case s2 => exact HCC.out); (case s3 => have := HL.out; omega); rw [HOK.out]; rintro e_ w1 ⟨rfl, hb1⟩; have HQ := Aside0.mk (HB0.out.trans (hb1.mono (by have := HS0.out; omega))); clear ca cb0 cb1 cb2 cb3 cr fr hb1; obtain ⟨ca, cb0, cb1, cb2, cb3, cr, fr⟩ := da_cells (HF0.out _ HQ.out)) | (go_at_call 48; (with_reducible refine (name48 an _).mono ?_); rw [HNM.out]; rintro e_ w1n ⟨rfl, nd1, hnd⟩; have HQn := Aside0.mk (show Below (w.heap.size + 3) W0 w1n by rw [hnd]; exact pw_below_drewN HQ.out nd1); clear ca cb0 cb1 cb2 cb3 cr fr hnd HQ; have HQ := HQn; clear HQn; obtain ⟨ca, cb0, cb1, cb2, cb3, cr, fr⟩ := da_cells (HF0.out _ HQ.out)) | ((with_reducible refine gate_dst (N := 39) rfl ?_); refine ld29 (HF0.out _ HQ.out).1 (.tmp 2) rfl rfl rfl ?_))
 (try simp only [Exit.inBlock, Exit.then])
 exact bodyPost_ret (ret29 (x := .slice none 0 0) (y := .bool false) rfl _ _ (blk_put (HF0.out _ HQ.out).2.2.1 0 _ rfl) rfl rfl) rfl ⟨_, rfl, Kd.R_nil _ _ _ _ _, below_set (HF0.out _ HQ.out).2.2.2.1 (by omega)⟩
set_option maxHeartbeats 16000000 in
set_option maxRecDepth 100000 in
theorem sda_r3 (A : Option Addr) (c : Nat) (l : List S67) (ki : Int) (an at_ ao : ByteArray) (w : World) (hr : Kd.C k67 w A l.length l) (hc : l.length ≤ c) (hl : l.length ≤ 2000000) (hok : okD l = true) (hnm : nameB an = true) (hk3 : (ki == 3) = false) (ht : ao.toList.isEmpty = false) :
  Calls Try.prog 22 #[.agg #[.slice A l.length c], .agg #[.int .i64 ki, .string an, .string at_, .string ao]] w fun e w' => ∃ v : Value, e = .returned (.tuple #[.agg #[v], .bool false]) ∧ Kd.R k67 67 w' w.heap.size (fun _ => True) v [] ∧ Below w.heap.size w w' := by
 have HC := Aside0.mk hr; have HCC := Aside0.mk hc; have HL := Aside0.mk hl; have HOK := Aside0.mk hok
 obtain ⟨W0, HS0, HF0, HB0, HW0, hcs⟩ := da_go w A l.length c ki an at_ ao
 obtain ⟨ca, cb0, cb1, cb2, cb3, cr, fr⟩ := da_cells hcs
 clear hr hc hl hok hcs
 have HNM := Aside0.mk hnm
 clear hnm
 have hn3 : (ki != 3) = true := by rw [bne, hk3]; rfl
 go_enter Try.func22, Try.ntmps22
 go_wp2_with (first | ((with_reducible refine gate_dst (N := 9) rfl ?_); rw [HW0.out]; refine ld29 (HF0.out _ HB0.out).1 (.tmp 2) rfl rfl rfl ?_) | (go_at_call 13; (with_reducible refine (spec_ok_walk _ c l _ ?s1 ?s2 ?s3).mono ?_); (case s1 => exact Kd.C_below HC.out (HF0.out _ HB0.out).2.2.2.1); (case s2 => exact HCC.out); (case s3 => have := HL.out; omega); rw [HOK.out]; rintro e_ w1 ⟨rfl, hb1⟩; have HQ := Aside0.mk (HB0.out.trans (hb1.mono (by have := HS0.out; omega))); clear ca cb0 cb1 cb2 cb3 cr fr hb1; obtain ⟨ca, cb0, cb1, cb2, cb3, cr, fr⟩ := da_cells (HF0.out _ HQ.out)) | (go_at_call 48; (with_reducible refine (name48 an _).mono ?_); rw [HNM.out]; rintro e_ w1n ⟨rfl, nd1, hnd⟩; have HQn := Aside0.mk (show Below (w.heap.size + 3) W0 w1n by rw [hnd]; exact pw_below_drewN HQ.out nd1); clear ca cb0 cb1 cb2 cb3 cr fr hnd HQ; have HQ := HQn; clear HQn; obtain ⟨ca, cb0, cb1, cb2, cb3, cr, fr⟩ := da_cells (HF0.out _ HQ.out)) | ((with_reducible refine gate_dst (N := 39) rfl ?_); refine ld29 (HF0.out _ HQ.out).1 (.tmp 2) rfl rfl rfl ?_))
 (try simp only [Exit.inBlock, Exit.then])
 exact bodyPost_ret (ret29 (x := .slice none 0 0) (y := .bool false) rfl _ _ (blk_put (HF0.out _ HQ.out).2.2.1 0 _ rfl) rfl rfl) rfl ⟨_, rfl, Kd.R_nil _ _ _ _ _, below_set (HF0.out _ HQ.out).2.2.2.1 (by omega)⟩
set_option maxHeartbeats 16000000 in
set_option maxRecDepth 100000 in
theorem sda_r4a (A : Option Addr) (c : Nat) (l : List S67) (ki : Int) (an at_ ao : ByteArray) (w : World) (hr : Kd.C k67 w A l.length l) (hc : l.length ≤ c) (hl : l.length ≤ 2000000) (hok : okD l = true) (hnm : nameB an = true) (hk : ki = 3) (ht : at_.toList.isEmpty = false) :
  Calls Try.prog 22 #[.agg #[.slice A l.length c], .agg #[.int .i64 ki, .string an, .string at_, .string ao]] w fun e w' => ∃ v : Value, e = .returned (.tuple #[.agg #[v], .bool false]) ∧ Kd.R k67 67 w' w.heap.size (fun _ => True) v [] ∧ Below w.heap.size w w' := by
 have HC := Aside0.mk hr; have HCC := Aside0.mk hc; have HL := Aside0.mk hl; have HOK := Aside0.mk hok
 obtain ⟨W0, HS0, HF0, HB0, HW0, hcs⟩ := da_go w A l.length c ki an at_ ao
 obtain ⟨ca, cb0, cb1, cb2, cb3, cr, fr⟩ := da_cells hcs
 clear hr hc hl hok hcs
 subst hk
 have HNM := Aside0.mk hnm
 clear hnm
 go_enter Try.func22, Try.ntmps22
 go_wp2_with (first | ((with_reducible refine gate_dst (N := 9) rfl ?_); rw [HW0.out]; refine ld29 (HF0.out _ HB0.out).1 (.tmp 2) rfl rfl rfl ?_) | (go_at_call 13; (with_reducible refine (spec_ok_walk _ c l _ ?s1 ?s2 ?s3).mono ?_); (case s1 => exact Kd.C_below HC.out (HF0.out _ HB0.out).2.2.2.1); (case s2 => exact HCC.out); (case s3 => have := HL.out; omega); rw [HOK.out]; rintro e_ w1 ⟨rfl, hb1⟩; have HQ := Aside0.mk (HB0.out.trans (hb1.mono (by have := HS0.out; omega))); clear ca cb0 cb1 cb2 cb3 cr fr hb1; obtain ⟨ca, cb0, cb1, cb2, cb3, cr, fr⟩ := da_cells (HF0.out _ HQ.out)) | (go_at_call 48; (with_reducible refine (name48 an _).mono ?_); rw [HNM.out]; rintro e_ w1n ⟨rfl, nd1, hnd⟩; have HQn := Aside0.mk (show Below (w.heap.size + 3) W0 w1n by rw [hnd]; exact pw_below_drewN HQ.out nd1); clear ca cb0 cb1 cb2 cb3 cr fr hnd HQ; have HQ := HQn; clear HQn; obtain ⟨ca, cb0, cb1, cb2, cb3, cr, fr⟩ := da_cells (HF0.out _ HQ.out)) | ((with_reducible refine gate_dst (N := 39) rfl ?_); refine ld29 (HF0.out _ HQ.out).1 (.tmp 2) rfl rfl rfl ?_))
 (try simp only [Exit.inBlock, Exit.then])
 exact bodyPost_ret (ret29 (x := .slice none 0 0) (y := .bool false) rfl _ _ (blk_put (HF0.out _ HQ.out).2.2.1 0 _ rfl) rfl rfl) rfl ⟨_, rfl, Kd.R_nil _ _ _ _ _, below_set (HF0.out _ HQ.out).2.2.2.1 (by omega)⟩
set_option maxHeartbeats 16000000 in
set_option maxRecDepth 100000 in
theorem sda_r4b (A : Option Addr) (c : Nat) (l : List S67) (ki : Int) (an at_ ao : ByteArray) (w : World) (hr : Kd.C k67 w A l.length l) (hc : l.length ≤ c) (hl : l.length ≤ 2000000) (hok : okD l = true) (hnm : nameB an = true) (hk1 : (ki == 1) = false) (hk3 : (ki == 3) = false) (hto : ao.toList.isEmpty = true) (ht : at_.toList.isEmpty = false) :
  Calls Try.prog 22 #[.agg #[.slice A l.length c], .agg #[.int .i64 ki, .string an, .string at_, .string ao]] w fun e w' => ∃ v : Value, e = .returned (.tuple #[.agg #[v], .bool false]) ∧ Kd.R k67 67 w' w.heap.size (fun _ => True) v [] ∧ Below w.heap.size w w' := by
 have HC := Aside0.mk hr; have HCC := Aside0.mk hc; have HL := Aside0.mk hl; have HOK := Aside0.mk hok
 obtain ⟨W0, HS0, HF0, HB0, HW0, hcs⟩ := da_go w A l.length c ki an at_ ao
 obtain ⟨ca, cb0, cb1, cb2, cb3, cr, fr⟩ := da_cells hcs
 clear hr hc hl hok hcs
 have HNM := Aside0.mk hnm
 clear hnm
 have hn1 : (ki != 1) = true := by rw [bne, hk1]; rfl
 have hn3 : (ki != 3) = true := by rw [bne, hk3]; rfl
 go_enter Try.func22, Try.ntmps22
 go_wp2_with (first | ((with_reducible refine gate_dst (N := 9) rfl ?_); rw [HW0.out]; refine ld29 (HF0.out _ HB0.out).1 (.tmp 2) rfl rfl rfl ?_) | (go_at_call 13; (with_reducible refine (spec_ok_walk _ c l _ ?s1 ?s2 ?s3).mono ?_); (case s1 => exact Kd.C_below HC.out (HF0.out _ HB0.out).2.2.2.1); (case s2 => exact HCC.out); (case s3 => have := HL.out; omega); rw [HOK.out]; rintro e_ w1 ⟨rfl, hb1⟩; have HQ := Aside0.mk (HB0.out.trans (hb1.mono (by have := HS0.out; omega))); clear ca cb0 cb1 cb2 cb3 cr fr hb1; obtain ⟨ca, cb0, cb1, cb2, cb3, cr, fr⟩ := da_cells (HF0.out _ HQ.out)) | (go_at_call 48; (with_reducible refine (name48 an _).mono ?_); rw [HNM.out]; rintro e_ w1n ⟨rfl, nd1, hnd⟩; have HQn := Aside0.mk (show Below (w.heap.size + 3) W0 w1n by rw [hnd]; exact pw_below_drewN HQ.out nd1); clear ca cb0 cb1 cb2 cb3 cr fr hnd HQ; have HQ := HQn; clear HQn; obtain ⟨ca, cb0, cb1, cb2, cb3, cr, fr⟩ := da_cells (HF0.out _ HQ.out)) | ((with_reducible refine gate_dst (N := 39) rfl ?_); refine ld29 (HF0.out _ HQ.out).1 (.tmp 2) rfl rfl rfl ?_))
 (try simp only [Exit.inBlock, Exit.then])
 exact bodyPost_ret (ret29 (x := .slice none 0 0) (y := .bool false) rfl _ _ (blk_put (HF0.out _ HQ.out).2.2.1 0 _ rfl) rfl rfl) rfl ⟨_, rfl, Kd.R_nil _ _ _ _ _, below_set (HF0.out _ HQ.out).2.2.2.1 (by omega)⟩
set_option maxHeartbeats 16000000 in
set_option maxRecDepth 100000 in
theorem sda_n3 (A : Option Addr) (c : Nat) (l : List S67) (ki : Int) (an at_ ao : ByteArray) (w : World) (hr : Kd.C k67 w A l.length l) (hc : l.length ≤ c) (hl : l.length ≤ 2000000) (hok : okD l = true) (hnm : nameB an = true) (hk : ki = 3) (hat : atD l an = -1) (hte : at_.toList.isEmpty = true) :
  Calls Try.prog 22 #[.agg #[.slice A l.length c], .agg #[.int .i64 ki, .string an, .string at_, .string ao]] w fun e w' => ∃ v : Value, e = .returned (.tuple #[.agg #[v], .bool false]) ∧ Kd.R k67 67 w' w.heap.size (fun _ => True) v [] ∧ Below w.heap.size w w' := by
 have HC := Aside0.mk hr; have HCC := Aside0.mk hc; have HL := Aside0.mk hl; have HOK := Aside0.mk hok
 obtain ⟨W0, HS0, HF0, HB0, HW0, hcs⟩ := da_go w A l.length c ki an at_ ao
 obtain ⟨ca, cb0, cb1, cb2, cb3, cr, fr⟩ := da_cells hcs
 clear hr hc hl hok hcs
 subst hk
 have HNM := Aside0.mk hnm
 clear hnm
 have HAT := Aside0.mk hat
 clear hat
 go_enter Try.func22, Try.ntmps22
 go_wp2_with (first | ((with_reducible refine gate_dst (N := 9) rfl ?_); rw [HW0.out]; refine ld29 (HF0.out _ HB0.out).1 (.tmp 2) rfl rfl rfl ?_) | (go_at_call 13; (with_reducible refine (spec_ok_walk _ c l _ ?s1 ?s2 ?s3).mono ?_); (case s1 => exact Kd.C_below HC.out (HF0.out _ HB0.out).2.2.2.1); (case s2 => exact HCC.out); (case s3 => have := HL.out; omega); rw [HOK.out]; rintro e_ w1 ⟨rfl, hb1⟩; have HQ := Aside0.mk (HB0.out.trans (hb1.mono (by have := HS0.out; omega))); clear ca cb0 cb1 cb2 cb3 cr fr hb1; obtain ⟨ca, cb0, cb1, cb2, cb3, cr, fr⟩ := da_cells (HF0.out _ HQ.out)) | (go_at_call 48; (with_reducible refine (name48 an _).mono ?_); rw [HNM.out]; rintro e_ w1n ⟨rfl, nd1, hnd⟩; have HQn := Aside0.mk (show Below (w.heap.size + 3) W0 w1n by rw [hnd]; exact pw_below_drewN HQ.out nd1); clear ca cb0 cb1 cb2 cb3 cr fr hnd HQ; have HQ := HQn; clear HQn; obtain ⟨ca, cb0, cb1, cb2, cb3, cr, fr⟩ := da_cells (HF0.out _ HQ.out)) | ((with_reducible refine gate_dst (N := 39) rfl ?_); refine ld29 (HF0.out _ HQ.out).1 (.tmp 2) rfl rfl rfl ?_) | (go_at_call 53; (with_reducible refine (at53 _ c l an _ ?s1 ?s2 ?s3).mono ?_); (case s1 => exact Kd.C_below HC.out (HF0.out _ HQ.out).2.2.2.1); (case s2 => exact HCC.out); (case s3 => have := HL.out; omega); rw [HAT.out]; rintro e_ w2 ⟨rfl, hb2⟩; have HQ2 := Aside0.mk (HQ.out.trans (hb2.mono (by have := (HF0.out _ HQ.out).2.2.2.2; omega))); clear ca cb0 cb1 cb2 cb3 cr fr hb2; (have hs2 := (HF0.out _ HQ2.out).2.2.2.2); obtain ⟨b2a, b20, b21, b22, b23, b2r, b2f⟩ := da_cells (HF0.out _ HQ2.out); (obtain ⟨W4, hW4⟩ : ∃ W4, w2.alloc (.cells #[.string an, .string ⟨#[]⟩, .int .i64 0] 67) = W4 := ⟨_, rfl⟩); (have HQ4 := Aside0.mk (show Below (w.heap.size + 3) W0 W4 by rw [← hW4]; exact HQ2.out.alloc hs2 _)); (have H84 := Aside0.mk (show W4.heap[w2.heap.size]? = some (.cells #[.string an, .string ⟨#[]⟩, .int .i64 0] 67 (0, 0)) by rw [← hW4]; exact blk_new _ _)); (have HS4 := Aside0.mk (show W4.heap.size = w2.heap.size + 1 by rw [← hW4, dk_sz])); have HW4 := Aside0.mk hW4; clear hW4; obtain ⟨g4a, g40, g41, g42, g43, g4r, g4f⟩ := da_cells (HF0.out _ HQ4.out); have h40 := (blk_cell H84.out 0).trans rfl; have h41 := (blk_cell H84.out 1).trans rfl; have h42 := (blk_cell H84.out 2).trans rfl; have f4 := fun j => blk_frozen H84.out j; (obtain ⟨W7, hW7⟩ : ∃ W7, W4.alloc (.cells #[.slice none 0 0] 29) = W7 := ⟨_, rfl⟩); (have HQ7 := Aside0.mk (show Below (w.heap.size + 3) W0 W7 by rw [← hW7]; exact HQ4.out.alloc (by have := HS4.out; omega) _)); (have H87 := Aside0.mk (show W7.heap[w2.heap.size]? = some (.cells #[.string an, .string ⟨#[]⟩, .int .i64 0] 67 (0, 0)) by rw [← hW7]; exact blk_alloc H84.out _)); (have HS7 := Aside0.mk (show W7.heap.size = w2.heap.size + 2 by rw [← hW7, dk_sz, HS4.out])); (have HO7 := Aside0.mk (show W7.heap[w2.heap.size + 1]? = some (.cells #[.slice none 0 0] 29 (0, 0)) by rw [← hW7, ← HS4.out]; exact blk_new _ _)); have HW7 := Aside0.mk hW7; clear hW7; obtain ⟨g7a, g70, g71, g72, g73, g7r, g7f⟩ := da_cells (HF0.out _ HQ7.out); have h70 := (blk_cell H87.out 0).trans rfl; have h71 := (blk_cell H87.out 1).trans rfl; have h72 := (blk_cell H87.out 2).trans rfl; have f7 := fun j => blk_frozen H87.out j) | ((with_reducible refine gate_dst (N := 57) rfl ?_); rw [HW4.out, HW7.out]; (try rw [HS4.out])))
 (try simp only [Exit.inBlock, Exit.then])
 exact bodyPost_ret (ret29 (x := .slice none 0 0) (y := .bool false) rfl _ _ (blk_put (HF0.out _ HQ7.out).2.2.1 0 _ rfl) rfl rfl) rfl ⟨_, rfl, Kd.R_nil _ _ _ _ _, below_set (HF0.out _ HQ7.out).2.2.2.1 (by omega)⟩
set_option maxHeartbeats 16000000 in
set_option maxRecDepth 100000 in
theorem sda_nx (A : Option Addr) (c : Nat) (l : List S67) (ki : Int) (an at_ ao : ByteArray) (w : World) (hr : Kd.C k67 w A l.length l) (hc : l.length ≤ c) (hl : l.length ≤ 2000000) (hok : okD l = true) (hnm : nameB an = true) (hk1 : (ki == 1) = false) (hk3 : (ki == 3) = false) (hat : atD l an = -1) (hte : at_.toList.isEmpty = true) (hto : ao.toList.isEmpty = true) :
  Calls Try.prog 22 #[.agg #[.slice A l.length c], .agg #[.int .i64 ki, .string an, .string at_, .string ao]] w fun e w' => ∃ v : Value, e = .returned (.tuple #[.agg #[v], .bool false]) ∧ Kd.R k67 67 w' w.heap.size (fun _ => True) v [] ∧ Below w.heap.size w w' := by
 have HC := Aside0.mk hr; have HCC := Aside0.mk hc; have HL := Aside0.mk hl; have HOK := Aside0.mk hok
 obtain ⟨W0, HS0, HF0, HB0, HW0, hcs⟩ := da_go w A l.length c ki an at_ ao
 obtain ⟨ca, cb0, cb1, cb2, cb3, cr, fr⟩ := da_cells hcs
 clear hr hc hl hok hcs
 have HNM := Aside0.mk hnm
 clear hnm
 have hn1 : (ki != 1) = true := by rw [bne, hk1]; rfl
 have hn3 : (ki != 3) = true := by rw [bne, hk3]; rfl
 have HAT := Aside0.mk hat
 clear hat
 go_enter Try.func22, Try.ntmps22
 go_wp2_with (first | ((with_reducible refine gate_dst (N := 9) rfl ?_); rw [HW0.out]; refine ld29 (HF0.out _ HB0.out).1 (.tmp 2) rfl rfl rfl ?_) | (go_at_call 13; (with_reducible refine (spec_ok_walk _ c l _ ?s1 ?s2 ?s3).mono ?_); (case s1 => exact Kd.C_below HC.out (HF0.out _ HB0.out).2.2.2.1); (case s2 => exact HCC.out); (case s3 => have := HL.out; omega); rw [HOK.out]; rintro e_ w1 ⟨rfl, hb1⟩; have HQ := Aside0.mk (HB0.out.trans (hb1.mono (by have := HS0.out; omega))); clear ca cb0 cb1 cb2 cb3 cr fr hb1; obtain ⟨ca, cb0, cb1, cb2, cb3, cr, fr⟩ := da_cells (HF0.out _ HQ.out)) | (go_at_call 48; (with_reducible refine (name48 an _).mono ?_); rw [HNM.out]; rintro e_ w1n ⟨rfl, nd1, hnd⟩; have HQn := Aside0.mk (show Below (w.heap.size + 3) W0 w1n by rw [hnd]; exact pw_below_drewN HQ.out nd1); clear ca cb0 cb1 cb2 cb3 cr fr hnd HQ; have HQ := HQn; clear HQn; obtain ⟨ca, cb0, cb1, cb2, cb3, cr, fr⟩ := da_cells (HF0.out _ HQ.out)) | ((with_reducible refine gate_dst (N := 39) rfl ?_); refine ld29 (HF0.out _ HQ.out).1 (.tmp 2) rfl rfl rfl ?_) | (go_at_call 53; (with_reducible refine (at53 _ c l an _ ?s1 ?s2 ?s3).mono ?_); (case s1 => exact Kd.C_below HC.out (HF0.out _ HQ.out).2.2.2.1); (case s2 => exact HCC.out); (case s3 => have := HL.out; omega); rw [HAT.out]; rintro e_ w2 ⟨rfl, hb2⟩; have HQ2 := Aside0.mk (HQ.out.trans (hb2.mono (by have := (HF0.out _ HQ.out).2.2.2.2; omega))); clear ca cb0 cb1 cb2 cb3 cr fr hb2; (have hs2 := (HF0.out _ HQ2.out).2.2.2.2); obtain ⟨b2a, b20, b21, b22, b23, b2r, b2f⟩ := da_cells (HF0.out _ HQ2.out); (obtain ⟨W4, hW4⟩ : ∃ W4, w2.alloc (.cells #[.string an, .string ⟨#[]⟩, .int .i64 0] 67) = W4 := ⟨_, rfl⟩); (have HQ4 := Aside0.mk (show Below (w.heap.size + 3) W0 W4 by rw [← hW4]; exact HQ2.out.alloc hs2 _)); (have H84 := Aside0.mk (show W4.heap[w2.heap.size]? = some (.cells #[.string an, .string ⟨#[]⟩, .int .i64 0] 67 (0, 0)) by rw [← hW4]; exact blk_new _ _)); (have HS4 := Aside0.mk (show W4.heap.size = w2.heap.size + 1 by rw [← hW4, dk_sz])); have HW4 := Aside0.mk hW4; clear hW4; obtain ⟨g4a, g40, g41, g42, g43, g4r, g4f⟩ := da_cells (HF0.out _ HQ4.out); have h40 := (blk_cell H84.out 0).trans rfl; have h41 := (blk_cell H84.out 1).trans rfl; have h42 := (blk_cell H84.out 2).trans rfl; have f4 := fun j => blk_frozen H84.out j; (obtain ⟨W7, hW7⟩ : ∃ W7, W4.alloc (.cells #[.slice none 0 0] 29) = W7 := ⟨_, rfl⟩); (have HQ7 := Aside0.mk (show Below (w.heap.size + 3) W0 W7 by rw [← hW7]; exact HQ4.out.alloc (by have := HS4.out; omega) _)); (have H87 := Aside0.mk (show W7.heap[w2.heap.size]? = some (.cells #[.string an, .string ⟨#[]⟩, .int .i64 0] 67 (0, 0)) by rw [← hW7]; exact blk_alloc H84.out _)); (have HS7 := Aside0.mk (show W7.heap.size = w2.heap.size + 2 by rw [← hW7, dk_sz, HS4.out])); (have HO7 := Aside0.mk (show W7.heap[w2.heap.size + 1]? = some (.cells #[.slice none 0 0] 29 (0, 0)) by rw [← hW7, ← HS4.out]; exact blk_new _ _)); have HW7 := Aside0.mk hW7; clear hW7; obtain ⟨g7a, g70, g71, g72, g73, g7r, g7f⟩ := da_cells (HF0.out _ HQ7.out); have h70 := (blk_cell H87.out 0).trans rfl; have h71 := (blk_cell H87.out 1).trans rfl; have h72 := (blk_cell H87.out 2).trans rfl; have f7 := fun j => blk_frozen H87.out j) | ((with_reducible refine gate_dst (N := 57) rfl ?_); rw [HW4.out, HW7.out]; (try rw [HS4.out])))
 (try simp only [Exit.inBlock, Exit.then])
 exact bodyPost_ret (ret29 (x := .slice none 0 0) (y := .bool false) rfl _ _ (blk_put (HF0.out _ HQ7.out).2.2.1 0 _ rfl) rfl rfl) rfl ⟨_, rfl, Kd.R_nil _ _ _ _ _, below_set (HF0.out _ HQ7.out).2.2.2.1 (by omega)⟩
set_option maxHeartbeats 16000000 in
set_option maxRecDepth 100000 in
theorem sda_1j (A : Option Addr) (c : Nat) (l : List S67) (ki : Int) (an at_ ao : ByteArray) (w : World) (hr : Kd.C k67 w A l.length l) (hc : l.length ≤ c) (hl : l.length ≤ 2000000) (hok : okD l = true) (hnm : nameB an = true) (hk : ki = 1) {j : Nat} (hat : atD l an = (j : Int)) (hj : j < l.length) {fn ft : ByteArray} {fk : Int} (hx : l.getD j z67 = ⟨fn, ft, fk⟩) (hto : ao.toList.isEmpty = true) (hsz : ft.size + at_.size ≤ 9000000000) {L8 : List S67} (hLL : putD l ⟨fn, ft ++ at_, fk⟩ = L8) (hLN : L8.length ≤ 6000000) {b : Bool} (hok2 : okD L8 = b) :
  Calls Try.prog 22 #[.agg #[.slice A l.length c], .agg #[.int .i64 ki, .string an, .string at_, .string ao]] w fun e w' => ∃ v : Value, e = .returned (.tuple #[.agg #[v], .bool b]) ∧ Kd.R k67 67 w' w.heap.size (fun _ => True) v (cond b L8 []) ∧ Below w.heap.size w w' := by
 cases b
 all_goals
  have HC := Aside0.mk hr; have HCC := Aside0.mk hc; have HL := Aside0.mk hl; have HOK := Aside0.mk hok
  obtain ⟨W0, HS0, HF0, HB0, HW0, hcs⟩ := da_go w A l.length c ki an at_ ao
  obtain ⟨ca, cb0, cb1, cb2, cb3, cr, fr⟩ := da_cells hcs
  clear hr hc hl hok hcs
  subst hk
  have hsz2 : (ft.size : Int) + (at_.size : Int) ≤ 9223372036854775807 := by omega
  have hsz4 : (9223372036854775807 < ft.size + at_.size) = False := eq_false (by omega)
  have HNM := Aside0.mk hnm
  clear hnm
  have HLL := Aside0.mk hLL
  have HLN := Aside0.mk hLN
  have HOK2 := Aside0.mk hok2
  clear hLL hLN hok2
  obtain ⟨hi', hi2, hi0, hi1, hi3⟩ := dj_go hj
  have HJ := Aside0.mk hj
  have HX := Aside0.mk hx
  have HAT := Aside0.mk hat
  obtain ⟨ad, ea, -, -, -⟩ := dk_row HC.out j hj
  subst ea
  clear hx hat
  go_enter Try.func22, Try.ntmps22
  go_wp2_with (first | ((with_reducible refine gate_dst (N := 9) rfl ?_); rw [HW0.out]; refine ld29 (HF0.out _ HB0.out).1 (.tmp 2) rfl rfl rfl ?_) | (go_at_call 13; (with_reducible refine (spec_ok_walk _ c l _ ?s1 ?s2 ?s3).mono ?_); (case s1 => exact Kd.C_below HC.out (HF0.out _ HB0.out).2.2.2.1); (case s2 => exact HCC.out); (case s3 => have := HL.out; omega); rw [HOK.out]; rintro e_ w1 ⟨rfl, hb1⟩; have HQ := Aside0.mk (HB0.out.trans (hb1.mono (by have := HS0.out; omega))); clear ca cb0 cb1 cb2 cb3 cr fr hb1; obtain ⟨ca, cb0, cb1, cb2, cb3, cr, fr⟩ := da_cells (HF0.out _ HQ.out)) | (go_at_call 48; (with_reducible refine (name48 an _).mono ?_); rw [HNM.out]; rintro e_ w1n ⟨rfl, nd1, hnd⟩; have HQn := Aside0.mk (show Below (w.heap.size + 3) W0 w1n by rw [hnd]; exact pw_below_drewN HQ.out nd1); clear ca cb0 cb1 cb2 cb3 cr fr hnd HQ; have HQ := HQn; clear HQn; obtain ⟨ca, cb0, cb1, cb2, cb3, cr, fr⟩ := da_cells (HF0.out _ HQ.out)) | ((with_reducible refine gate_dst (N := 39) rfl ?_); refine ld29 (HF0.out _ HQ.out).1 (.tmp 2) rfl rfl rfl ?_) | (go_at_call 53; (with_reducible refine (at53 _ c l an _ ?s1 ?s2 ?s3).mono ?_); (case s1 => exact Kd.C_below HC.out (HF0.out _ HQ.out).2.2.2.1); (case s2 => exact HCC.out); (case s3 => have := HL.out; omega); rw [HAT.out]; rintro e_ w2 ⟨rfl, hb2⟩; have HQ2 := Aside0.mk (HQ.out.trans (hb2.mono (by have := (HF0.out _ HQ.out).2.2.2.2; omega))); clear ca cb0 cb1 cb2 cb3 cr fr hb2; (have hs2 := (HF0.out _ HQ2.out).2.2.2.2); obtain ⟨b2a, b20, b21, b22, b23, b2r, b2f⟩ := da_cells (HF0.out _ HQ2.out); (obtain ⟨W4, hW4⟩ : ∃ W4, w2.alloc (.cells #[.string an, .string ⟨#[]⟩, .int .i64 0] 67) = W4 := ⟨_, rfl⟩); (have HQ4 := Aside0.mk (show Below (w.heap.size + 3) W0 W4 by rw [← hW4]; exact HQ2.out.alloc hs2 _)); (have H84 := Aside0.mk (show W4.heap[w2.heap.size]? = some (.cells #[.string an, .string ⟨#[]⟩, .int .i64 0] 67 (0, 0)) by rw [← hW4]; exact blk_new _ _)); (have HS4 := Aside0.mk (show W4.heap.size = w2.heap.size + 1 by rw [← hW4, dk_sz])); have HW4 := Aside0.mk hW4; clear hW4; obtain ⟨g4a, g40, g41, g42, g43, g4r, g4f⟩ := da_cells (HF0.out _ HQ4.out); have h40 := (blk_cell H84.out 0).trans rfl; have h41 := (blk_cell H84.out 1).trans rfl; have h42 := (blk_cell H84.out 2).trans rfl; have f4 := fun j => blk_frozen H84.out j; (obtain ⟨ad_, e_, ex0, ex1, ex2⟩ := dk_row (Kd.C_below HC.out (HF0.out _ HQ4.out).2.2.2.1) j HJ.out); cases e_; rw [HX.out] at ex0 ex1 ex2; simp only at ex0 ex1 ex2; (obtain ⟨W6, hW6⟩ : ∃ W6, (((W4.setCell ⟨w2.heap.size, 0, none⟩ (.string fn)).setCell ⟨w2.heap.size, 1, none⟩ (.string ft)).setCell ⟨w2.heap.size, 2, none⟩ (.int .i64 fk)) = W6 := ⟨_, rfl⟩); (have HQ6 := Aside0.mk (show Below (w.heap.size + 3) W0 W6 by rw [← hW6]; exact (((HQ4.out.setCell (show w.heap.size + 3 ≤ w2.heap.size by omega) _).setCell (show w.heap.size + 3 ≤ w2.heap.size by omega) _).setCell (show w.heap.size + 3 ≤ w2.heap.size by omega) _))); (have H86 := Aside0.mk (show W6.heap[w2.heap.size]? = some (.cells #[.string fn, .string ft, .int .i64 fk] 67 (0, 0)) by rw [← hW6]; exact (blk_put (blk_put (blk_put H84.out 0 _ rfl) 1 _ rfl) 2 _ rfl))); (have HS6 := Aside0.mk (show W6.heap.size = w2.heap.size + 1 by rw [← hW6]; simp only [World.setCell, Array.size_modify]; exact HS4.out)); have HW6 := Aside0.mk hW6; clear hW6; obtain ⟨g6a, g60, g61, g62, g63, g6r, g6f⟩ := da_cells (HF0.out _ HQ6.out); have h60 := (blk_cell H86.out 0).trans rfl; have h61 := (blk_cell H86.out 1).trans rfl; have h62 := (blk_cell H86.out 2).trans rfl; have f6 := fun j => blk_frozen H86.out j; (obtain ⟨W7, hW7⟩ : ∃ W7, W6.alloc (.cells #[.slice none 0 0] 29) = W7 := ⟨_, rfl⟩); (have HQ7 := Aside0.mk (show Below (w.heap.size + 3) W0 W7 by rw [← hW7]; exact HQ6.out.alloc (by have := HS6.out; omega) _)); (have H87 := Aside0.mk (show W7.heap[w2.heap.size]? = some (.cells #[.string fn, .string ft, .int .i64 fk] 67 (0, 0)) by rw [← hW7]; exact blk_alloc H86.out _)); (have HS7 := Aside0.mk (show W7.heap.size = w2.heap.size + 2 by rw [← hW7, dk_sz, HS6.out])); (have HO7 := Aside0.mk (show W7.heap[w2.heap.size + 1]? = some (.cells #[.slice none 0 0] 29 (0, 0)) by rw [← hW7, ← HS6.out]; exact blk_new _ _)); have HW7 := Aside0.mk hW7; clear hW7; obtain ⟨g7a, g70, g71, g72, g73, g7r, g7f⟩ := da_cells (HF0.out _ HQ7.out); have h70 := (blk_cell H87.out 0).trans rfl; have h71 := (blk_cell H87.out 1).trans rfl; have h72 := (blk_cell H87.out 2).trans rfl; have f7 := fun j => blk_frozen H87.out j; (obtain ⟨W8, hW8⟩ : ∃ W8, (W7.setCell ⟨w2.heap.size, 1, none⟩ (.string (ft ++ at_))) = W8 := ⟨_, rfl⟩); (have HQ8 := Aside0.mk (show Below (w.heap.size + 3) W0 W8 by rw [← hW8]; exact (HQ7.out.setCell (show w.heap.size + 3 ≤ w2.heap.size by omega) _))); (have H88 := Aside0.mk (show W8.heap[w2.heap.size]? = some (.cells #[.string fn, .string (ft ++ at_), .int .i64 fk] 67 (0, 0)) by rw [← hW8]; exact (blk_put H87.out 1 _ rfl))); (have HS8 := Aside0.mk (show W8.heap.size = w2.heap.size + 2 by rw [← hW8]; simp only [World.setCell, Array.size_modify]; exact HS7.out)); (have HO8 := Aside0.mk (show W8.heap[w2.heap.size + 1]? = some (.cells #[.slice none 0 0] 29 (0, 0)) by rw [← hW8]; exact (blk_far HO7.out (show w2.heap.size + 1 ≠ w2.heap.size by omega) _))); have HW8 := Aside0.mk hW8; clear hW8; obtain ⟨g8a, g80, g81, g82, g83, g8r, g8f⟩ := da_cells (HF0.out _ HQ8.out); have h80 := (blk_cell H88.out 0).trans rfl; have h81 := (blk_cell H88.out 1).trans rfl; have h82 := (blk_cell H88.out 2).trans rfl; have f8 := fun j => blk_frozen H88.out j) | ((with_reducible refine gate_dst (N := 49) rfl ?_); rw [HW4.out]) | ((with_reducible refine gate_dst (N := 57) rfl ?_); rw [HW6.out, HW7.out]; (try rw [HS4.out])) | ((with_reducible refine gate_dst (N := 65) rfl ?_); rw [HW8.out]; refine ld29 (HF0.out _ HQ8.out).1 (.tmp 2) rfl rfl rfl ?_) | ((with_reducible refine gate_dst (N := 66) rfl ?_); refine ld67 H88.out (.tmp 7) rfl rfl rfl ?_) | (go_at_call 55; (with_reducible refine (put_walk _ c l fn (ft ++ at_) fk W8 ?s1 ?s2 ?s3).mono ?_); (case s1 => exact Kd.C_below HC.out (HF0.out _ HQ8.out).2.2.2.1); (case s2 => exact HCC.out); (case s3 => have := HL.out; omega); rw [HLL.out]; rintro e_ w9 ⟨v9, rfl, ho9, hb9⟩; have HQ9 := Aside0.mk (HQ8.out.trans (hb9.mono (by have := (HF0.out _ HQ8.out).2.2.2.2; omega))); obtain ⟨A8, c8, hv8⟩ := Kd.R_slice ho9; subst hv8; (have HR9 := Aside0.mk (Kd.R_lower (base' := w.heap.size) ho9 (by have := (HF0.out _ HQ8.out).2.2.2.1.size; omega))); (have ho9b := (hb9.block (w2.heap.size + 1) (by have := HS8.out; omega)).trans HO8.out); (have o9c := (blk_cell ho9b 0).trans rfl); (have o9f := blk_frozen ho9b 0); (obtain ⟨W10, hW10⟩ : ∃ W10, w9.setCell ⟨w2.heap.size + 1, 0, none⟩ (.slice A8 L8.length c8) = W10 := ⟨_, rfl⟩); (have HQ10 := Aside0.mk (show Below (w.heap.size + 3) W0 W10 by rw [← hW10]; exact HQ9.out.setCell (show w.heap.size + 3 ≤ w2.heap.size + 1 by omega) _)); (have HP10 := Aside0.mk (show ptSt W10 w.heap.size (w2.heap.size + 1) (.slice A8 L8.length c8) L8 by rw [← hW10]; exact ⟨blk_put ho9b 0 _ rfl, Kd.R_set HR9.out ho9b (by decide) 0 _⟩)); (obtain ⟨A8_, c8_, hv8_, hc8, hC8⟩ := Kd.R_reads HP10.out.2); cases hv8_; have HC8 := Aside0.mk hC8; have HCC8 := Aside0.mk hc8; have HW10 := Aside0.mk hW10; clear hW10 ho9b hc8 hC8 ho9 hb9) | ((with_reducible refine gate_dst (N := 124) rfl ?_); (try rw [HW10.out]); refine ld29 HP10.out.1 (.tmp 8) rfl rfl rfl ?_) | (go_at_call 13; (with_reducible refine (spec_ok_walk A8 c8 L8 _ ?s1 ?s2 ?s3).mono ?_); (case s1 => exact HC8.out); (case s2 => exact HCC8.out); (case s3 => have := HLN.out; omega); rw [HOK2.out]; rintro e_ w11 ⟨rfl, hb11⟩; have HQ11 := Aside0.mk (HQ10.out.trans (hb11.mono (HF0.out _ HQ10.out).2.2.2.2)); have HP11 := Aside0.mk (show ptSt w11 w.heap.size (w2.heap.size + 1) (.slice A8 L8.length c8) L8 from ⟨blk_below HP10.out.1 hb11, Kd.R_below HP10.out.2 hb11⟩); obtain ⟨m9a, m90, m91, m92, m93, m9r, m9f⟩ := da_cells (HF0.out _ HQ11.out); clear hb11) | ((with_reducible refine gate_dst (N := 128) rfl ?_); refine ld29 HP11.out.1 (.tmp 8) rfl rfl rfl ?_))
  (try simp only [Exit.inBlock, Exit.then])
 ·exact bodyPost_ret (ret29 (x := .slice none 0 0) (y := .bool false) rfl _ _ (blk_put (HF0.out _ HQ11.out).2.2.1 0 _ rfl) rfl rfl) rfl ⟨_, rfl, Kd.R_nil _ _ _ _ _, below_set (HF0.out _ HQ11.out).2.2.2.1 (by omega)⟩
 ·exact bodyPost_ret (ret29 (x := .slice A8 L8.length c8) (y := .bool true) rfl _ _ (blk_put (HF0.out _ HQ11.out).2.2.1 0 _ rfl) rfl rfl) rfl ⟨_, rfl, Kd.R_set HP11.out.2 (HF0.out _ HQ11.out).2.2.1 (by decide) 0 _, below_set (HF0.out _ HQ11.out).2.2.2.1 (by omega)⟩
set_option maxHeartbeats 16000000 in
set_option maxRecDepth 100000 in
theorem sda_1n (A : Option Addr) (c : Nat) (l : List S67) (ki : Int) (an at_ ao : ByteArray) (w : World) (hr : Kd.C k67 w A l.length l) (hc : l.length ≤ c) (hl : l.length ≤ 2000000) (hok : okD l = true) (hnm : nameB an = true) (hk : ki = 1) (hat : atD l an = -1) (hto : ao.toList.isEmpty = true) (hsz : at_.size ≤ 9000000000) {L8 : List S67} (hLL : putD l ⟨an, (⟨#[]⟩ : ByteArray) ++ at_, 0⟩ = L8) (hLN : L8.length ≤ 6000000) {b : Bool} (hok2 : okD L8 = b) :
  Calls Try.prog 22 #[.agg #[.slice A l.length c], .agg #[.int .i64 ki, .string an, .string at_, .string ao]] w fun e w' => ∃ v : Value, e = .returned (.tuple #[.agg #[v], .bool b]) ∧ Kd.R k67 67 w' w.heap.size (fun _ => True) v (cond b L8 []) ∧ Below w.heap.size w w' := by
 cases b
 all_goals
  have HC := Aside0.mk hr; have HCC := Aside0.mk hc; have HL := Aside0.mk hl; have HOK := Aside0.mk hok
  obtain ⟨W0, HS0, HF0, HB0, HW0, hcs⟩ := da_go w A l.length c ki an at_ ao
  obtain ⟨ca, cb0, cb1, cb2, cb3, cr, fr⟩ := da_cells hcs
  clear hr hc hl hok hcs
  subst hk
  have hsz2 : (at_.size : Int) ≤ 9223372036854775807 := by omega
  have hsz4 : (9223372036854775807 < at_.size) = False := eq_false (by omega)
  have HAT := Aside0.mk hat
  clear hat
  have HNM := Aside0.mk hnm
  clear hnm
  have HLL := Aside0.mk hLL
  have HLN := Aside0.mk hLN
  have HOK2 := Aside0.mk hok2
  clear hLL hLN hok2
  go_enter Try.func22, Try.ntmps22
  go_wp2_with (first | ((with_reducible refine gate_dst (N := 9) rfl ?_); rw [HW0.out]; refine ld29 (HF0.out _ HB0.out).1 (.tmp 2) rfl rfl rfl ?_) | (go_at_call 13; (with_reducible refine (spec_ok_walk _ c l _ ?s1 ?s2 ?s3).mono ?_); (case s1 => exact Kd.C_below HC.out (HF0.out _ HB0.out).2.2.2.1); (case s2 => exact HCC.out); (case s3 => have := HL.out; omega); rw [HOK.out]; rintro e_ w1 ⟨rfl, hb1⟩; have HQ := Aside0.mk (HB0.out.trans (hb1.mono (by have := HS0.out; omega))); clear ca cb0 cb1 cb2 cb3 cr fr hb1; obtain ⟨ca, cb0, cb1, cb2, cb3, cr, fr⟩ := da_cells (HF0.out _ HQ.out)) | (go_at_call 48; (with_reducible refine (name48 an _).mono ?_); rw [HNM.out]; rintro e_ w1n ⟨rfl, nd1, hnd⟩; have HQn := Aside0.mk (show Below (w.heap.size + 3) W0 w1n by rw [hnd]; exact pw_below_drewN HQ.out nd1); clear ca cb0 cb1 cb2 cb3 cr fr hnd HQ; have HQ := HQn; clear HQn; obtain ⟨ca, cb0, cb1, cb2, cb3, cr, fr⟩ := da_cells (HF0.out _ HQ.out)) | ((with_reducible refine gate_dst (N := 39) rfl ?_); refine ld29 (HF0.out _ HQ.out).1 (.tmp 2) rfl rfl rfl ?_) | (go_at_call 53; (with_reducible refine (at53 _ c l an _ ?s1 ?s2 ?s3).mono ?_); (case s1 => exact Kd.C_below HC.out (HF0.out _ HQ.out).2.2.2.1); (case s2 => exact HCC.out); (case s3 => have := HL.out; omega); rw [HAT.out]; rintro e_ w2 ⟨rfl, hb2⟩; have HQ2 := Aside0.mk (HQ.out.trans (hb2.mono (by have := (HF0.out _ HQ.out).2.2.2.2; omega))); clear ca cb0 cb1 cb2 cb3 cr fr hb2; (have hs2 := (HF0.out _ HQ2.out).2.2.2.2); obtain ⟨b2a, b20, b21, b22, b23, b2r, b2f⟩ := da_cells (HF0.out _ HQ2.out); (obtain ⟨W4, hW4⟩ : ∃ W4, w2.alloc (.cells #[.string an, .string ⟨#[]⟩, .int .i64 0] 67) = W4 := ⟨_, rfl⟩); (have HQ4 := Aside0.mk (show Below (w.heap.size + 3) W0 W4 by rw [← hW4]; exact HQ2.out.alloc hs2 _)); (have H84 := Aside0.mk (show W4.heap[w2.heap.size]? = some (.cells #[.string an, .string ⟨#[]⟩, .int .i64 0] 67 (0, 0)) by rw [← hW4]; exact blk_new _ _)); (have HS4 := Aside0.mk (show W4.heap.size = w2.heap.size + 1 by rw [← hW4, dk_sz])); have HW4 := Aside0.mk hW4; clear hW4; obtain ⟨g4a, g40, g41, g42, g43, g4r, g4f⟩ := da_cells (HF0.out _ HQ4.out); have h40 := (blk_cell H84.out 0).trans rfl; have h41 := (blk_cell H84.out 1).trans rfl; have h42 := (blk_cell H84.out 2).trans rfl; have f4 := fun j => blk_frozen H84.out j; (obtain ⟨W7, hW7⟩ : ∃ W7, W4.alloc (.cells #[.slice none 0 0] 29) = W7 := ⟨_, rfl⟩); (have HQ7 := Aside0.mk (show Below (w.heap.size + 3) W0 W7 by rw [← hW7]; exact HQ4.out.alloc (by have := HS4.out; omega) _)); (have H87 := Aside0.mk (show W7.heap[w2.heap.size]? = some (.cells #[.string an, .string ⟨#[]⟩, .int .i64 0] 67 (0, 0)) by rw [← hW7]; exact blk_alloc H84.out _)); (have HS7 := Aside0.mk (show W7.heap.size = w2.heap.size + 2 by rw [← hW7, dk_sz, HS4.out])); (have HO7 := Aside0.mk (show W7.heap[w2.heap.size + 1]? = some (.cells #[.slice none 0 0] 29 (0, 0)) by rw [← hW7, ← HS4.out]; exact blk_new _ _)); have HW7 := Aside0.mk hW7; clear hW7; obtain ⟨g7a, g70, g71, g72, g73, g7r, g7f⟩ := da_cells (HF0.out _ HQ7.out); have h70 := (blk_cell H87.out 0).trans rfl; have h71 := (blk_cell H87.out 1).trans rfl; have h72 := (blk_cell H87.out 2).trans rfl; have f7 := fun j => blk_frozen H87.out j; (obtain ⟨W8, hW8⟩ : ∃ W8, (W7.setCell ⟨w2.heap.size, 1, none⟩ (.string ((⟨#[]⟩ : ByteArray) ++ at_))) = W8 := ⟨_, rfl⟩); (have HQ8 := Aside0.mk (show Below (w.heap.size + 3) W0 W8 by rw [← hW8]; exact (HQ7.out.setCell (show w.heap.size + 3 ≤ w2.heap.size by omega) _))); (have H88 := Aside0.mk (show W8.heap[w2.heap.size]? = some (.cells #[.string an, .string ((⟨#[]⟩ : ByteArray) ++ at_), .int .i64 0] 67 (0, 0)) by rw [← hW8]; exact (blk_put H87.out 1 _ rfl))); (have HS8 := Aside0.mk (show W8.heap.size = w2.heap.size + 2 by rw [← hW8]; simp only [World.setCell, Array.size_modify]; exact HS7.out)); (have HO8 := Aside0.mk (show W8.heap[w2.heap.size + 1]? = some (.cells #[.slice none 0 0] 29 (0, 0)) by rw [← hW8]; exact (blk_far HO7.out (show w2.heap.size + 1 ≠ w2.heap.size by omega) _))); have HW8 := Aside0.mk hW8; clear hW8; obtain ⟨g8a, g80, g81, g82, g83, g8r, g8f⟩ := da_cells (HF0.out _ HQ8.out); have h80 := (blk_cell H88.out 0).trans rfl; have h81 := (blk_cell H88.out 1).trans rfl; have h82 := (blk_cell H88.out 2).trans rfl; have f8 := fun j => blk_frozen H88.out j) | ((with_reducible refine gate_dst (N := 57) rfl ?_); rw [HW4.out, HW7.out]; (try rw [HS4.out])) | ((with_reducible refine gate_dst (N := 65) rfl ?_); rw [HW8.out]; refine ld29 (HF0.out _ HQ8.out).1 (.tmp 2) rfl rfl rfl ?_) | ((with_reducible refine gate_dst (N := 66) rfl ?_); refine ld67 H88.out (.tmp 7) rfl rfl rfl ?_) | (go_at_call 55; (with_reducible refine (put_walk _ c l an ((⟨#[]⟩ : ByteArray) ++ at_) 0 W8 ?s1 ?s2 ?s3).mono ?_); (case s1 => exact Kd.C_below HC.out (HF0.out _ HQ8.out).2.2.2.1); (case s2 => exact HCC.out); (case s3 => have := HL.out; omega); rw [HLL.out]; rintro e_ w9 ⟨v9, rfl, ho9, hb9⟩; have HQ9 := Aside0.mk (HQ8.out.trans (hb9.mono (by have := (HF0.out _ HQ8.out).2.2.2.2; omega))); obtain ⟨A8, c8, hv8⟩ := Kd.R_slice ho9; subst hv8; (have HR9 := Aside0.mk (Kd.R_lower (base' := w.heap.size) ho9 (by have := (HF0.out _ HQ8.out).2.2.2.1.size; omega))); (have ho9b := (hb9.block (w2.heap.size + 1) (by have := HS8.out; omega)).trans HO8.out); (have o9c := (blk_cell ho9b 0).trans rfl); (have o9f := blk_frozen ho9b 0); (obtain ⟨W10, hW10⟩ : ∃ W10, w9.setCell ⟨w2.heap.size + 1, 0, none⟩ (.slice A8 L8.length c8) = W10 := ⟨_, rfl⟩); (have HQ10 := Aside0.mk (show Below (w.heap.size + 3) W0 W10 by rw [← hW10]; exact HQ9.out.setCell (show w.heap.size + 3 ≤ w2.heap.size + 1 by omega) _)); (have HP10 := Aside0.mk (show ptSt W10 w.heap.size (w2.heap.size + 1) (.slice A8 L8.length c8) L8 by rw [← hW10]; exact ⟨blk_put ho9b 0 _ rfl, Kd.R_set HR9.out ho9b (by decide) 0 _⟩)); (obtain ⟨A8_, c8_, hv8_, hc8, hC8⟩ := Kd.R_reads HP10.out.2); cases hv8_; have HC8 := Aside0.mk hC8; have HCC8 := Aside0.mk hc8; have HW10 := Aside0.mk hW10; clear hW10 ho9b hc8 hC8 ho9 hb9) | ((with_reducible refine gate_dst (N := 124) rfl ?_); (try rw [HW10.out]); refine ld29 HP10.out.1 (.tmp 8) rfl rfl rfl ?_) | (go_at_call 13; (with_reducible refine (spec_ok_walk A8 c8 L8 _ ?s1 ?s2 ?s3).mono ?_); (case s1 => exact HC8.out); (case s2 => exact HCC8.out); (case s3 => have := HLN.out; omega); rw [HOK2.out]; rintro e_ w11 ⟨rfl, hb11⟩; have HQ11 := Aside0.mk (HQ10.out.trans (hb11.mono (HF0.out _ HQ10.out).2.2.2.2)); have HP11 := Aside0.mk (show ptSt w11 w.heap.size (w2.heap.size + 1) (.slice A8 L8.length c8) L8 from ⟨blk_below HP10.out.1 hb11, Kd.R_below HP10.out.2 hb11⟩); obtain ⟨m9a, m90, m91, m92, m93, m9r, m9f⟩ := da_cells (HF0.out _ HQ11.out); clear hb11) | ((with_reducible refine gate_dst (N := 128) rfl ?_); refine ld29 HP11.out.1 (.tmp 8) rfl rfl rfl ?_))
  (try simp only [Exit.inBlock, Exit.then])
 ·exact bodyPost_ret (ret29 (x := .slice none 0 0) (y := .bool false) rfl _ _ (blk_put (HF0.out _ HQ11.out).2.2.1 0 _ rfl) rfl rfl) rfl ⟨_, rfl, Kd.R_nil _ _ _ _ _, below_set (HF0.out _ HQ11.out).2.2.2.1 (by omega)⟩
 ·exact bodyPost_ret (ret29 (x := .slice A8 L8.length c8) (y := .bool true) rfl _ _ (blk_put (HF0.out _ HQ11.out).2.2.1 0 _ rfl) rfl rfl) rfl ⟨_, rfl, Kd.R_set HP11.out.2 (HF0.out _ HQ11.out).2.2.1 (by decide) 0 _, below_set (HF0.out _ HQ11.out).2.2.2.1 (by omega)⟩
set_option maxHeartbeats 16000000 in
set_option maxRecDepth 100000 in
theorem sda_2j (A : Option Addr) (c : Nat) (l : List S67) (ki : Int) (an at_ ao : ByteArray) (w : World) (hr : Kd.C k67 w A l.length l) (hc : l.length ≤ c) (hl : l.length ≤ 2000000) (hok : okD l = true) (hnm : nameB an = true) (hk : ki = 2) {j : Nat} (hat : atD l an = (j : Int)) (hj : j < l.length) {fn ft : ByteArray} {fk : Int} (hx : l.getD j z67 = ⟨fn, ft, fk⟩) (hte : at_.toList.isEmpty = true) (hto : ao.toList.isEmpty = true) {L8 : List S67} (hLL : putD l ⟨fn, ft, (ft.size : Int)⟩ = L8) (hLN : L8.length ≤ 6000000) {b : Bool} (hok2 : okD L8 = b) :
  Calls Try.prog 22 #[.agg #[.slice A l.length c], .agg #[.int .i64 ki, .string an, .string at_, .string ao]] w fun e w' => ∃ v : Value, e = .returned (.tuple #[.agg #[v], .bool b]) ∧ Kd.R k67 67 w' w.heap.size (fun _ => True) v (cond b L8 []) ∧ Below w.heap.size w w' := by
 cases b
 all_goals
  have HC := Aside0.mk hr; have HCC := Aside0.mk hc; have HL := Aside0.mk hl; have HOK := Aside0.mk hok
  obtain ⟨W0, HS0, HF0, HB0, HW0, hcs⟩ := da_go w A l.length c ki an at_ ao
  obtain ⟨ca, cb0, cb1, cb2, cb3, cr, fr⟩ := da_cells hcs
  clear hr hc hl hok hcs
  subst hk
  have HNM := Aside0.mk hnm
  clear hnm
  have HLL := Aside0.mk hLL
  have HLN := Aside0.mk hLN
  have HOK2 := Aside0.mk hok2
  clear hLL hLN hok2
  obtain ⟨hi', hi2, hi0, hi1, hi3⟩ := dj_go hj
  have HJ := Aside0.mk hj
  have HX := Aside0.mk hx
  have HAT := Aside0.mk hat
  obtain ⟨ad, ea, -, -, -⟩ := dk_row HC.out j hj
  subst ea
  clear hx hat
  go_enter Try.func22, Try.ntmps22
  go_wp2_with (first | ((with_reducible refine gate_dst (N := 9) rfl ?_); rw [HW0.out]; refine ld29 (HF0.out _ HB0.out).1 (.tmp 2) rfl rfl rfl ?_) | (go_at_call 13; (with_reducible refine (spec_ok_walk _ c l _ ?s1 ?s2 ?s3).mono ?_); (case s1 => exact Kd.C_below HC.out (HF0.out _ HB0.out).2.2.2.1); (case s2 => exact HCC.out); (case s3 => have := HL.out; omega); rw [HOK.out]; rintro e_ w1 ⟨rfl, hb1⟩; have HQ := Aside0.mk (HB0.out.trans (hb1.mono (by have := HS0.out; omega))); clear ca cb0 cb1 cb2 cb3 cr fr hb1; obtain ⟨ca, cb0, cb1, cb2, cb3, cr, fr⟩ := da_cells (HF0.out _ HQ.out)) | (go_at_call 48; (with_reducible refine (name48 an _).mono ?_); rw [HNM.out]; rintro e_ w1n ⟨rfl, nd1, hnd⟩; have HQn := Aside0.mk (show Below (w.heap.size + 3) W0 w1n by rw [hnd]; exact pw_below_drewN HQ.out nd1); clear ca cb0 cb1 cb2 cb3 cr fr hnd HQ; have HQ := HQn; clear HQn; obtain ⟨ca, cb0, cb1, cb2, cb3, cr, fr⟩ := da_cells (HF0.out _ HQ.out)) | ((with_reducible refine gate_dst (N := 39) rfl ?_); refine ld29 (HF0.out _ HQ.out).1 (.tmp 2) rfl rfl rfl ?_) | (go_at_call 53; (with_reducible refine (at53 _ c l an _ ?s1 ?s2 ?s3).mono ?_); (case s1 => exact Kd.C_below HC.out (HF0.out _ HQ.out).2.2.2.1); (case s2 => exact HCC.out); (case s3 => have := HL.out; omega); rw [HAT.out]; rintro e_ w2 ⟨rfl, hb2⟩; have HQ2 := Aside0.mk (HQ.out.trans (hb2.mono (by have := (HF0.out _ HQ.out).2.2.2.2; omega))); clear ca cb0 cb1 cb2 cb3 cr fr hb2; (have hs2 := (HF0.out _ HQ2.out).2.2.2.2); obtain ⟨b2a, b20, b21, b22, b23, b2r, b2f⟩ := da_cells (HF0.out _ HQ2.out); (obtain ⟨W4, hW4⟩ : ∃ W4, w2.alloc (.cells #[.string an, .string ⟨#[]⟩, .int .i64 0] 67) = W4 := ⟨_, rfl⟩); (have HQ4 := Aside0.mk (show Below (w.heap.size + 3) W0 W4 by rw [← hW4]; exact HQ2.out.alloc hs2 _)); (have H84 := Aside0.mk (show W4.heap[w2.heap.size]? = some (.cells #[.string an, .string ⟨#[]⟩, .int .i64 0] 67 (0, 0)) by rw [← hW4]; exact blk_new _ _)); (have HS4 := Aside0.mk (show W4.heap.size = w2.heap.size + 1 by rw [← hW4, dk_sz])); have HW4 := Aside0.mk hW4; clear hW4; obtain ⟨g4a, g40, g41, g42, g43, g4r, g4f⟩ := da_cells (HF0.out _ HQ4.out); have h40 := (blk_cell H84.out 0).trans rfl; have h41 := (blk_cell H84.out 1).trans rfl; have h42 := (blk_cell H84.out 2).trans rfl; have f4 := fun j => blk_frozen H84.out j; (obtain ⟨ad_, e_, ex0, ex1, ex2⟩ := dk_row (Kd.C_below HC.out (HF0.out _ HQ4.out).2.2.2.1) j HJ.out); cases e_; rw [HX.out] at ex0 ex1 ex2; simp only at ex0 ex1 ex2; (obtain ⟨W6, hW6⟩ : ∃ W6, (((W4.setCell ⟨w2.heap.size, 0, none⟩ (.string fn)).setCell ⟨w2.heap.size, 1, none⟩ (.string ft)).setCell ⟨w2.heap.size, 2, none⟩ (.int .i64 fk)) = W6 := ⟨_, rfl⟩); (have HQ6 := Aside0.mk (show Below (w.heap.size + 3) W0 W6 by rw [← hW6]; exact (((HQ4.out.setCell (show w.heap.size + 3 ≤ w2.heap.size by omega) _).setCell (show w.heap.size + 3 ≤ w2.heap.size by omega) _).setCell (show w.heap.size + 3 ≤ w2.heap.size by omega) _))); (have H86 := Aside0.mk (show W6.heap[w2.heap.size]? = some (.cells #[.string fn, .string ft, .int .i64 fk] 67 (0, 0)) by rw [← hW6]; exact (blk_put (blk_put (blk_put H84.out 0 _ rfl) 1 _ rfl) 2 _ rfl))); (have HS6 := Aside0.mk (show W6.heap.size = w2.heap.size + 1 by rw [← hW6]; simp only [World.setCell, Array.size_modify]; exact HS4.out)); have HW6 := Aside0.mk hW6; clear hW6; obtain ⟨g6a, g60, g61, g62, g63, g6r, g6f⟩ := da_cells (HF0.out _ HQ6.out); have h60 := (blk_cell H86.out 0).trans rfl; have h61 := (blk_cell H86.out 1).trans rfl; have h62 := (blk_cell H86.out 2).trans rfl; have f6 := fun j => blk_frozen H86.out j; (obtain ⟨W7, hW7⟩ : ∃ W7, W6.alloc (.cells #[.slice none 0 0] 29) = W7 := ⟨_, rfl⟩); (have HQ7 := Aside0.mk (show Below (w.heap.size + 3) W0 W7 by rw [← hW7]; exact HQ6.out.alloc (by have := HS6.out; omega) _)); (have H87 := Aside0.mk (show W7.heap[w2.heap.size]? = some (.cells #[.string fn, .string ft, .int .i64 fk] 67 (0, 0)) by rw [← hW7]; exact blk_alloc H86.out _)); (have HS7 := Aside0.mk (show W7.heap.size = w2.heap.size + 2 by rw [← hW7, dk_sz, HS6.out])); (have HO7 := Aside0.mk (show W7.heap[w2.heap.size + 1]? = some (.cells #[.slice none 0 0] 29 (0, 0)) by rw [← hW7, ← HS6.out]; exact blk_new _ _)); have HW7 := Aside0.mk hW7; clear hW7; obtain ⟨g7a, g70, g71, g72, g73, g7r, g7f⟩ := da_cells (HF0.out _ HQ7.out); have h70 := (blk_cell H87.out 0).trans rfl; have h71 := (blk_cell H87.out 1).trans rfl; have h72 := (blk_cell H87.out 2).trans rfl; have f7 := fun j => blk_frozen H87.out j; (obtain ⟨W8, hW8⟩ : ∃ W8, (W7.setCell ⟨w2.heap.size, 2, none⟩ (.int .i64 (ft.size : Int))) = W8 := ⟨_, rfl⟩); (have HQ8 := Aside0.mk (show Below (w.heap.size + 3) W0 W8 by rw [← hW8]; exact (HQ7.out.setCell (show w.heap.size + 3 ≤ w2.heap.size by omega) _))); (have H88 := Aside0.mk (show W8.heap[w2.heap.size]? = some (.cells #[.string fn, .string ft, .int .i64 (ft.size : Int)] 67 (0, 0)) by rw [← hW8]; exact (blk_put H87.out 2 _ rfl))); (have HS8 := Aside0.mk (show W8.heap.size = w2.heap.size + 2 by rw [← hW8]; simp only [World.setCell, Array.size_modify]; exact HS7.out)); (have HO8 := Aside0.mk (show W8.heap[w2.heap.size + 1]? = some (.cells #[.slice none 0 0] 29 (0, 0)) by rw [← hW8]; exact (blk_far HO7.out (show w2.heap.size + 1 ≠ w2.heap.size by omega) _))); have HW8 := Aside0.mk hW8; clear hW8; obtain ⟨g8a, g80, g81, g82, g83, g8r, g8f⟩ := da_cells (HF0.out _ HQ8.out); have h80 := (blk_cell H88.out 0).trans rfl; have h81 := (blk_cell H88.out 1).trans rfl; have h82 := (blk_cell H88.out 2).trans rfl; have f8 := fun j => blk_frozen H88.out j) | ((with_reducible refine gate_dst (N := 49) rfl ?_); rw [HW4.out]) | ((with_reducible refine gate_dst (N := 57) rfl ?_); rw [HW6.out, HW7.out]; (try rw [HS4.out])) | ((with_reducible refine gate_dst (N := 80) rfl ?_); rw [HW8.out]; refine ld29 (HF0.out _ HQ8.out).1 (.tmp 2) rfl rfl rfl ?_) | ((with_reducible refine gate_dst (N := 81) rfl ?_); refine ld67 H88.out (.tmp 7) rfl rfl rfl ?_) | (go_at_call 55; (with_reducible refine (put_walk _ c l fn ft (ft.size : Int) W8 ?s1 ?s2 ?s3).mono ?_); (case s1 => exact Kd.C_below HC.out (HF0.out _ HQ8.out).2.2.2.1); (case s2 => exact HCC.out); (case s3 => have := HL.out; omega); rw [HLL.out]; rintro e_ w9 ⟨v9, rfl, ho9, hb9⟩; have HQ9 := Aside0.mk (HQ8.out.trans (hb9.mono (by have := (HF0.out _ HQ8.out).2.2.2.2; omega))); obtain ⟨A8, c8, hv8⟩ := Kd.R_slice ho9; subst hv8; (have HR9 := Aside0.mk (Kd.R_lower (base' := w.heap.size) ho9 (by have := (HF0.out _ HQ8.out).2.2.2.1.size; omega))); (have ho9b := (hb9.block (w2.heap.size + 1) (by have := HS8.out; omega)).trans HO8.out); (have o9c := (blk_cell ho9b 0).trans rfl); (have o9f := blk_frozen ho9b 0); (obtain ⟨W10, hW10⟩ : ∃ W10, w9.setCell ⟨w2.heap.size + 1, 0, none⟩ (.slice A8 L8.length c8) = W10 := ⟨_, rfl⟩); (have HQ10 := Aside0.mk (show Below (w.heap.size + 3) W0 W10 by rw [← hW10]; exact HQ9.out.setCell (show w.heap.size + 3 ≤ w2.heap.size + 1 by omega) _)); (have HP10 := Aside0.mk (show ptSt W10 w.heap.size (w2.heap.size + 1) (.slice A8 L8.length c8) L8 by rw [← hW10]; exact ⟨blk_put ho9b 0 _ rfl, Kd.R_set HR9.out ho9b (by decide) 0 _⟩)); (obtain ⟨A8_, c8_, hv8_, hc8, hC8⟩ := Kd.R_reads HP10.out.2); cases hv8_; have HC8 := Aside0.mk hC8; have HCC8 := Aside0.mk hc8; have HW10 := Aside0.mk hW10; clear hW10 ho9b hc8 hC8 ho9 hb9) | ((with_reducible refine gate_dst (N := 124) rfl ?_); (try rw [HW10.out]); refine ld29 HP10.out.1 (.tmp 8) rfl rfl rfl ?_) | (go_at_call 13; (with_reducible refine (spec_ok_walk A8 c8 L8 _ ?s1 ?s2 ?s3).mono ?_); (case s1 => exact HC8.out); (case s2 => exact HCC8.out); (case s3 => have := HLN.out; omega); rw [HOK2.out]; rintro e_ w11 ⟨rfl, hb11⟩; have HQ11 := Aside0.mk (HQ10.out.trans (hb11.mono (HF0.out _ HQ10.out).2.2.2.2)); have HP11 := Aside0.mk (show ptSt w11 w.heap.size (w2.heap.size + 1) (.slice A8 L8.length c8) L8 from ⟨blk_below HP10.out.1 hb11, Kd.R_below HP10.out.2 hb11⟩); obtain ⟨m9a, m90, m91, m92, m93, m9r, m9f⟩ := da_cells (HF0.out _ HQ11.out); clear hb11) | ((with_reducible refine gate_dst (N := 128) rfl ?_); refine ld29 HP11.out.1 (.tmp 8) rfl rfl rfl ?_))
  (try simp only [Exit.inBlock, Exit.then])
 ·exact bodyPost_ret (ret29 (x := .slice none 0 0) (y := .bool false) rfl _ _ (blk_put (HF0.out _ HQ11.out).2.2.1 0 _ rfl) rfl rfl) rfl ⟨_, rfl, Kd.R_nil _ _ _ _ _, below_set (HF0.out _ HQ11.out).2.2.2.1 (by omega)⟩
 ·exact bodyPost_ret (ret29 (x := .slice A8 L8.length c8) (y := .bool true) rfl _ _ (blk_put (HF0.out _ HQ11.out).2.2.1 0 _ rfl) rfl rfl) rfl ⟨_, rfl, Kd.R_set HP11.out.2 (HF0.out _ HQ11.out).2.2.1 (by decide) 0 _, below_set (HF0.out _ HQ11.out).2.2.2.1 (by omega)⟩
set_option maxHeartbeats 16000000 in
set_option maxRecDepth 100000 in
theorem sda_4j (A : Option Addr) (c : Nat) (l : List S67) (ki : Int) (an at_ ao : ByteArray) (w : World) (hr : Kd.C k67 w A l.length l) (hc : l.length ≤ c) (hl : l.length ≤ 2000000) (hok : okD l = true) (hnm : nameB an = true) (hk : ki = 4) {j : Nat} (hat : atD l an = (j : Int)) (hj : j < l.length) {fn ft : ByteArray} {fk : Int} (hx : l.getD j z67 = ⟨fn, ft, fk⟩) (hte : at_.toList.isEmpty = true) (hto : ao.toList.isEmpty = true) {L8 : List S67} (hLL : withoutD l an = L8) (hLN : L8.length ≤ 6000000) {b : Bool} (hok2 : okD L8 = b) :
  Calls Try.prog 22 #[.agg #[.slice A l.length c], .agg #[.int .i64 ki, .string an, .string at_, .string ao]] w fun e w' => ∃ v : Value, e = .returned (.tuple #[.agg #[v], .bool b]) ∧ Kd.R k67 67 w' w.heap.size (fun _ => True) v (cond b L8 []) ∧ Below w.heap.size w w' := by
 cases b
 all_goals
  have HC := Aside0.mk hr; have HCC := Aside0.mk hc; have HL := Aside0.mk hl; have HOK := Aside0.mk hok
  obtain ⟨W0, HS0, HF0, HB0, HW0, hcs⟩ := da_go w A l.length c ki an at_ ao
  obtain ⟨ca, cb0, cb1, cb2, cb3, cr, fr⟩ := da_cells hcs
  clear hr hc hl hok hcs
  subst hk
  have HNM := Aside0.mk hnm
  clear hnm
  have HLL := Aside0.mk hLL
  have HLN := Aside0.mk hLN
  have HOK2 := Aside0.mk hok2
  clear hLL hLN hok2
  obtain ⟨hi', hi2, hi0, hi1, hi3⟩ := dj_go hj
  have HJ := Aside0.mk hj
  have HX := Aside0.mk hx
  have HAT := Aside0.mk hat
  obtain ⟨ad, ea, -, -, -⟩ := dk_row HC.out j hj
  subst ea
  clear hx hat
  go_enter Try.func22, Try.ntmps22
  go_wp2_with (first | ((with_reducible refine gate_dst (N := 9) rfl ?_); rw [HW0.out]; refine ld29 (HF0.out _ HB0.out).1 (.tmp 2) rfl rfl rfl ?_) | (go_at_call 13; (with_reducible refine (spec_ok_walk _ c l _ ?s1 ?s2 ?s3).mono ?_); (case s1 => exact Kd.C_below HC.out (HF0.out _ HB0.out).2.2.2.1); (case s2 => exact HCC.out); (case s3 => have := HL.out; omega); rw [HOK.out]; rintro e_ w1 ⟨rfl, hb1⟩; have HQ := Aside0.mk (HB0.out.trans (hb1.mono (by have := HS0.out; omega))); clear ca cb0 cb1 cb2 cb3 cr fr hb1; obtain ⟨ca, cb0, cb1, cb2, cb3, cr, fr⟩ := da_cells (HF0.out _ HQ.out)) | (go_at_call 48; (with_reducible refine (name48 an _).mono ?_); rw [HNM.out]; rintro e_ w1n ⟨rfl, nd1, hnd⟩; have HQn := Aside0.mk (show Below (w.heap.size + 3) W0 w1n by rw [hnd]; exact pw_below_drewN HQ.out nd1); clear ca cb0 cb1 cb2 cb3 cr fr hnd HQ; have HQ := HQn; clear HQn; obtain ⟨ca, cb0, cb1, cb2, cb3, cr, fr⟩ := da_cells (HF0.out _ HQ.out)) | ((with_reducible refine gate_dst (N := 39) rfl ?_); refine ld29 (HF0.out _ HQ.out).1 (.tmp 2) rfl rfl rfl ?_) | (go_at_call 53; (with_reducible refine (at53 _ c l an _ ?s1 ?s2 ?s3).mono ?_); (case s1 => exact Kd.C_below HC.out (HF0.out _ HQ.out).2.2.2.1); (case s2 => exact HCC.out); (case s3 => have := HL.out; omega); rw [HAT.out]; rintro e_ w2 ⟨rfl, hb2⟩; have HQ2 := Aside0.mk (HQ.out.trans (hb2.mono (by have := (HF0.out _ HQ.out).2.2.2.2; omega))); clear ca cb0 cb1 cb2 cb3 cr fr hb2; (have hs2 := (HF0.out _ HQ2.out).2.2.2.2); obtain ⟨b2a, b20, b21, b22, b23, b2r, b2f⟩ := da_cells (HF0.out _ HQ2.out); (obtain ⟨W4, hW4⟩ : ∃ W4, w2.alloc (.cells #[.string an, .string ⟨#[]⟩, .int .i64 0] 67) = W4 := ⟨_, rfl⟩); (have HQ4 := Aside0.mk (show Below (w.heap.size + 3) W0 W4 by rw [← hW4]; exact HQ2.out.alloc hs2 _)); (have H84 := Aside0.mk (show W4.heap[w2.heap.size]? = some (.cells #[.string an, .string ⟨#[]⟩, .int .i64 0] 67 (0, 0)) by rw [← hW4]; exact blk_new _ _)); (have HS4 := Aside0.mk (show W4.heap.size = w2.heap.size + 1 by rw [← hW4, dk_sz])); have HW4 := Aside0.mk hW4; clear hW4; obtain ⟨g4a, g40, g41, g42, g43, g4r, g4f⟩ := da_cells (HF0.out _ HQ4.out); have h40 := (blk_cell H84.out 0).trans rfl; have h41 := (blk_cell H84.out 1).trans rfl; have h42 := (blk_cell H84.out 2).trans rfl; have f4 := fun j => blk_frozen H84.out j; (obtain ⟨ad_, e_, ex0, ex1, ex2⟩ := dk_row (Kd.C_below HC.out (HF0.out _ HQ4.out).2.2.2.1) j HJ.out); cases e_; rw [HX.out] at ex0 ex1 ex2; simp only at ex0 ex1 ex2; (obtain ⟨W6, hW6⟩ : ∃ W6, (((W4.setCell ⟨w2.heap.size, 0, none⟩ (.string fn)).setCell ⟨w2.heap.size, 1, none⟩ (.string ft)).setCell ⟨w2.heap.size, 2, none⟩ (.int .i64 fk)) = W6 := ⟨_, rfl⟩); (have HQ6 := Aside0.mk (show Below (w.heap.size + 3) W0 W6 by rw [← hW6]; exact (((HQ4.out.setCell (show w.heap.size + 3 ≤ w2.heap.size by omega) _).setCell (show w.heap.size + 3 ≤ w2.heap.size by omega) _).setCell (show w.heap.size + 3 ≤ w2.heap.size by omega) _))); (have H86 := Aside0.mk (show W6.heap[w2.heap.size]? = some (.cells #[.string fn, .string ft, .int .i64 fk] 67 (0, 0)) by rw [← hW6]; exact (blk_put (blk_put (blk_put H84.out 0 _ rfl) 1 _ rfl) 2 _ rfl))); (have HS6 := Aside0.mk (show W6.heap.size = w2.heap.size + 1 by rw [← hW6]; simp only [World.setCell, Array.size_modify]; exact HS4.out)); have HW6 := Aside0.mk hW6; clear hW6; obtain ⟨g6a, g60, g61, g62, g63, g6r, g6f⟩ := da_cells (HF0.out _ HQ6.out); have h60 := (blk_cell H86.out 0).trans rfl; have h61 := (blk_cell H86.out 1).trans rfl; have h62 := (blk_cell H86.out 2).trans rfl; have f6 := fun j => blk_frozen H86.out j; (obtain ⟨W7, hW7⟩ : ∃ W7, W6.alloc (.cells #[.slice none 0 0] 29) = W7 := ⟨_, rfl⟩); (have HQ7 := Aside0.mk (show Below (w.heap.size + 3) W0 W7 by rw [← hW7]; exact HQ6.out.alloc (by have := HS6.out; omega) _)); (have H87 := Aside0.mk (show W7.heap[w2.heap.size]? = some (.cells #[.string fn, .string ft, .int .i64 fk] 67 (0, 0)) by rw [← hW7]; exact blk_alloc H86.out _)); (have HS7 := Aside0.mk (show W7.heap.size = w2.heap.size + 2 by rw [← hW7, dk_sz, HS6.out])); (have HO7 := Aside0.mk (show W7.heap[w2.heap.size + 1]? = some (.cells #[.slice none 0 0] 29 (0, 0)) by rw [← hW7, ← HS6.out]; exact blk_new _ _)); have HW7 := Aside0.mk hW7; clear hW7; obtain ⟨g7a, g70, g71, g72, g73, g7r, g7f⟩ := da_cells (HF0.out _ HQ7.out); have h70 := (blk_cell H87.out 0).trans rfl; have h71 := (blk_cell H87.out 1).trans rfl; have h72 := (blk_cell H87.out 2).trans rfl; have f7 := fun j => blk_frozen H87.out j) | ((with_reducible refine gate_dst (N := 49) rfl ?_); rw [HW4.out]) | ((with_reducible refine gate_dst (N := 57) rfl ?_); rw [HW6.out, HW7.out]; (try rw [HS4.out])) | ((with_reducible refine gate_dst (N := 120) rfl ?_); refine ld29 (HF0.out _ HQ7.out).1 (.tmp 2) rfl rfl rfl ?_) | (go_at_call 56; (with_reducible refine (without_walk _ c l an W7 ?s1 ?s2 ?s3).mono ?_); (case s1 => exact Kd.C_below HC.out (HF0.out _ HQ7.out).2.2.2.1); (case s2 => exact HCC.out); (case s3 => have := HL.out; omega); rw [HLL.out]; rintro e_ w9 ⟨v9, rfl, ho9, hb9⟩; have HQ9 := Aside0.mk (HQ7.out.trans (hb9.mono (by have := (HF0.out _ HQ7.out).2.2.2.2; omega))); obtain ⟨A8, c8, hv8⟩ := Kd.R_slice ho9; subst hv8; (have HR9 := Aside0.mk (Kd.R_lower (base' := w.heap.size) ho9 (by have := (HF0.out _ HQ7.out).2.2.2.1.size; omega))); (have ho9b := (hb9.block (w2.heap.size + 1) (by have := HS7.out; omega)).trans HO7.out); (have o9c := (blk_cell ho9b 0).trans rfl); (have o9f := blk_frozen ho9b 0); (obtain ⟨W10, hW10⟩ : ∃ W10, w9.setCell ⟨w2.heap.size + 1, 0, none⟩ (.slice A8 L8.length c8) = W10 := ⟨_, rfl⟩); (have HQ10 := Aside0.mk (show Below (w.heap.size + 3) W0 W10 by rw [← hW10]; exact HQ9.out.setCell (show w.heap.size + 3 ≤ w2.heap.size + 1 by omega) _)); (have HP10 := Aside0.mk (show ptSt W10 w.heap.size (w2.heap.size + 1) (.slice A8 L8.length c8) L8 by rw [← hW10]; exact ⟨blk_put ho9b 0 _ rfl, Kd.R_set HR9.out ho9b (by decide) 0 _⟩)); (obtain ⟨A8_, c8_, hv8_, hc8, hC8⟩ := Kd.R_reads HP10.out.2); cases hv8_; have HC8 := Aside0.mk hC8; have HCC8 := Aside0.mk hc8; have HW10 := Aside0.mk hW10; clear hW10 ho9b hc8 hC8 ho9 hb9) | ((with_reducible refine gate_dst (N := 124) rfl ?_); (try rw [HW10.out]); refine ld29 HP10.out.1 (.tmp 8) rfl rfl rfl ?_) | (go_at_call 13; (with_reducible refine (spec_ok_walk A8 c8 L8 _ ?s1 ?s2 ?s3).mono ?_); (case s1 => exact HC8.out); (case s2 => exact HCC8.out); (case s3 => have := HLN.out; omega); rw [HOK2.out]; rintro e_ w11 ⟨rfl, hb11⟩; have HQ11 := Aside0.mk (HQ10.out.trans (hb11.mono (HF0.out _ HQ10.out).2.2.2.2)); have HP11 := Aside0.mk (show ptSt w11 w.heap.size (w2.heap.size + 1) (.slice A8 L8.length c8) L8 from ⟨blk_below HP10.out.1 hb11, Kd.R_below HP10.out.2 hb11⟩); obtain ⟨m9a, m90, m91, m92, m93, m9r, m9f⟩ := da_cells (HF0.out _ HQ11.out); clear hb11) | ((with_reducible refine gate_dst (N := 128) rfl ?_); refine ld29 HP11.out.1 (.tmp 8) rfl rfl rfl ?_))
  (try simp only [Exit.inBlock, Exit.then])
 ·exact bodyPost_ret (ret29 (x := .slice none 0 0) (y := .bool false) rfl _ _ (blk_put (HF0.out _ HQ11.out).2.2.1 0 _ rfl) rfl rfl) rfl ⟨_, rfl, Kd.R_nil _ _ _ _ _, below_set (HF0.out _ HQ11.out).2.2.2.1 (by omega)⟩
 ·exact bodyPost_ret (ret29 (x := .slice A8 L8.length c8) (y := .bool true) rfl _ _ (blk_put (HF0.out _ HQ11.out).2.2.1 0 _ rfl) rfl rfl) rfl ⟨_, rfl, Kd.R_set HP11.out.2 (HF0.out _ HQ11.out).2.2.1 (by decide) 0 _, below_set (HF0.out _ HQ11.out).2.2.2.1 (by omega)⟩
set_option maxHeartbeats 16000000 in
set_option maxRecDepth 100000 in
theorem sda_3j (A : Option Addr) (c : Nat) (l : List S67) (ki : Int) (an at_ ao : ByteArray) (w : World) (hr : Kd.C k67 w A l.length l) (hc : l.length ≤ c) (hl : l.length ≤ 2000000) (hok : okD l = true) (hnm : nameB an = true) (hk : ki = 3) {j : Nat} (hat : atD l an = (j : Int)) (hj : j < l.length) {fn ft : ByteArray} {fk : Int} (hx : l.getD j z67 = ⟨fn, ft, fk⟩) (hte : at_.toList.isEmpty = true) (hfk : fk = (ft.size : Int)) (hne : (ao.toList == an.toList) = false) (hnb : nameB ao = true) {D7 : List S67} (hD : withoutD l an = D7) {L8 : List S67} (hLL : putD D7 ⟨ao, ft, fk⟩ = L8) (hLN : L8.length ≤ 6000000) {b : Bool} (hok2 : okD L8 = b) :
  Calls Try.prog 22 #[.agg #[.slice A l.length c], .agg #[.int .i64 ki, .string an, .string at_, .string ao]] w fun e w' => ∃ v : Value, e = .returned (.tuple #[.agg #[v], .bool b]) ∧ Kd.R k67 67 w' w.heap.size (fun _ => True) v (cond b L8 []) ∧ Below w.heap.size w w' := by
 cases b
 all_goals
  have HC := Aside0.mk hr; have HCC := Aside0.mk hc; have HL := Aside0.mk hl; have HOK := Aside0.mk hok
  obtain ⟨W0, HS0, HF0, HB0, HW0, hcs⟩ := da_go w A l.length c ki an at_ ao
  obtain ⟨ca, cb0, cb1, cb2, cb3, cr, fr⟩ := da_cells hcs
  clear hr hc hl hok hcs
  subst hk
  have hlt : decide (fk < (ft.size : Int)) = false := decide_eq_false (by omega)
  have hlt2 : ¬ fk < (ft.size : Int) := by omega
  have HNB := Aside0.mk hnb
  clear hnb
  have HLE := Aside0.mk (show D7.length ≤ 2000000 by have := List.length_filter_le (fun x : S67 => !(x.f0.toList == an.toList)) l; have := HL.out; rw [← hD]; unfold withoutD; omega)
  have HLD := Aside0.mk hD
  clear hD
  have HNM := Aside0.mk hnm
  clear hnm
  have HLL := Aside0.mk hLL
  have HLN := Aside0.mk hLN
  have HOK2 := Aside0.mk hok2
  clear hLL hLN hok2
  obtain ⟨hi', hi2, hi0, hi1, hi3⟩ := dj_go hj
  have HJ := Aside0.mk hj
  have HX := Aside0.mk hx
  have HAT := Aside0.mk hat
  obtain ⟨ad, ea, -, -, -⟩ := dk_row HC.out j hj
  subst ea
  clear hx hat hfk
  go_enter Try.func22, Try.ntmps22
  go_upto_region 21 with (first | ((with_reducible refine gate_dst (N := 9) rfl ?_); rw [HW0.out]; refine ld29 (HF0.out _ HB0.out).1 (.tmp 2) rfl rfl rfl ?_) | (go_at_call 13; (with_reducible refine (spec_ok_walk _ c l _ ?s1 ?s2 ?s3).mono ?_); (case s1 => exact Kd.C_below HC.out (HF0.out _ HB0.out).2.2.2.1); (case s2 => exact HCC.out); (case s3 => have := HL.out; omega); rw [HOK.out]; rintro e_ w1 ⟨rfl, hb1⟩; have HQ := Aside0.mk (HB0.out.trans (hb1.mono (by have := HS0.out; omega))); clear ca cb0 cb1 cb2 cb3 cr fr hb1; obtain ⟨ca, cb0, cb1, cb2, cb3, cr, fr⟩ := da_cells (HF0.out _ HQ.out)) | (go_at_call 48; (with_reducible refine (name48 an _).mono ?_); rw [HNM.out]; rintro e_ w1n ⟨rfl, nd1, hnd⟩; have HQn := Aside0.mk (show Below (w.heap.size + 3) W0 w1n by rw [hnd]; exact pw_below_drewN HQ.out nd1); clear ca cb0 cb1 cb2 cb3 cr fr hnd HQ; have HQ := HQn; clear HQn; obtain ⟨ca, cb0, cb1, cb2, cb3, cr, fr⟩ := da_cells (HF0.out _ HQ.out)) | ((with_reducible refine gate_dst (N := 39) rfl ?_); refine ld29 (HF0.out _ HQ.out).1 (.tmp 2) rfl rfl rfl ?_) | (go_at_call 53; (with_reducible refine (at53 _ c l an _ ?s1 ?s2 ?s3).mono ?_); (case s1 => exact Kd.C_below HC.out (HF0.out _ HQ.out).2.2.2.1); (case s2 => exact HCC.out); (case s3 => have := HL.out; omega); rw [HAT.out]; rintro e_ w2 ⟨rfl, hb2⟩; have HQ2 := Aside0.mk (HQ.out.trans (hb2.mono (by have := (HF0.out _ HQ.out).2.2.2.2; omega))); clear ca cb0 cb1 cb2 cb3 cr fr hb2; (have hs2 := (HF0.out _ HQ2.out).2.2.2.2); obtain ⟨b2a, b20, b21, b22, b23, b2r, b2f⟩ := da_cells (HF0.out _ HQ2.out); (obtain ⟨W4, hW4⟩ : ∃ W4, w2.alloc (.cells #[.string an, .string ⟨#[]⟩, .int .i64 0] 67) = W4 := ⟨_, rfl⟩); (have HQ4 := Aside0.mk (show Below (w.heap.size + 3) W0 W4 by rw [← hW4]; exact HQ2.out.alloc hs2 _)); (have H84 := Aside0.mk (show W4.heap[w2.heap.size]? = some (.cells #[.string an, .string ⟨#[]⟩, .int .i64 0] 67 (0, 0)) by rw [← hW4]; exact blk_new _ _)); (have HS4 := Aside0.mk (show W4.heap.size = w2.heap.size + 1 by rw [← hW4, dk_sz])); have HW4 := Aside0.mk hW4; clear hW4; obtain ⟨g4a, g40, g41, g42, g43, g4r, g4f⟩ := da_cells (HF0.out _ HQ4.out); have h40 := (blk_cell H84.out 0).trans rfl; have h41 := (blk_cell H84.out 1).trans rfl; have h42 := (blk_cell H84.out 2).trans rfl; have f4 := fun j => blk_frozen H84.out j; (obtain ⟨ad_, e_, ex0, ex1, ex2⟩ := dk_row (Kd.C_below HC.out (HF0.out _ HQ4.out).2.2.2.1) j HJ.out); cases e_; rw [HX.out] at ex0 ex1 ex2; simp only at ex0 ex1 ex2; (obtain ⟨W6, hW6⟩ : ∃ W6, (((W4.setCell ⟨w2.heap.size, 0, none⟩ (.string fn)).setCell ⟨w2.heap.size, 1, none⟩ (.string ft)).setCell ⟨w2.heap.size, 2, none⟩ (.int .i64 fk)) = W6 := ⟨_, rfl⟩); (have HQ6 := Aside0.mk (show Below (w.heap.size + 3) W0 W6 by rw [← hW6]; exact (((HQ4.out.setCell (show w.heap.size + 3 ≤ w2.heap.size by omega) _).setCell (show w.heap.size + 3 ≤ w2.heap.size by omega) _).setCell (show w.heap.size + 3 ≤ w2.heap.size by omega) _))); (have H86 := Aside0.mk (show W6.heap[w2.heap.size]? = some (.cells #[.string fn, .string ft, .int .i64 fk] 67 (0, 0)) by rw [← hW6]; exact (blk_put (blk_put (blk_put H84.out 0 _ rfl) 1 _ rfl) 2 _ rfl))); (have HS6 := Aside0.mk (show W6.heap.size = w2.heap.size + 1 by rw [← hW6]; simp only [World.setCell, Array.size_modify]; exact HS4.out)); have HW6 := Aside0.mk hW6; clear hW6; obtain ⟨g6a, g60, g61, g62, g63, g6r, g6f⟩ := da_cells (HF0.out _ HQ6.out); have h60 := (blk_cell H86.out 0).trans rfl; have h61 := (blk_cell H86.out 1).trans rfl; have h62 := (blk_cell H86.out 2).trans rfl; have f6 := fun j => blk_frozen H86.out j; (obtain ⟨W7, hW7⟩ : ∃ W7, W6.alloc (.cells #[.slice none 0 0] 29) = W7 := ⟨_, rfl⟩); (have HQ7 := Aside0.mk (show Below (w.heap.size + 3) W0 W7 by rw [← hW7]; exact HQ6.out.alloc (by have := HS6.out; omega) _)); (have H87 := Aside0.mk (show W7.heap[w2.heap.size]? = some (.cells #[.string fn, .string ft, .int .i64 fk] 67 (0, 0)) by rw [← hW7]; exact blk_alloc H86.out _)); (have HS7 := Aside0.mk (show W7.heap.size = w2.heap.size + 2 by rw [← hW7, dk_sz, HS6.out])); (have HO7 := Aside0.mk (show W7.heap[w2.heap.size + 1]? = some (.cells #[.slice none 0 0] 29 (0, 0)) by rw [← hW7, ← HS6.out]; exact blk_new _ _)); have HW7 := Aside0.mk hW7; clear hW7; obtain ⟨g7a, g70, g71, g72, g73, g7r, g7f⟩ := da_cells (HF0.out _ HQ7.out); have h70 := (blk_cell H87.out 0).trans rfl; have h71 := (blk_cell H87.out 1).trans rfl; have h72 := (blk_cell H87.out 2).trans rfl; have f7 := fun j => blk_frozen H87.out j) | ((with_reducible refine gate_dst (N := 49) rfl ?_); rw [HW4.out]) | ((with_reducible refine gate_dst (N := 57) rfl ?_); rw [HW6.out, HW7.out]; (try rw [HS4.out])) | (go_at_call 48; (with_reducible refine (name48 ao _).mono ?_); rw [HNB.out]; rintro e_ w17 ⟨rfl, nd2, hnd2⟩; (have HQ17 := Aside0.mk (show Below (w.heap.size + 3) W0 w17 by rw [hnd2]; exact pw_below_drewN HQ7.out nd2)); (have H817 := Aside0.mk (show w17.heap[w2.heap.size]? = some (.cells #[.string fn, .string ft, .int .i64 fk] 67 (0, 0)) by rw [hnd2]; exact blk_drewN H87.out nd2)); (have HO17 := Aside0.mk (show w17.heap[w2.heap.size + 1]? = some (.cells #[.slice none 0 0] 29 (0, 0)) by rw [hnd2]; exact blk_drewN HO7.out nd2)); (have HS17 := Aside0.mk (show w17.heap.size = w2.heap.size + 2 by rw [hnd2]; exact HS7.out)); clear hnd2; obtain ⟨g17a, g170, g171, g172, g173, g17r, g17f⟩ := da_cells (HF0.out _ HQ17.out); have h170 := (blk_cell H817.out 0).trans rfl; have h171 := (blk_cell H817.out 1).trans rfl; have h172 := (blk_cell H817.out 2).trans rfl; have f17 := fun j => blk_frozen H817.out j; (obtain ⟨W8, hW8⟩ : ∃ W8, (w17.setCell ⟨w2.heap.size, 0, none⟩ (.string ao)) = W8 := ⟨_, rfl⟩); (have HQ8 := Aside0.mk (show Below (w.heap.size + 3) W0 W8 by rw [← hW8]; exact (HQ17.out.setCell (show w.heap.size + 3 ≤ w2.heap.size by omega) _))); (have H88 := Aside0.mk (show W8.heap[w2.heap.size]? = some (.cells #[.string ao, .string ft, .int .i64 fk] 67 (0, 0)) by rw [← hW8]; exact (blk_put H817.out 0 _ rfl))); (have HS8 := Aside0.mk (show W8.heap.size = w2.heap.size + 2 by rw [← hW8]; simp only [World.setCell, Array.size_modify]; exact HS17.out)); (have HO8 := Aside0.mk (show W8.heap[w2.heap.size + 1]? = some (.cells #[.slice none 0 0] 29 (0, 0)) by rw [← hW8]; exact (blk_far HO17.out (show w2.heap.size + 1 ≠ w2.heap.size by omega) _))); have HW8 := Aside0.mk hW8; clear hW8; obtain ⟨g8a, g80, g81, g82, g83, g8r, g8f⟩ := da_cells (HF0.out _ HQ8.out); have h80 := (blk_cell H88.out 0).trans rfl; have h81 := (blk_cell H88.out 1).trans rfl; have h82 := (blk_cell H88.out 2).trans rfl; have f8 := fun j => blk_frozen H88.out j))
  rw [HW8.out]
  go_region_law (first | (go_simp; go_at_call 56; (with_reducible refine (without_walk _ c l an _ ?s1 ?s2 ?s3).mono ?_); (case s1 => exact Kd.C_drew (Kd.C_below HC.out (HF0.out _ HQ8.out).2.2.2.1)); (case s2 => exact HCC.out); (case s3 => have := HL.out; omega); rw [HLD.out]; rintro e_ w12 ⟨v12, rfl, ho12, hb12⟩; have HQ12 := Aside0.mk ((below_drew1 HQ8.out).trans (hb12.mono (show w.heap.size + 3 ≤ W8.heap.size from (HF0.out _ HQ8.out).2.2.2.2))); (have H812 := Aside0.mk (show w12.heap[w2.heap.size]? = some (.cells #[.string ao, .string ft, .int .i64 fk] 67 (0, 0)) from blk_below (blk_drew H88.out) hb12)); (have HO12 := Aside0.mk (show w12.heap[w2.heap.size + 1]? = some (.cells #[.slice none 0 0] 29 (0, 0)) from blk_below (blk_drew HO8.out) hb12)); obtain ⟨A12, c12, hv12, hc12, hC12⟩ := Kd.R_reads ho12; subst hv12; have HC12 := Aside0.mk hC12; have HCC12 := Aside0.mk hc12; have HS12 := Aside0.mk (show w2.heap.size + 1 < w12.heap.size from blk_lt HO12.out); have HR12 := Aside0.mk ho12; clear ho12 hb12 hc12 hC12; obtain ⟨g12a, g120, g121, g122, g123, g12r, g12f⟩ := da_cells (HF0.out _ HQ12.out); have h120 := (blk_cell H812.out 0).trans rfl; have h121 := (blk_cell H812.out 1).trans rfl; have h122 := (blk_cell H812.out 2).trans rfl; have f12 := fun j => blk_frozen H812.out j) | (go_simp; go_at_call 55; (with_reducible refine (put_walk A12 c12 D7 ao ft fk w12 ?s1 ?s2 ?s3).mono ?_); (case s1 => exact HC12.out); (case s2 => exact HCC12.out); (case s3 => have := HLE.out; omega); rw [HLL.out]; rintro e_ w9 ⟨v9, rfl, ho9, hb9⟩; have HQ9 := Aside0.mk (HQ12.out.trans (hb9.mono (by have := (HF0.out _ HQ12.out).2.2.2.2; omega))); obtain ⟨A8, c8, hv8⟩ := Kd.R_slice ho9; subst hv8; (have HR9 := Aside0.mk (Kd.R_lower (base' := w.heap.size) ho9 (by have := (HF0.out _ HQ12.out).2.2.2.1.size; omega))); (have ho9b := (hb9.block (w2.heap.size + 1) (by exact HS12.out)).trans HO12.out); (have o9c := (blk_cell ho9b 0).trans rfl); (have o9f := blk_frozen ho9b 0); (obtain ⟨W10, hW10⟩ : ∃ W10, w9.setCell ⟨w2.heap.size + 1, 0, none⟩ (.slice A8 L8.length c8) = W10 := ⟨_, rfl⟩); (have HQ10 := Aside0.mk (show Below (w.heap.size + 3) W0 W10 by rw [← hW10]; exact HQ9.out.setCell (show w.heap.size + 3 ≤ w2.heap.size + 1 by omega) _)); (have HP10 := Aside0.mk (show ptSt W10 w.heap.size (w2.heap.size + 1) (.slice A8 L8.length c8) L8 by rw [← hW10]; exact ⟨blk_put ho9b 0 _ rfl, Kd.R_set HR9.out ho9b (by decide) 0 _⟩)); (obtain ⟨A8_, c8_, hv8_, hc8, hC8⟩ := Kd.R_reads HP10.out.2); cases hv8_; have HC8 := Aside0.mk hC8; have HCC8 := Aside0.mk hc8; have HW10 := Aside0.mk hW10; clear hW10 ho9b hc8 hC8 ho9 hb9))
  all_goals
   rw [HW10.out]
   go_wp2_with (first | ((with_reducible refine gate_dst (N := 124) rfl ?_); (try rw [HW10.out]); refine ld29 HP10.out.1 (.tmp 8) rfl rfl rfl ?_) | (go_at_call 13; (with_reducible refine (spec_ok_walk A8 c8 L8 _ ?s1 ?s2 ?s3).mono ?_); (case s1 => exact HC8.out); (case s2 => exact HCC8.out); (case s3 => have := HLN.out; omega); rw [HOK2.out]; rintro e_ w11 ⟨rfl, hb11⟩; have HQ11 := Aside0.mk (HQ10.out.trans (hb11.mono (HF0.out _ HQ10.out).2.2.2.2)); have HP11 := Aside0.mk (show ptSt w11 w.heap.size (w2.heap.size + 1) (.slice A8 L8.length c8) L8 from ⟨blk_below HP10.out.1 hb11, Kd.R_below HP10.out.2 hb11⟩); obtain ⟨m9a, m90, m91, m92, m93, m9r, m9f⟩ := da_cells (HF0.out _ HQ11.out); clear hb11) | ((with_reducible refine gate_dst (N := 128) rfl ?_); refine ld29 HP11.out.1 (.tmp 8) rfl rfl rfl ?_))
   (try simp only [Exit.inBlock, Exit.then])
   first | exact bodyPost_ret (ret29 (x := .slice none 0 0) (y := .bool false) rfl _ _ (blk_put (HF0.out _ HQ11.out).2.2.1 0 _ rfl) rfl rfl) rfl ⟨_, rfl, Kd.R_nil _ _ _ _ _, below_set (HF0.out _ HQ11.out).2.2.2.1 (by omega)⟩ | exact bodyPost_ret (ret29 (x := .slice A8 L8.length c8) (y := .bool true) rfl _ _ (blk_put (HF0.out _ HQ11.out).2.2.1 0 _ rfl) rfl rfl) rfl ⟨_, rfl, Kd.R_set HP11.out.2 (HF0.out _ HQ11.out).2.2.1 (by decide) 0 _, below_set (HF0.out _ HQ11.out).2.2.2.1 (by omega)⟩
set_option maxHeartbeats 16000000 in
set_option maxRecDepth 100000 in
theorem sda_no (A : Option Addr) (c : Nat) (l : List S67) (ki : Int) (an at_ ao : ByteArray) (w : World) (hr : Kd.C k67 w A l.length l) (hc : l.length ≤ c) (hl : l.length ≤ 2000000) (hok : okD l = true) (hnm : nameB an = true) {j : Nat} (hat : atD l an = (j : Int)) (hj : j < l.length) {fn ft : ByteArray} {fk : Int} (hx : l.getD j z67 = ⟨fn, ft, fk⟩) (hte : at_.toList.isEmpty = true) (h : (ki = 3 ∧ fk < (ft.size : Int)) ∨ (ki = 3 ∧ fk = (ft.size : Int) ∧ (ao.toList == an.toList) = true) ∨ ((ki == 1) = false ∧ (ki == 2) = false ∧ (ki == 3) = false ∧ (ki == 4) = false ∧ ao.toList.isEmpty = true)) :
  Calls Try.prog 22 #[.agg #[.slice A l.length c], .agg #[.int .i64 ki, .string an, .string at_, .string ao]] w fun e w' => ∃ v : Value, e = .returned (.tuple #[.agg #[v], .bool false]) ∧ Kd.R k67 67 w' w.heap.size (fun _ => True) v [] ∧ Below w.heap.size w w' := by
 rcases h with ⟨hk, hfk⟩ | ⟨hk, hfk, hne⟩ | ⟨hk1, hk2, hk3, hk4, hto⟩
 all_goals
  have HC := Aside0.mk hr; have HCC := Aside0.mk hc; have HL := Aside0.mk hl; have HOK := Aside0.mk hok
  obtain ⟨W0, HS0, HF0, HB0, HW0, hcs⟩ := da_go w A l.length c ki an at_ ao
  obtain ⟨ca, cb0, cb1, cb2, cb3, cr, fr⟩ := da_cells hcs
  clear hr hc hl hok hcs
  (try subst hk)
  (try have hlt : decide (fk < (ft.size : Int)) = true := decide_eq_true hfk)
  (try (have hlt : decide (fk < (ft.size : Int)) = false := decide_eq_false (by rw [hfk]; exact Int.lt_irrefl _); have hlt2 : ¬ fk < (ft.size : Int) := by rw [hfk]; exact Int.lt_irrefl _))
  have HNM := Aside0.mk hnm
  clear hnm
  (try have hn1 : (ki != 1) = true := by rw [bne, hk1]; rfl)
  (try have hn3 : (ki != 3) = true := by rw [bne, hk3]; rfl)
  obtain ⟨hi', hi2, hi0, hi1, hi3⟩ := dj_go hj
  have HJ := Aside0.mk hj
  have HX := Aside0.mk hx
  have HAT := Aside0.mk hat
  obtain ⟨ad, ea, -, -, -⟩ := dk_row HC.out j hj
  subst ea
  clear hx hat
  (try (have hfe : fk = (ft.size : Int) := hfk; clear hfe hfk))
  go_enter Try.func22, Try.ntmps22
  go_wp2_with (first | ((with_reducible refine gate_dst (N := 9) rfl ?_); rw [HW0.out]; refine ld29 (HF0.out _ HB0.out).1 (.tmp 2) rfl rfl rfl ?_) | (go_at_call 13; (with_reducible refine (spec_ok_walk _ c l _ ?s1 ?s2 ?s3).mono ?_); (case s1 => exact Kd.C_below HC.out (HF0.out _ HB0.out).2.2.2.1); (case s2 => exact HCC.out); (case s3 => have := HL.out; omega); rw [HOK.out]; rintro e_ w1 ⟨rfl, hb1⟩; have HQ := Aside0.mk (HB0.out.trans (hb1.mono (by have := HS0.out; omega))); clear ca cb0 cb1 cb2 cb3 cr fr hb1; obtain ⟨ca, cb0, cb1, cb2, cb3, cr, fr⟩ := da_cells (HF0.out _ HQ.out)) | (go_at_call 48; (with_reducible refine (name48 an _).mono ?_); rw [HNM.out]; rintro e_ w1n ⟨rfl, nd1, hnd⟩; have HQn := Aside0.mk (show Below (w.heap.size + 3) W0 w1n by rw [hnd]; exact pw_below_drewN HQ.out nd1); clear ca cb0 cb1 cb2 cb3 cr fr hnd HQ; have HQ := HQn; clear HQn; obtain ⟨ca, cb0, cb1, cb2, cb3, cr, fr⟩ := da_cells (HF0.out _ HQ.out)) | ((with_reducible refine gate_dst (N := 39) rfl ?_); refine ld29 (HF0.out _ HQ.out).1 (.tmp 2) rfl rfl rfl ?_) | (go_at_call 53; (with_reducible refine (at53 _ c l an _ ?s1 ?s2 ?s3).mono ?_); (case s1 => exact Kd.C_below HC.out (HF0.out _ HQ.out).2.2.2.1); (case s2 => exact HCC.out); (case s3 => have := HL.out; omega); rw [HAT.out]; rintro e_ w2 ⟨rfl, hb2⟩; have HQ2 := Aside0.mk (HQ.out.trans (hb2.mono (by have := (HF0.out _ HQ.out).2.2.2.2; omega))); clear ca cb0 cb1 cb2 cb3 cr fr hb2; (have hs2 := (HF0.out _ HQ2.out).2.2.2.2); obtain ⟨b2a, b20, b21, b22, b23, b2r, b2f⟩ := da_cells (HF0.out _ HQ2.out); (obtain ⟨W4, hW4⟩ : ∃ W4, w2.alloc (.cells #[.string an, .string ⟨#[]⟩, .int .i64 0] 67) = W4 := ⟨_, rfl⟩); (have HQ4 := Aside0.mk (show Below (w.heap.size + 3) W0 W4 by rw [← hW4]; exact HQ2.out.alloc hs2 _)); (have H84 := Aside0.mk (show W4.heap[w2.heap.size]? = some (.cells #[.string an, .string ⟨#[]⟩, .int .i64 0] 67 (0, 0)) by rw [← hW4]; exact blk_new _ _)); (have HS4 := Aside0.mk (show W4.heap.size = w2.heap.size + 1 by rw [← hW4, dk_sz])); have HW4 := Aside0.mk hW4; clear hW4; obtain ⟨g4a, g40, g41, g42, g43, g4r, g4f⟩ := da_cells (HF0.out _ HQ4.out); have h40 := (blk_cell H84.out 0).trans rfl; have h41 := (blk_cell H84.out 1).trans rfl; have h42 := (blk_cell H84.out 2).trans rfl; have f4 := fun j => blk_frozen H84.out j; (obtain ⟨ad_, e_, ex0, ex1, ex2⟩ := dk_row (Kd.C_below HC.out (HF0.out _ HQ4.out).2.2.2.1) j HJ.out); cases e_; rw [HX.out] at ex0 ex1 ex2; simp only at ex0 ex1 ex2; (obtain ⟨W6, hW6⟩ : ∃ W6, (((W4.setCell ⟨w2.heap.size, 0, none⟩ (.string fn)).setCell ⟨w2.heap.size, 1, none⟩ (.string ft)).setCell ⟨w2.heap.size, 2, none⟩ (.int .i64 fk)) = W6 := ⟨_, rfl⟩); (have HQ6 := Aside0.mk (show Below (w.heap.size + 3) W0 W6 by rw [← hW6]; exact (((HQ4.out.setCell (show w.heap.size + 3 ≤ w2.heap.size by omega) _).setCell (show w.heap.size + 3 ≤ w2.heap.size by omega) _).setCell (show w.heap.size + 3 ≤ w2.heap.size by omega) _))); (have H86 := Aside0.mk (show W6.heap[w2.heap.size]? = some (.cells #[.string fn, .string ft, .int .i64 fk] 67 (0, 0)) by rw [← hW6]; exact (blk_put (blk_put (blk_put H84.out 0 _ rfl) 1 _ rfl) 2 _ rfl))); (have HS6 := Aside0.mk (show W6.heap.size = w2.heap.size + 1 by rw [← hW6]; simp only [World.setCell, Array.size_modify]; exact HS4.out)); have HW6 := Aside0.mk hW6; clear hW6; obtain ⟨g6a, g60, g61, g62, g63, g6r, g6f⟩ := da_cells (HF0.out _ HQ6.out); have h60 := (blk_cell H86.out 0).trans rfl; have h61 := (blk_cell H86.out 1).trans rfl; have h62 := (blk_cell H86.out 2).trans rfl; have f6 := fun j => blk_frozen H86.out j; (obtain ⟨W7, hW7⟩ : ∃ W7, W6.alloc (.cells #[.slice none 0 0] 29) = W7 := ⟨_, rfl⟩); (have HQ7 := Aside0.mk (show Below (w.heap.size + 3) W0 W7 by rw [← hW7]; exact HQ6.out.alloc (by have := HS6.out; omega) _)); (have H87 := Aside0.mk (show W7.heap[w2.heap.size]? = some (.cells #[.string fn, .string ft, .int .i64 fk] 67 (0, 0)) by rw [← hW7]; exact blk_alloc H86.out _)); (have HS7 := Aside0.mk (show W7.heap.size = w2.heap.size + 2 by rw [← hW7, dk_sz, HS6.out])); (have HO7 := Aside0.mk (show W7.heap[w2.heap.size + 1]? = some (.cells #[.slice none 0 0] 29 (0, 0)) by rw [← hW7, ← HS6.out]; exact blk_new _ _)); have HW7 := Aside0.mk hW7; clear hW7; obtain ⟨g7a, g70, g71, g72, g73, g7r, g7f⟩ := da_cells (HF0.out _ HQ7.out); have h70 := (blk_cell H87.out 0).trans rfl; have h71 := (blk_cell H87.out 1).trans rfl; have h72 := (blk_cell H87.out 2).trans rfl; have f7 := fun j => blk_frozen H87.out j) | ((with_reducible refine gate_dst (N := 49) rfl ?_); rw [HW4.out]) | ((with_reducible refine gate_dst (N := 57) rfl ?_); rw [HW6.out, HW7.out]; (try rw [HS4.out])))
  (try simp only [Exit.inBlock, Exit.then])
  exact bodyPost_ret (ret29 (x := .slice none 0 0) (y := .bool false) rfl _ _ (blk_put (HF0.out _ HQ7.out).2.2.1 0 _ rfl) rfl rfl) rfl ⟨_, rfl, Kd.R_nil _ _ _ _ _, below_set (HF0.out _ HQ7.out).2.2.2.1 (by omega)⟩
set_option maxHeartbeats 16000000 in
set_option maxRecDepth 100000 in
theorem sda_3z (A : Option Addr) (c : Nat) (l : List S67) (ki : Int) (an at_ ao : ByteArray) (w : World) (hr : Kd.C k67 w A l.length l) (hc : l.length ≤ c) (hl : l.length ≤ 2000000) (hok : okD l = true) (hnm : nameB an = true) (hk : ki = 3) {j : Nat} (hat : atD l an = (j : Int)) (hj : j < l.length) {fn ft : ByteArray} {fk : Int} (hx : l.getD j z67 = ⟨fn, ft, fk⟩) (hte : at_.toList.isEmpty = true) (hfk : fk = (ft.size : Int)) (hne : (ao.toList == an.toList) = false) (hnb : nameB ao = false) :
  Calls Try.prog 22 #[.agg #[.slice A l.length c], .agg #[.int .i64 ki, .string an, .string at_, .string ao]] w fun e w' => ∃ v : Value, e = .returned (.tuple #[.agg #[v], .bool false]) ∧ Kd.R k67 67 w' w.heap.size (fun _ => True) v [] ∧ Below w.heap.size w w' := by
 have HC := Aside0.mk hr; have HCC := Aside0.mk hc; have HL := Aside0.mk hl; have HOK := Aside0.mk hok
 obtain ⟨W0, HS0, HF0, HB0, HW0, hcs⟩ := da_go w A l.length c ki an at_ ao
 obtain ⟨ca, cb0, cb1, cb2, cb3, cr, fr⟩ := da_cells hcs
 clear hr hc hl hok hcs
 subst hk
 have hlt : decide (fk < (ft.size : Int)) = false := decide_eq_false (by omega)
 have hlt2 : ¬ fk < (ft.size : Int) := by omega
 have HNB := Aside0.mk hnb
 clear hnb
 have HNM := Aside0.mk hnm
 clear hnm
 obtain ⟨hi', hi2, hi0, hi1, hi3⟩ := dj_go hj
 have HJ := Aside0.mk hj
 have HX := Aside0.mk hx
 have HAT := Aside0.mk hat
 obtain ⟨ad, ea, -, -, -⟩ := dk_row HC.out j hj
 subst ea
 clear hx hat hfk
 go_enter Try.func22, Try.ntmps22
 go_wp2_with (first | ((with_reducible refine gate_dst (N := 9) rfl ?_); rw [HW0.out]; refine ld29 (HF0.out _ HB0.out).1 (.tmp 2) rfl rfl rfl ?_) | (go_at_call 13; (with_reducible refine (spec_ok_walk _ c l _ ?s1 ?s2 ?s3).mono ?_); (case s1 => exact Kd.C_below HC.out (HF0.out _ HB0.out).2.2.2.1); (case s2 => exact HCC.out); (case s3 => have := HL.out; omega); rw [HOK.out]; rintro e_ w1 ⟨rfl, hb1⟩; have HQ := Aside0.mk (HB0.out.trans (hb1.mono (by have := HS0.out; omega))); clear ca cb0 cb1 cb2 cb3 cr fr hb1; obtain ⟨ca, cb0, cb1, cb2, cb3, cr, fr⟩ := da_cells (HF0.out _ HQ.out)) | (go_at_call 48; (with_reducible refine (name48 an _).mono ?_); rw [HNM.out]; rintro e_ w1n ⟨rfl, nd1, hnd⟩; have HQn := Aside0.mk (show Below (w.heap.size + 3) W0 w1n by rw [hnd]; exact pw_below_drewN HQ.out nd1); clear ca cb0 cb1 cb2 cb3 cr fr hnd HQ; have HQ := HQn; clear HQn; obtain ⟨ca, cb0, cb1, cb2, cb3, cr, fr⟩ := da_cells (HF0.out _ HQ.out)) | ((with_reducible refine gate_dst (N := 39) rfl ?_); refine ld29 (HF0.out _ HQ.out).1 (.tmp 2) rfl rfl rfl ?_) | (go_at_call 53; (with_reducible refine (at53 _ c l an _ ?s1 ?s2 ?s3).mono ?_); (case s1 => exact Kd.C_below HC.out (HF0.out _ HQ.out).2.2.2.1); (case s2 => exact HCC.out); (case s3 => have := HL.out; omega); rw [HAT.out]; rintro e_ w2 ⟨rfl, hb2⟩; have HQ2 := Aside0.mk (HQ.out.trans (hb2.mono (by have := (HF0.out _ HQ.out).2.2.2.2; omega))); clear ca cb0 cb1 cb2 cb3 cr fr hb2; (have hs2 := (HF0.out _ HQ2.out).2.2.2.2); obtain ⟨b2a, b20, b21, b22, b23, b2r, b2f⟩ := da_cells (HF0.out _ HQ2.out); (obtain ⟨W4, hW4⟩ : ∃ W4, w2.alloc (.cells #[.string an, .string ⟨#[]⟩, .int .i64 0] 67) = W4 := ⟨_, rfl⟩); (have HQ4 := Aside0.mk (show Below (w.heap.size + 3) W0 W4 by rw [← hW4]; exact HQ2.out.alloc hs2 _)); (have H84 := Aside0.mk (show W4.heap[w2.heap.size]? = some (.cells #[.string an, .string ⟨#[]⟩, .int .i64 0] 67 (0, 0)) by rw [← hW4]; exact blk_new _ _)); (have HS4 := Aside0.mk (show W4.heap.size = w2.heap.size + 1 by rw [← hW4, dk_sz])); have HW4 := Aside0.mk hW4; clear hW4; obtain ⟨g4a, g40, g41, g42, g43, g4r, g4f⟩ := da_cells (HF0.out _ HQ4.out); have h40 := (blk_cell H84.out 0).trans rfl; have h41 := (blk_cell H84.out 1).trans rfl; have h42 := (blk_cell H84.out 2).trans rfl; have f4 := fun j => blk_frozen H84.out j; (obtain ⟨ad_, e_, ex0, ex1, ex2⟩ := dk_row (Kd.C_below HC.out (HF0.out _ HQ4.out).2.2.2.1) j HJ.out); cases e_; rw [HX.out] at ex0 ex1 ex2; simp only at ex0 ex1 ex2; (obtain ⟨W6, hW6⟩ : ∃ W6, (((W4.setCell ⟨w2.heap.size, 0, none⟩ (.string fn)).setCell ⟨w2.heap.size, 1, none⟩ (.string ft)).setCell ⟨w2.heap.size, 2, none⟩ (.int .i64 fk)) = W6 := ⟨_, rfl⟩); (have HQ6 := Aside0.mk (show Below (w.heap.size + 3) W0 W6 by rw [← hW6]; exact (((HQ4.out.setCell (show w.heap.size + 3 ≤ w2.heap.size by omega) _).setCell (show w.heap.size + 3 ≤ w2.heap.size by omega) _).setCell (show w.heap.size + 3 ≤ w2.heap.size by omega) _))); (have H86 := Aside0.mk (show W6.heap[w2.heap.size]? = some (.cells #[.string fn, .string ft, .int .i64 fk] 67 (0, 0)) by rw [← hW6]; exact (blk_put (blk_put (blk_put H84.out 0 _ rfl) 1 _ rfl) 2 _ rfl))); (have HS6 := Aside0.mk (show W6.heap.size = w2.heap.size + 1 by rw [← hW6]; simp only [World.setCell, Array.size_modify]; exact HS4.out)); have HW6 := Aside0.mk hW6; clear hW6; obtain ⟨g6a, g60, g61, g62, g63, g6r, g6f⟩ := da_cells (HF0.out _ HQ6.out); have h60 := (blk_cell H86.out 0).trans rfl; have h61 := (blk_cell H86.out 1).trans rfl; have h62 := (blk_cell H86.out 2).trans rfl; have f6 := fun j => blk_frozen H86.out j; (obtain ⟨W7, hW7⟩ : ∃ W7, W6.alloc (.cells #[.slice none 0 0] 29) = W7 := ⟨_, rfl⟩); (have HQ7 := Aside0.mk (show Below (w.heap.size + 3) W0 W7 by rw [← hW7]; exact HQ6.out.alloc (by have := HS6.out; omega) _)); (have H87 := Aside0.mk (show W7.heap[w2.heap.size]? = some (.cells #[.string fn, .string ft, .int .i64 fk] 67 (0, 0)) by rw [← hW7]; exact blk_alloc H86.out _)); (have HS7 := Aside0.mk (show W7.heap.size = w2.heap.size + 2 by rw [← hW7, dk_sz, HS6.out])); (have HO7 := Aside0.mk (show W7.heap[w2.heap.size + 1]? = some (.cells #[.slice none 0 0] 29 (0, 0)) by rw [← hW7, ← HS6.out]; exact blk_new _ _)); have HW7 := Aside0.mk hW7; clear hW7; obtain ⟨g7a, g70, g71, g72, g73, g7r, g7f⟩ := da_cells (HF0.out _ HQ7.out); have h70 := (blk_cell H87.out 0).trans rfl; have h71 := (blk_cell H87.out 1).trans rfl; have h72 := (blk_cell H87.out 2).trans rfl; have f7 := fun j => blk_frozen H87.out j) | ((with_reducible refine gate_dst (N := 49) rfl ?_); rw [HW4.out]) | ((with_reducible refine gate_dst (N := 57) rfl ?_); rw [HW6.out, HW7.out]; (try rw [HS4.out])) | (go_at_call 48; (with_reducible refine (name48 ao _).mono ?_); rw [HNB.out]; rintro e_ w17 ⟨rfl, nd2, hnd2⟩; (have HQ17 := Aside0.mk (show Below (w.heap.size + 3) W0 w17 by rw [hnd2]; exact pw_below_drewN HQ7.out nd2)); (have H817 := Aside0.mk (show w17.heap[w2.heap.size]? = some (.cells #[.string fn, .string ft, .int .i64 fk] 67 (0, 0)) by rw [hnd2]; exact blk_drewN H87.out nd2)); (have HO17 := Aside0.mk (show w17.heap[w2.heap.size + 1]? = some (.cells #[.slice none 0 0] 29 (0, 0)) by rw [hnd2]; exact blk_drewN HO7.out nd2)); (have HS17 := Aside0.mk (show w17.heap.size = w2.heap.size + 2 by rw [hnd2]; exact HS7.out)); clear hnd2; obtain ⟨g17a, g170, g171, g172, g173, g17r, g17f⟩ := da_cells (HF0.out _ HQ17.out); have h170 := (blk_cell H817.out 0).trans rfl; have h171 := (blk_cell H817.out 1).trans rfl; have h172 := (blk_cell H817.out 2).trans rfl; have f17 := fun j => blk_frozen H817.out j))
 (try simp only [Exit.inBlock, Exit.then])
 exact bodyPost_ret (ret29 (x := .slice none 0 0) (y := .bool false) rfl _ _ (blk_put (HF0.out _ HQ17.out).2.2.1 0 _ rfl) rfl rfl) rfl ⟨_, rfl, Kd.R_nil _ _ _ _ _, below_set (HF0.out _ HQ17.out).2.2.2.1 (by omega)⟩
theorem sdoact (A : Option Addr) (c : Nat) (l : List S67) (ki : Int) (an at_ ao : ByteArray) (w : World) (hr : Kd.C k67 w A l.length l) (hc : l.length ≤ c) (hl : l.length ≤ 2000000) (hsz : at_.size ≤ 4000000000) :
  Calls Try.prog 22 #[.agg #[.slice A l.length c], .agg #[.int .i64 ki, .string an, .string at_, .string ao]] w fun e w' => ∃ v : Value, e = .returned (.tuple #[.agg #[v], .bool (doA l ki an at_ ao).2]) ∧ Kd.R k67 67 w' w.heap.size (fun _ => True) v (doA l ki an at_ ao).1 ∧ Below w.heap.size w w' := by
 have hx : ∀ j, l.findIdx? (fun x => x.f0.toList == an.toList) = some j → okD l = true → nameB an = true := fun j hf hok => by
  obtain ⟨hj, hn⟩ := find_name hf
  have := okD_mem l hok (l.getD j z67) (by rw [getD_at l j hj]; exact List.getElem_mem hj)
  rwa [hn] at this
 have hbe : ∀ (x y : Int), x ≠ y → (x == y) = false := fun x y h => beq_eq_false_iff_ne.mpr h
 have hbn : ∀ (x y : Int), x ≠ y → (x != y) = true := fun x y h => by rw [bne, hbe x y h]; rfl
 cases hok : okD l with
 | false =>
  have hd : doA l ki an at_ ao = ([], false) := by unfold doA; rw [hok]; simp
  rw [hd]
  exact sda_bad A c l ki an at_ ao w hr hc hl hok
 | true =>
  cases hnm : nameB an with
  | false =>
   have hd : doA l ki an at_ ao = ([], false) := by unfold doA; rw [hnm]; simp
   rw [hd]
   exact sda_bn A c l ki an at_ ao w hr hc hl hok hnm
  | true =>
  cases hf : l.findIdx? (fun x => x.f0.toList == an.toList) with
  | none =>
   have hat := atD_no l an hf
   by_cases hk : ki = 1
   ·cases hto : ao.toList.isEmpty with
    | false =>
     have hd : doA l ki an at_ ao = ([], false) := by unfold doA; rw [hf]; simp [hto]
     rw [hd]
     exact sda_r3 A c l ki an at_ ao w hr hc hl hok hnm (hbe _ _ (by omega)) hto
    | true =>
     have hn := putD_len l ⟨an, (⟨#[]⟩ : ByteArray) ++ at_, 0⟩
     have hd : doA l ki an at_ ao = finD (putD l ⟨an, (⟨#[]⟩ : ByteArray) ++ at_, 0⟩) := by
      unfold doA
      rw [hf]
      simp [hok, hk, hto, hnm]
     rw [hd]
     unfold finD
     cases e : okD (putD l ⟨an, (⟨#[]⟩ : ByteArray) ++ at_, 0⟩) with
     | true =>
      exact sda_1n (L8 := putD l ⟨an, (⟨#[]⟩ : ByteArray) ++ at_, 0⟩) A c l ki an at_ ao w hr hc hl hok hnm hk hat hto (by omega) rfl (by omega) e
     | false =>
      exact sda_1n (L8 := putD l ⟨an, (⟨#[]⟩ : ByteArray) ++ at_, 0⟩) A c l ki an at_ ao w hr hc hl hok hnm hk hat hto (by omega) rfl (by omega) e
   ·have hd : doA l ki an at_ ao = ([], false) := by unfold doA; rw [hf]; simp [hk]
    rw [hd]
    cases hte : at_.toList.isEmpty with
    | true =>
     by_cases hk3 : ki = 3
     ·exact sda_n3 A c l ki an at_ ao w hr hc hl hok hnm hk3 hat hte
     ·cases hto : ao.toList.isEmpty with
      | true => exact sda_nx A c l ki an at_ ao w hr hc hl hok hnm (hbe _ _ hk) (hbe _ _ hk3) hat hte hto
      | false => exact sda_r3 A c l ki an at_ ao w hr hc hl hok hnm (hbe _ _ hk3) hto
    | false =>
     by_cases hk3 : ki = 3
     ·exact sda_r4a A c l ki an at_ ao w hr hc hl hok hnm hk3 hte
     ·cases hto : ao.toList.isEmpty with
      | true => exact sda_r4b A c l ki an at_ ao w hr hc hl hok hnm (hbe _ _ hk) (hbe _ _ hk3) hto hte
      | false => exact sda_r3 A c l ki an at_ ao w hr hc hl hok hnm (hbe _ _ hk3) hto
  | some j =>
   have hat := atD_yes l an j hf
   obtain ⟨hj, hnx⟩ := find_name hf
   obtain ⟨g0, g1, g2⟩ := okD_get l hok j hj
   have hd0 : doA l ki an at_ ao = (if ki = 1 then (if ao.toList.isEmpty = true then finD (putD l ⟨(l.getD j z67).f0, (l.getD j z67).f1 ++ at_, (l.getD j z67).f2⟩) else ([], false))
   else if at_.toList.isEmpty = true then
    (if ki = 3 then (if (l.getD j z67).f2 = ((l.getD j z67).f1.size : Int) ∧ (ao.toList == an.toList) = false ∧ nameB ao = true then finD (putD (withoutD l an) ⟨ao, (l.getD j z67).f1, (l.getD j z67).f2⟩) else ([], false))
    else if ao.toList.isEmpty = true then (if ki = 2 then finD (putD l ⟨(l.getD j z67).f0, (l.getD j z67).f1, ((l.getD j z67).f1.size : Int)⟩) else if ki = 4 then finD (withoutD l an) else ([], false)) else ([], false))
   else ([], false)) := by unfold doA; rw [hf, if_pos ⟨hok, hnm⟩]
   rw [hd0]
   clear hd0
   obtain ⟨x, hxe⟩ : ∃ x, l.getD j z67 = x := ⟨_, rfl⟩
   rw [hxe] at hnx g0 g1 g2 ⊢
   obtain ⟨fn, ft, fk⟩ := x
   simp only at hnx g0 g1 g2 ⊢
   have hnf : decide ((j : Int) < 0) = false := decide_eq_false (by omega)
   by_cases hk1 : ki = 1
   ·rw [if_pos hk1]
    cases hto : ao.toList.isEmpty with
    | false =>
     rw [if_neg Bool.false_ne_true]
     exact sda_r3 A c l ki an at_ ao w hr hc hl hok hnm (hbe _ _ (by omega)) hto
    | true =>
     rw [if_pos rfl]
     have hn := putD_len l ⟨fn, ft ++ at_, fk⟩
     unfold finD
     cases e : okD (putD l ⟨fn, ft ++ at_, fk⟩) with
     | true =>
      exact sda_1j (L8 := putD l ⟨fn, ft ++ at_, fk⟩) A c l ki an at_ ao w hr hc hl hok hnm hk1 hat hj hxe hto (by omega) rfl (by omega) e
     | false =>
      exact sda_1j (L8 := putD l ⟨fn, ft ++ at_, fk⟩) A c l ki an at_ ao w hr hc hl hok hnm hk1 hat hj hxe hto (by omega) rfl (by omega) e
   ·rw [if_neg hk1]
    cases hte : at_.toList.isEmpty with
    | false =>
     rw [if_neg Bool.false_ne_true]
     by_cases hk3 : ki = 3
     ·exact sda_r4a A c l ki an at_ ao w hr hc hl hok hnm hk3 hte
     ·cases hto : ao.toList.isEmpty with
      | true => exact sda_r4b A c l ki an at_ ao w hr hc hl hok hnm (hbe _ _ hk1) (hbe _ _ hk3) hto hte
      | false => exact sda_r3 A c l ki an at_ ao w hr hc hl hok hnm (hbe _ _ hk3) hto
    | true =>
     rw [if_pos rfl]
     by_cases hk3 : ki = 3
     ·rw [if_pos hk3]
      by_cases hfk : fk = (ft.size : Int)
      rotate_left
      ·rw [if_neg (fun q => hfk q.1)]
       exact sda_no A c l ki an at_ ao w hr hc hl hok hnm hat hj hxe hte (.inl ⟨hk3, (by omega)⟩)
      cases hne : ao.toList == an.toList with
      | true =>
       rw [if_neg (fun q => by cases q.2.1)]
       exact sda_no A c l ki an at_ ao w hr hc hl hok hnm hat hj hxe hte (.inr (.inl ⟨hk3, hfk, hne⟩))
      | false =>
       cases hnb : nameB ao with
       | false =>
        rw [if_neg (fun q => by cases q.2.2)]
        exact sda_3z A c l ki an at_ ao w hr hc hl hok hnm hk3 hat hj hxe hte hfk hne hnb
       | true =>
        rw [if_pos ⟨hfk, rfl, rfl⟩]
        have hn := putD_len (withoutD l an) ⟨ao, ft, fk⟩
        have hn2 := without_len l an
        unfold finD
        cases e : okD (putD (withoutD l an) ⟨ao, ft, fk⟩) with
        | true =>
         exact sda_3j (L8 := putD (withoutD l an) ⟨ao, ft, fk⟩) A c l ki an at_ ao w hr hc hl hok hnm hk3 hat hj hxe hte hfk hne hnb rfl rfl (by omega) e
        | false =>
         exact sda_3j (L8 := putD (withoutD l an) ⟨ao, ft, fk⟩) A c l ki an at_ ao w hr hc hl hok hnm hk3 hat hj hxe hte hfk hne hnb rfl rfl (by omega) e
     ·rw [if_neg hk3]
      cases hto : ao.toList.isEmpty with
      | false =>
       rw [if_neg Bool.false_ne_true]
       exact sda_r3 A c l ki an at_ ao w hr hc hl hok hnm (hbe _ _ hk3) hto
      | true =>
       rw [if_pos rfl]
       by_cases hk2 : ki = 2
       ·rw [if_pos hk2]
        have hn := putD_len l ⟨fn, ft, (ft.size : Int)⟩
        unfold finD
        cases e : okD (putD l ⟨fn, ft, (ft.size : Int)⟩) with
        | true =>
         exact sda_2j (L8 := putD l ⟨fn, ft, (ft.size : Int)⟩) A c l ki an at_ ao w hr hc hl hok hnm hk2 hat hj hxe hte hto rfl (by omega) e
        | false =>
         exact sda_2j (L8 := putD l ⟨fn, ft, (ft.size : Int)⟩) A c l ki an at_ ao w hr hc hl hok hnm hk2 hat hj hxe hte hto rfl (by omega) e
       ·rw [if_neg hk2]
        by_cases hk4 : ki = 4
        ·rw [if_pos hk4]
         have hn := without_len l an
         unfold finD
         cases e : okD (withoutD l an) with
         | true =>
          exact sda_4j (L8 := withoutD l an) A c l ki an at_ ao w hr hc hl hok hnm hk4 hat hj hxe hte hto rfl (by omega) e
         | false =>
          exact sda_4j (L8 := withoutD l an) A c l ki an at_ ao w hr hc hl hok hnm hk4 hat hj hxe hte hto rfl (by omega) e
        ·rw [if_neg hk4]
         exact sda_no A c l ki an at_ ao w hr hc hl hok hnm hat hj hxe hte (.inr (.inr ⟨hbe _ _ hk1, hbe _ _ hk2, hbe _ _ hk3, hbe _ _ hk4, hto⟩))
end Go.Proofs.Yteghgeanbglmoaa.PFnActs
