/- A file put in its place. No condition. -/
import Derived.Test.YteghgeanbglmoaaDkFnActsA
import Derived.Test.YteghgeanbglmoaaDkFnActsW
import Derived.Deep.RegionLaw
namespace Go.Proofs.Yteghgeanbglmoaa.PFnActs
open Go.RowKit Go.Proofs.YteghgeanbglmoaaW.PrintWords Go.Proofs.YteghgeanbglmoaaW.PrintLast Go.Proofs.YteghgeanbglmoaaW.PrintMore
attribute [local go_sem] max_two min_two
set_option linter.unusedVariables false
set_option linter.unusedSimpArgs false
/-- The names of files that stand ahead, the file, those that stand behind. -/
def putD (l : List S67) (f : S67) : List S67 := l.filter (fun x => Op.bytesLess x.f0.toList f.f0.toList) ++ [f] ++ l.filter (fun x => Op.bytesLess f.f0.toList x.f0.toList)
theorem dk_flen (l : List S67) (p : S67 → Bool) : (l.filter p).length ≤ l.length := List.length_filter_le p l
theorem dk_tri : ∀ (a b : List UInt8), (!(Op.bytesLess a b || a == b)) = Op.bytesLess b a
 | [], [] => rfl
 | [], _ :: _ => rfl
 | _ :: _, [] => rfl
 | a :: x, b :: y => by
  have ih := dk_tri x y
  rcases Nat.lt_trichotomy a.toNat b.toNat with h | h | h
  ·replace h : a < b := UInt8.lt_iff_toNat_lt.2 h
   have h1 : ¬ b < a := UInt8.lt_asymm h
   have h2 : a ≠ b := UInt8.ne_of_lt h
   have h3 : b ≠ a := fun e => h2 e.symm
   simp [Op.bytesLess, h, h1, h2, h3]
  ·replace h : a = b := UInt8.toNat_inj.1 h
   subst h
   have h1 : ¬ a < a := UInt8.lt_irrefl a
   simpa [Op.bytesLess, h1] using ih
  ·replace h : b < a := UInt8.lt_iff_toNat_lt.2 h
   have h1 : ¬ a < b := UInt8.lt_asymm h
   have h2 : b ≠ a := UInt8.ne_of_lt h
   have h3 : a ≠ b := fun e => h2 e.symm
   simp [Op.bytesLess, h, h1, h2, h3]
theorem mkSt_drewN {w : World} {g2 g4 g5 : Nat} {A : Option Addr} {n c : Nat} {xs : List S67} {v : Value} {out : List S67} {ok : Nat → Prop} {W : World} (h : mkSt w ok g2 g4 g5 A n c xs v out W) (m : Nat) : mkSt w ok g2 g4 g5 A n c xs v out (W.drewN m) := ⟨⟨blk_drewN h.1.1 _, Kd.C_drewN h.1.2.1 _, pw_below_drewN h.1.2.2 _⟩, blk_drewN h.2.1 _, Kd.R_drewN h.2.2.1 _, blk_drewN h.2.2.2 _⟩
set_option maxHeartbeats 8000000 in
set_option maxRecDepth 100000 in
theorem put_walk (A : Option Addr) (c : Nat) (l : List S67) (pn pt : ByteArray) (pk : Int) (w : World) (hr : Kd.C k67 w A l.length l) (hc : l.length ≤ c) (hl : l.length ≤ 1000000000) :
  Calls Try.prog 55 #[.agg #[.slice A l.length c], .agg #[.string pn, .string pt, .int .i64 pk]] w fun e w' => ∃ v : Value, e = .returned (.agg #[v]) ∧ Kd.R k67 67 w' w.heap.size (fun _ => True) v (putD l ⟨pn, pt, pk⟩) ∧ Below w.heap.size w w' := by
 have HL := Aside0.mk hl
 have HC := Aside0.mk hr
 obtain ⟨W0, hW0⟩ : ∃ W0, (((w.alloc (.cells #[.slice A l.length c] 29)).alloc (.cells #[.string pn, .string pt, .int .i64 pk] 67)).alloc (.cells #[.slice none 0 0] 29)).alloc (.cells #[.slice none 0 0] 29) = W0 := ⟨_, rfl⟩
 have hPB : W0.heap[w.heap.size + 1]? = some (.cells #[.string pn, .string pt, .int .i64 pk] 67 (0, 0)) := by
  rw [← hW0, ← dk_sz w (.cells #[.slice A l.length c] 29)]
  exact blk_alloc (blk_alloc (blk_new _ _) _) _
 have hS : mkSt w (fun k => k ≠ w.heap.size + 1) w.heap.size (w.heap.size + 1 + 1) (w.heap.size + 1 + 1 + 1) A l.length c l (.slice none 0 0) ((l.take 0).filter (fun x => Op.bytesLess x.f0.toList pn.toList)) W0 := by
  have e1 := dk_sz w (.cells #[.slice A l.length c] 29)
  have e2 := dk_sz (w.alloc (.cells #[.slice A l.length c] 29)) (.cells #[.string pn, .string pt, .int .i64 pk] 67)
  have e3 := dk_sz ((w.alloc (.cells #[.slice A l.length c] 29)).alloc (.cells #[.string pn, .string pt, .int .i64 pk] 67)) (.cells #[.slice none 0 0] 29)
  rw [← hW0]
  refine ⟨⟨blk_alloc (blk_alloc (blk_alloc (blk_new _ _) _) _) _, Kd.C_alloc (Kd.C_alloc (Kd.C_alloc (Kd.C_alloc hr _) _) _) _, below_alloc (below_alloc (below_alloc (below_alloc (Below.refl _ _) _) _) _) _⟩, ?_, Kd.R_nil _ _ _ _ _, ?_⟩
  ·rw [← e1, ← e2, ← e3]; exact blk_new _ _
  ·rw [← e1, ← e2]; exact blk_alloc (blk_new _ _) _
 have HS := Aside0.mk hS
 have HPB := Aside0.mk hPB
 have HW0 := Aside0.mk hW0
 clear hr hc hl hS hPB hW0
 go_enter Try.func55, Try.ntmps55
 go_wp2
 rw [HW0.out]
 go_loopg [6] l.length (fun g v6 w' => ∃ (i : Nat) (v : Value) (out : List S67), i + g = l.length ∧ v6 = .int .i64 (i : Int) ∧ Aside0 (out = ((l.take i).filter (fun x => Op.bytesLess x.f0.toList pn.toList))) ∧ Aside0 (w'.heap[w.heap.size + 1]? = some (.cells #[.string pn, .string pt, .int .i64 pk] 67 (0, 0))) ∧ Aside0 (mkSt w (fun k => k ≠ w.heap.size + 1) w.heap.size (w.heap.size + 1 + 1) (w.heap.size + 1 + 1 + 1) A l.length c l v out w'))
 case atStart => exact ⟨0, _, _, by omega, rfl, ⟨rfl⟩, HPB, HS⟩
 case round =>
  clear HS HPB
  rename_i w' _
  obtain ⟨i, v, out, hi, rfl, HOUT, HPB, HS⟩ := hrel
  have hc2 : wr.cell? ⟨w.heap.size, 0, none⟩ = some (.slice A l.length c) := (blk_cell HS.out.1.1 0).trans rfl
  have hcp0 : wr.cell? ⟨w.heap.size + 1, 0, none⟩ = some (.string pn) := (blk_cell HPB.out 0).trans rfl
  cases gk with
  | zero =>
   have hii : i = l.length := by omega
   subst hii
   have hlt2 : decide ((l.length : Int) < (l.length : Int)) = false := decide_eq_false (by omega)
   have hlt : ¬ ((l.length : Int) < (l.length : Int)) := by omega
   clear hi
   have hl1 : (l.take l.length).filter (fun x => Op.bytesLess x.f0.toList pn.toList) = l.filter (fun x => Op.bytesLess x.f0.toList pn.toList) := by rw [List.take_length]
   have hout := HOUT.out
   rw [hl1] at hout
   clear HOUT
   have HOUT := Aside0.mk hout
   clear hout hl1
   have hc5 : wr.cell? ⟨w.heap.size + 1 + 1 + 1, 0, none⟩ = some v := (blk_cell HS.out.2.1 0).trans rfl
   have HLen : Aside0 ((out.length + 1) * 40 ≤ 140737488355328) := ⟨by rw [HOUT.out]; have h1 := dk_flen l (fun x => Op.bytesLess x.f0.toList pn.toList); have := HL.out; omega⟩
   go_wp2_with (first | ((with_reducible refine gate_dst (N := 37) rfl ?_); refine ld67 HPB.out (.tmp 3) rfl rfl rfl ?_) | ((with_reducible refine gate_dst (N := 39) rfl ?_); refine dk_stop ?_))
   refine dk_go ?_
   refine Kd.R_append k67 (w0 := w) (W := wr) w.heap.size rfl (.tmp 36) (.tmp 38) 27 67 (.agg #[(.string ⟨#[]⟩), (.string ⟨#[]⟩), (.int .i64 0)]) 40 rfl Try.underlying27 info67 rfl (by decide) (by omega) v out (⟨pn, pt, pk⟩ : S67) [.string pn, .string pt, .int .i64 pk] (fun k => k ≠ w.heap.size + 1) (fun _ => False) rfl rfl ?aP (fun _ hk => hk.elim) ?aF ?aO ?aB ?aS ?aL ?_
   (case aP => exact k67_mkM _ _ _ (⟨pn, pt, pk⟩ : S67))
   (case aB => exact HS.out.1.2.2)
   (case aF => exact (fun k hk => by have h1_ := blk_lt HPB.out; intro e_; rw [e_] at hk; exact absurd hk (Nat.not_le.2 h1_)))
   (case aO => exact HS.out.2.2.1)
   (case aS => exact HS.out.1.2.2.size)
   (case aL => exact HLen.out)
   intro v1 w1 ho hb1 hg hat
   obtain ⟨o1, ho1⟩ : ∃ o1, out ++ [(⟨pn, pt, pk⟩ : S67)] = o1 := ⟨_, rfl⟩
   rw [ho1] at ho
   (obtain ⟨A6, c6, hv1⟩ := Kd.R_slice ho)
   subst hv1
   have n5 := blk_grown HS.out.2.1 hg (Kd.R_ne HS.out.2.2.1 HS.out.2.1 (by decide))
   have hk5 := blk_cell n5 0
   have hk9 := blk_frozen n5 0
   have HN := Aside0.mk (And.intro (mkSt_store HS.out hg hb1 HC.out ho (by omega) (by omega) (by omega)) (blk_far (p := ⟨w.heap.size + 1 + 1 + 1, 0, none⟩) (blk_grown HPB.out hg (Kd.R_away HS.out.2.2.1 (fun _ h => h))) (by show w.heap.size + 1 ≠ w.heap.size + 1 + 1 + 1; omega) (.slice A6 o1.length c6)))
   clear ho hb1 hg hat n5
   go_wp2
   clear HS HPB hc2 hcp0 hc5
   generalize w1.setCell ⟨w.heap.size + 1 + 1 + 1, 0, none⟩ _ = W3 at HN ⊢
   have HS := Aside0.mk HN.out.1
   have HPB := Aside0.mk HN.out.2
   have hpr : l.filter (fun x => Op.bytesLess x.f0.toList pn.toList) ++ [(⟨pn, pt, pk⟩ : S67)] = o1 := by rw [← ho1, HOUT.out]
   have HPR := Aside0.mk hpr
   clear hpr ho1
   go_loopg [7] l.length (fun g v7 w' => ∃ (i : Nat) (v : Value) (out : List S67), i + g = l.length ∧ v7 = .int .i64 (i : Int) ∧ Aside0 (out = (l.filter (fun x => Op.bytesLess x.f0.toList pn.toList) ++ [⟨pn, pt, pk⟩] ++ (l.take i).filter (fun x => Op.bytesLess pn.toList x.f0.toList))) ∧ Aside0 (w'.heap[w.heap.size + 1]? = some (.cells #[.string pn, .string pt, .int .i64 pk] 67 (0, 0))) ∧ Aside0 (mkSt w (fun k => k ≠ w.heap.size + 1) w.heap.size (w.heap.size + 1 + 1) (w.heap.size + 1 + 1 + 1) A l.length c l v out w'))
   case atStart => exact ⟨0, _, o1, by omega, rfl, ⟨by rw [← HPR.out]; simp⟩, HPB, HS⟩
   case round =>
    clear HS HPB
    rename_i w' _
    obtain ⟨i, v, out, hi, rfl, HOUT, HPB, HS⟩ := hrel
    have hc2 : wr.cell? ⟨w.heap.size, 0, none⟩ = some (.slice A l.length c) := (blk_cell HS.out.1.1 0).trans rfl
    have hcp0 : wr.cell? ⟨w.heap.size + 1, 0, none⟩ = some (.string pn) := (blk_cell HPB.out 0).trans rfl
    cases gk with
    | zero =>
     have hii : i = l.length := by omega
     subst hii
     have hlt2 : decide ((l.length : Int) < (l.length : Int)) = false := decide_eq_false (by omega)
     have hlt : ¬ ((l.length : Int) < (l.length : Int)) := by omega
     clear hi
     have hc4 : wr.cell? ⟨w.heap.size + 1 + 1, 0, none⟩ = some (.slice none 0 0) := (blk_cell HS.out.2.2.2 0).trans rfl
     have hf4 := blk_frozen HS.out.2.2.2 0
     obtain ⟨A5, c5, hv⟩ := Kd.R_slice HS.out.2.2.1
     subst hv
     go_wp2_with (first | ((with_reducible refine gate_dst (N := 67) rfl ?_); refine ld29 HS.out.2.1 (.tmp 5) rfl rfl rfl ?_))
     (try simp only [Exit.inBlock, Exit.then])
     refine bodyPost_ret (ret29a (x := .slice A5 out.length c5) rfl _ _ (blk_put HS.out.2.2.2 0 _ rfl) rfl) rfl ⟨_, rfl, ?_, below_set HS.out.1.2.2 (by omega)⟩
     have hw : putD l ⟨pn, pt, pk⟩ = out := by rw [HOUT.out, List.take_length]; rfl
     rw [hw]
     exact Kd.R_mono (Kd.R_set HS.out.2.2.1 HS.out.2.2.2 (by decide) 0 _) (fun _ _ => trivial)
    | succ kk =>
     have hlt : (i : Int) < (l.length : Int) := by omega
     have hlt2 : decide ((i : Int) < (l.length : Int)) = true := decide_eq_true hlt
     have hi0 : (0 : Int) ≤ (i : Int) := Int.natCast_nonneg i
     have hin : i < l.length := by omega
     obtain ⟨ad, ea, hx0, hx1, hx2⟩ := dk_row HS.out.1.2.1 i hin
     subst ea
     have htk := dk_take l (fun x => Op.bytesLess pn.toList x.f0.toList) i hin
     obtain ⟨x, hx⟩ : ∃ x, l.getD i z67 = x := ⟨_, rfl⟩
     rw [hx] at hx0 hx1 hx2 htk
     obtain ⟨fn, ft, fk⟩ := x
     simp only at hx0 hx1 hx2 htk
     have hp0 := eq_true hi0
     have hq0 := eq_true hlt
     have HI := Aside0.mk hi
     have HTK := Aside0.mk htk
     have hwi : wrap64 ((i : Int) + 1) = ((i + 1 : Nat) : Int) := by have := HL.out; unfold wrap64; omega
     have HWI := Aside0.mk hwi
     have HX := Aside0.mk hx
     clear hi htk hx
     have htri := dk_tri fn.toList pn.toList
     cases hb : Op.bytesLess fn.toList pn.toList with
     | true =>
      rw [hb] at htri
      simp only [Bool.true_or, Bool.not_true] at htri
      have htr := htri.symm
      clear htri
      go_wp2
      go_quiet (fail)
      go_wp2
      go_roundg kk
      case measure => have := HI.out; omega
      case rel => exact ⟨i + 1, v, out, by have := HI.out; omega, by first | rfl | (rw [HWI.out]), ⟨by rw [HTK.out, htr, HOUT.out]; simp⟩, ⟨blk_drewN HPB.out _⟩, ⟨mkSt_drewN HS.out _⟩⟩
     | false =>
      cases he : (fn.toList == pn.toList) with
      | true =>
       rw [hb, he] at htri
       simp only [Bool.false_or, Bool.not_true] at htri
       have htr := htri.symm
       clear htri
       go_wp2
       go_quiet (fail)
       go_wp2
       go_roundg kk
       case measure => have := HI.out; omega
       case rel => exact ⟨i + 1, v, out, by have := HI.out; omega, by first | rfl | (rw [HWI.out]), ⟨by rw [HTK.out, htr, HOUT.out]; simp⟩, ⟨blk_drewN HPB.out _⟩, ⟨mkSt_drewN HS.out _⟩⟩
      | false =>
       rw [hb, he] at htri
       simp only [Bool.false_or, Bool.not_false] at htri
       have htr := htri.symm
       clear htri
       go_wp2
       go_quiet (fail)
       have HLen : Aside0 ((out.length + 1) * 40 ≤ 140737488355328) := ⟨by rw [HOUT.out]; have h0 := dk_flen l (fun x => Op.bytesLess x.f0.toList pn.toList); have h1 := List.length_filter_le (fun x => Op.bytesLess pn.toList x.f0.toList) (l.take i); have h2 := List.length_take_le i l; have := HL.out; simp only [List.length_append, List.length_cons, List.length_nil]; omega⟩
       have hc5 : wr.cell? ⟨w.heap.size + 1 + 1 + 1, 0, none⟩ = some v := (blk_cell HS.out.2.1 0).trans rfl
       have HSd := Aside0.mk (mkSt_drewN HS.out (nq + 1))
       have hc5a : ∀ m o, ((wr.drewN m).alloc o).cell? ⟨w.heap.size + 1 + 1 + 1, 0, none⟩ = some v := fun m o => (blk_cell (blk_alloc (blk_drewN HS.out.2.1 m) o) 0).trans rfl
       go_wp2
       go_region_law (first | (refine Kd.R_append_step k67 (w0 := w) (W := (wr.drewN (nq + 1))) w.heap.size (by rfl) (.tmp 58) (.tmp 64) 27 67 (.agg #[(.string ⟨#[]⟩), (.string ⟨#[]⟩), (.int .i64 0)]) 40 rfl Try.underlying27 info67 rfl (by decide) (by omega) v out (⟨fn, ft, fk⟩ : S67) [.string fn, .string ft, .int .i64 fk] (fun k => k ≠ w.heap.size + 1) (fun _ => False) rfl rfl ?aP (fun _ hk => hk.elim) ?aF ?aO ?aB ?aS ?aL ?_; (case aP => exact k67_mkM _ _ _ (⟨fn, ft, fk⟩ : S67)); (case aB => exact HSd.out.1.2.2); (case aF => exact (fun k hk => by have h1_ := blk_lt HPB.out; intro e_; rw [e_] at hk; exact absurd hk (Nat.not_le.2 h1_))); (case aO => exact HSd.out.2.2.1); (case aS => exact HSd.out.1.2.2.size); (case aL => exact HLen.out); intro v1 w1 ho hb1 hg hat; (obtain ⟨o1, ho1⟩ : ∃ o1, out ++ [(⟨fn, ft, fk⟩ : S67)] = o1 := ⟨_, rfl⟩); rw [ho1] at ho; have HO1 := Aside0.mk ho1; clear ho1; have hS1 := mkSt_grown HSd.out hg hb1 HC.out; have HG1 := Aside0.mk (And.intro ho (And.intro hb1 hg)); have hk2 := hS1.1; have hk5 := hS1.2.1; have hk9 := hS1.2.2.1; obtain ⟨ad_, ea_, hk6, hk7, hk8⟩ := dk_row hS1.2.2.2 i hin; cases ea_; rw [HX.out] at hk6 hk7 hk8; obtain ⟨A6, c6, hv1⟩ := Kd.R_slice ho; subst hv1; clear ho hb1 hg hat hS1))
       all_goals
        go_wp2
        go_roundg kk
        case measure => have := HI.out; omega
        case rel => exact ⟨i + 1, _, o1, by have := HI.out; omega, by first | rfl | (rw [HWI.out]), ⟨by rw [← HO1.out, HTK.out, htr, HOUT.out]; simp⟩, ⟨blk_far (blk_grown (blk_drewN HPB.out _) HG1.out.2.2 (Kd.R_away HSd.out.2.2.1 (fun _ h => h))) (by show w.heap.size + 1 ≠ w.heap.size + 1 + 1 + 1; omega) _⟩, ⟨mkSt_store HSd.out HG1.out.2.2 HG1.out.2.1 HC.out HG1.out.1 (by omega) (by omega) (by omega)⟩⟩
  | succ kk =>
   have hlt : (i : Int) < (l.length : Int) := by omega
   have hlt2 : decide ((i : Int) < (l.length : Int)) = true := decide_eq_true hlt
   have hi0 : (0 : Int) ≤ (i : Int) := Int.natCast_nonneg i
   have hin : i < l.length := by omega
   obtain ⟨ad, ea, hx0, hx1, hx2⟩ := dk_row HS.out.1.2.1 i hin
   subst ea
   have htk := dk_take l (fun x => Op.bytesLess x.f0.toList pn.toList) i hin
   obtain ⟨x, hx⟩ : ∃ x, l.getD i z67 = x := ⟨_, rfl⟩
   rw [hx] at hx0 hx1 hx2 htk
   obtain ⟨fn, ft, fk⟩ := x
   simp only at hx0 hx1 hx2 htk
   have hp0 := eq_true hi0
   have hq0 := eq_true hlt
   have HI := Aside0.mk hi
   have HTK := Aside0.mk htk
   have hwi : wrap64 ((i : Int) + 1) = ((i + 1 : Nat) : Int) := by have := HL.out; unfold wrap64; omega
   have HWI := Aside0.mk hwi
   have HX := Aside0.mk hx
   clear hi htk hx
   cases hb : Op.bytesLess fn.toList pn.toList with
   | false =>
    go_wp2
    go_quiet (fail)
    go_wp2
    go_roundg kk
    case measure => have := HI.out; omega
    case rel => exact ⟨i + 1, v, out, by have := HI.out; omega, by first | rfl | (rw [HWI.out]), ⟨by rw [HTK.out, hb, HOUT.out]; simp⟩, ⟨blk_drewN HPB.out _⟩, ⟨mkSt_drewN HS.out _⟩⟩
   | true =>
    go_wp2
    go_quiet (fail)
    have HLen : Aside0 ((out.length + 1) * 40 ≤ 140737488355328) := ⟨by rw [HOUT.out]; have h1 := List.length_filter_le (fun x => Op.bytesLess x.f0.toList pn.toList) (l.take i); have h2 := List.length_take_le i l; have := HL.out; omega⟩
    have hc5 : wr.cell? ⟨w.heap.size + 1 + 1 + 1, 0, none⟩ = some v := (blk_cell HS.out.2.1 0).trans rfl
    have HSd := Aside0.mk (mkSt_drewN HS.out (nq + 1))
    have hc5a : ∀ m o, ((wr.drewN m).alloc o).cell? ⟨w.heap.size + 1 + 1 + 1, 0, none⟩ = some v := fun m o => (blk_cell (blk_alloc (blk_drewN HS.out.2.1 m) o) 0).trans rfl
    go_wp2
    go_region_law (first | (refine Kd.R_append_step k67 (w0 := w) (W := (wr.drewN (nq + 1))) w.heap.size (by rfl) (.tmp 26) (.tmp 32) 27 67 (.agg #[(.string ⟨#[]⟩), (.string ⟨#[]⟩), (.int .i64 0)]) 40 rfl Try.underlying27 info67 rfl (by decide) (by omega) v out (⟨fn, ft, fk⟩ : S67) [.string fn, .string ft, .int .i64 fk] (fun k => k ≠ w.heap.size + 1) (fun _ => False) rfl rfl ?aP (fun _ hk => hk.elim) ?aF ?aO ?aB ?aS ?aL ?_; (case aP => exact k67_mkM _ _ _ (⟨fn, ft, fk⟩ : S67)); (case aB => exact HSd.out.1.2.2); (case aF => exact (fun k hk => by have h1_ := blk_lt HPB.out; intro e_; rw [e_] at hk; exact absurd hk (Nat.not_le.2 h1_))); (case aO => exact HSd.out.2.2.1); (case aS => exact HSd.out.1.2.2.size); (case aL => exact HLen.out); intro v1 w1 ho hb1 hg hat; (obtain ⟨o1, ho1⟩ : ∃ o1, out ++ [(⟨fn, ft, fk⟩ : S67)] = o1 := ⟨_, rfl⟩); rw [ho1] at ho; have HO1 := Aside0.mk ho1; clear ho1; have hS1 := mkSt_grown HSd.out hg hb1 HC.out; have HG1 := Aside0.mk (And.intro ho (And.intro hb1 hg)); have hk2 := hS1.1; have hk5 := hS1.2.1; have hk9 := hS1.2.2.1; obtain ⟨ad_, ea_, hk6, hk7, hk8⟩ := dk_row hS1.2.2.2 i hin; cases ea_; rw [HX.out] at hk6 hk7 hk8; obtain ⟨A6, c6, hv1⟩ := Kd.R_slice ho; subst hv1; clear ho hb1 hg hat hS1))
    all_goals
     go_wp2
     go_roundg kk
     case measure => have := HI.out; omega
     case rel => exact ⟨i + 1, _, o1, by have := HI.out; omega, by first | rfl | (rw [HWI.out]), ⟨by rw [← HO1.out, HTK.out, hb, HOUT.out]; simp⟩, ⟨blk_far (blk_grown (blk_drewN HPB.out _) HG1.out.2.2 (Kd.R_away HSd.out.2.2.1 (fun _ h => h))) (by show w.heap.size + 1 ≠ w.heap.size + 1 + 1 + 1; omega) _⟩, ⟨mkSt_store HSd.out HG1.out.2.2 HG1.out.2.1 HC.out HG1.out.1 (by omega) (by omega) (by omega)⟩⟩
end Go.Proofs.Yteghgeanbglmoaa.PFnActs
