/- The digest of a text, a new hasher, more text for it, its end: walked. Condition: the table of the rounds' numbers. -/
import Derived.Test.YtlddohppkcndjaaDoorShaI
import Derived.Laws.ResultCell
import Derived.Test.YtlddohppkcndjaaDoorPHasherOkx1
namespace Go.Proofs.YtlddohppkcndjaaDoor.Sha
open Go.RowKit Go.Proofs.YtlddohppkcndjaaDoorW.PrintWords Go.Proofs.YtlddohppkcndjaaDoorW.PrintLast Go.Proofs.YtlddohppkcndjaaDoorW.PrintMore Go.Proofs.YtlddohppkcndjaaDoor.Pending Go.Proofs.YtlddohppkcndjaaDoor.Pright
set_option linter.unusedVariables false
set_option linter.unusedSimpArgs false

def bStep (p : List Int × ByteArray) : List Int × ByteArray := (one p.1 (p.2.extract 0 64), p.2.extract 64 p.2.size)
def bTo (st : List Int) (s : ByteArray) : Nat → List Int × ByteArray
  | 0 => (st, s)
  | k + 1 => bStep (bTo st s k)
def blks (st : List Int) (s : ByteArray) : List Int × ByteArray := bTo st s (s.size / 64)
theorem bTo_len (st : List Int) (s : ByteArray) (h : st.length = 8) : ∀ k, (bTo st s k).1.length = 8
  | 0 => h
  | k + 1 => one_len _ _ (bTo_len st s h k)
theorem bTo_size (st : List Int) (s : ByteArray) : ∀ k, 64 * k ≤ s.size → (bTo st s k).2.size = s.size - 64 * k
  | 0, _ => rfl
  | k + 1, h => by
    show ((bTo st s k).2.extract 64 (bTo st s k).2.size).size = _
    rw [ByteArray.size_extract, bTo_size st s k (by omega)]
    omega
theorem results_cell67 {fn : Func} {p u : Tmp} (h : fn.results = #[.cell p 67, .tmp u]) (tmps : Array Value) (w : World) {b : Nat} {t : TypeId} {l : List Int} {s : ByteArray} (hb : Blk w b t l) (hl : l.length = 8) (hp : tmps.getD p undef = .pointer (some ⟨b, 0, none⟩)) (hu : tmps.getD u undef = .string s) : (results fn tmps).run Tryd.prog w = .ok (.tuple #[arr l, .string s]) w := by
  rw [results_cell_tmp h, hp, hu]
  simp [asAddr, Result.andThen, load67 w b l t (0, 0) hl hb]
set_option maxHeartbeats 4000000 in
set_option maxRecDepth 100000 in
theorem blocks_calls (st : List Int) (hst : st.length = 8) (s : ByteArray) (hs : s.size ≤ 9223372036854775807) (w : World) (htab : Tab w) : Calls Tryd.prog 52 #[arr st, .string s] w fun e_ w' => e_ = .returned (.tuple #[arr (blks st s).1, .string (blks st s).2]) ∧ Below w.heap.size w w' := by
  have HB := Aside0.mk (Below.refl w.heap.size w)
  have HT := Aside0.mk htab
  have hs2 := Aside0.mk hst
  clear htab
  obtain ⟨a, b, c, d, e, f, g, h, hl8⟩ := arr8 st hst
  have HL := Aside0.mk hl8
  subst hl8
  clear hst
  go_enter Tryd.func52, Tryd.ntmps52
  go_wp2
  go_loopg [1] (s.size / 64) (fun k s1 wx => ∃ i : Nat, i + k = s.size / 64 ∧ s1 = .string (bTo [a, b, c, d, e, f, g, h] s i).2 ∧ Aside0 (Below w.heap.size w wx ∧ Blk wx w.heap.size 67 (bTo [a, b, c, d, e, f, g, h] s i).1 ∧ Blk wx (w.heap.size + 1) 67 [0, 0, 0, 0, 0, 0, 0, 0]))
  case atStart =>
    refine ⟨0, by omega, rfl, ⟨(HB.out.alloc (Nat.le_refl _) _).alloc (by rw [sz_alloc]; omega) _, blk_alloc (blk_new _ _) _, ?_⟩⟩
    unfold Blk
    rw [← sz_alloc w (.cells _ 67)]
    exact heap_alloc_last _ _
  case round =>
    obtain ⟨i, hik, rfl, HQ⟩ := hrel
    have hsz := bTo_size [a, b, c, d, e, f, g, h] s i (by omega)
    have hln := bTo_len [a, b, c, d, e, f, g, h] s rfl i
    obtain ⟨st', hst'⟩ : ∃ q, (bTo [a, b, c, d, e, f, g, h] s i).1 = q := ⟨_, rfl⟩
    obtain ⟨s', hs'⟩ : ∃ q, (bTo [a, b, c, d, e, f, g, h] s i).2 = q := ⟨_, rfl⟩
    rw [hst'] at HQ hln
    rw [hs'] at hsz ⊢
    cases gk with
    | zero =>
      obtain rfl : i = s.size / 64 := by omega
      have hi : ¬ ((64 : Int) ≤ (s'.size : Int)) := by omega
      have HI := Aside0.mk (And.intro hst' (And.intro hs' hln))
      clear hik hsz hs' hst' hln
      have A1 := Aside0.mk HQ.out.2.1
      have A0 := Aside0.mk HQ.out.2.2
      go_wp2_with (first | ((with_reducible refine gate_dst (N := 15) rfl ?_); refine ld67 A1.out HI.out.2.2 (.tmp 2) rfl rfl rfl ?_) | ((with_reducible refine gate_store (t := 67) (p := 4) rfl ?_); refine st67 A0.out rfl HI.out.2.2 (.tmp 4) (.tmp 15) rfl rfl rfl rfl ?_))
      (try simp only [Exit.inBlock, Exit.then])
      refine bodyPost_ret (results_cell67 rfl _ _ (blk_row A0.out) HI.out.2.2 rfl rfl) rfl ⟨?_, setRow_below HQ.out.1 (by omega) _⟩
      show _ = Ending.returned (.tuple #[arr (bTo [a, b, c, d, e, f, g, h] s (s.size / 64)).1, .string (bTo [a, b, c, d, e, f, g, h] s (s.size / 64)).2])
      rw [HI.out.1, HI.out.2.1]
    | succ kk =>
      have hi : (64 : Int) ≤ (s'.size : Int) := by omega
      have hi2 : (64 : Int) ≤ ((s'.size : Nat) : Int) ∧ 64 ≤ s'.size := by omega
      have HI := Aside0.mk (And.intro hik (And.intro hst' (And.intro hs' hln)))
      obtain ⟨a', b', c', d', e', f', g', h', hl9⟩ := arr8 st' hln
      subst hl9
      clear hik hsz hs' hst' hln
      have B0 := HQ.out.2.1
      have c0 := blk_cell_ B0 0 (by simp)
      have c1 := blk_cell_ B0 1 (by simp)
      have c2 := blk_cell_ B0 2 (by simp)
      have c3 := blk_cell_ B0 3 (by simp)
      have c4 := blk_cell_ B0 4 (by simp)
      have c5 := blk_cell_ B0 5 (by simp)
      have c6 := blk_cell_ B0 6 (by simp)
      have c7 := blk_cell_ B0 7 (by simp)
      simp only [List.getD_cons_zero, List.getD_cons_succ] at c0 c1 c2 c3 c4 c5 c6 c7
      have A0 := Aside0.mk B0
      clear B0
      go_wp2
      go_still_tail 3, (by kernel_rfl)
      change wpList _ _ _ _ _ wr.drew
      have hT2 : Tab wr.drew := tab_below HT.out (below_drew HQ.out.1)
      have HQ2 : Aside0 (Below w.heap.size w wr.drew ∧ Blk wr.drew w.heap.size 67 [a', b', c', d', e', f', g', h'] ∧ Blk wr.drew (w.heap.size + 1) 67 [0, 0, 0, 0, 0, 0, 0, 0] ∧ Tab wr.drew) := ⟨below_drew HQ.out.1, HQ.out.2.1, HQ.out.2.2, hT2⟩
      clear hT2 A0 HQ c0 c1 c2 c3 c4 c5 c6 c7
      generalize wr.drew = w2 at HQ2 ⊢
      have hx : 64 ≤ (s'.extract 0 64).size := by rw [ByteArray.size_extract]; omega
      have HX := Aside0.mk hx
      clear hx
      go_wp2_with (first | (go_at_call 81; refine (one_calls [a', b', c', d', e', f', g', h'] rfl (s'.extract 0 64) HX.out _ HQ2.out.2.2.2).mono ?_; rintro e_ w1 ⟨rfl, hb1⟩; have HB1 := Aside0.mk hb1; clear hb1) | ((with_reducible refine gate_store (t := 67) (p := 2) rfl ?_); refine st67 (l' := one [a', b', c', d', e', f', g', h'] (s'.extract 0 64)) (blk_below HQ2.out.2.1 HB1.out) rfl (one_len _ _ rfl) (.tmp 2) (.tmp 12) rfl rfl rfl rfl ?_))
      go_roundg kk
      case measure => omega
      case rel =>
        obtain ⟨hik, hst', hs', hln⟩ := HI.out
        refine ⟨i + 1, by omega, ?_, ⟨setRow_below (below_step HQ2.out.1 HB1.out) (Nat.le_refl _) _, ?_, blk_row_far (blk_below HQ2.out.2.2.1 HB1.out) (by omega) _⟩⟩
        · show _ = Value.string ((bTo [a, b, c, d, e, f, g, h] s i).2.extract 64 (bTo [a, b, c, d, e, f, g, h] s i).2.size)
          rw [hs']
        · show Blk _ _ _ (one (bTo [a, b, c, d, e, f, g, h] s i).1 ((bTo [a, b, c, d, e, f, g, h] s i).2.extract 0 64))
          rw [hs', hst']
          exact blk_row (blk_below HQ2.out.2.1 HB1.out)
end Go.Proofs.YtlddohppkcndjaaDoor.Sha
namespace Go.Proofs.YtlddohppkcndjaaDoor.Sha
open Go.RowKit Go.Proofs.YtlddohppkcndjaaDoorW.PrintWords Go.Proofs.YtlddohppkcndjaaDoorW.PrintLast Go.Proofs.YtlddohppkcndjaaDoorW.PrintMore Go.Proofs.YtlddohppkcndjaaDoor.Pending Go.Proofs.YtlddohppkcndjaaDoor.Pright
set_option linter.unusedVariables false
set_option linter.unusedSimpArgs false

/-- What fills the last block. -/
def en (c : Nat) : ByteArray := ((⟨#[128]⟩ : ByteArray) ++ strOfNums (List.replicate ((119 - c % 64) % 64) 0)) ++ (four ((8 * c / 4294967296 : Nat) : Int) ++ four ((8 * c % 4294967296 : Nat) : Int))
theorem en_size (c : Nat) : (en c).size = 9 + (119 - c % 64) % 64 := by
  unfold en
  simp only [ByteArray.size_append, four_size, strOfNums_size, List.length_replicate]
  rw [show (⟨#[128]⟩ : ByteArray).size = 1 from rfl]
  omega
theorem en_f (c : Nat) (hc : c ≤ 1152921504606846975) : impl_ending.f (c : Int) = some (en c) := by
  have e1 : Int.tmod (c : Int) 64 = ((c % 64 : Nat) : Int) := by rw [Int.tmod_eq_emod_of_nonneg (by omega)]; omega
  have e2 : wrap64 (119 - ((c % 64 : Nat) : Int)) = ((119 - c % 64 : Nat) : Int) := by unfold wrap64; omega
  have e3 : Int.tmod ((119 - c % 64 : Nat) : Int) 64 = (((119 - c % 64) % 64 : Nat) : Int) := by rw [Int.tmod_eq_emod_of_nonneg (by omega)]; omega
  have e4 : wrap64 (8 * (c : Int)) = ((8 * c : Nat) : Int) := by unfold wrap64; omega
  have e5 : (((8 * c : Nat) : Int) / 4294967296) % 4294967296 = ((8 * c / 4294967296 : Nat) : Int) := by omega
  have e6 : ((8 * c : Nat) : Int) % 4294967296 = ((8 * c % 4294967296 : Nat) : Int) := by omega
  have hz : impl_zeros.f (((119 - c % 64) % 64 : Nat) : Int) = some (strOfNums (List.replicate ((119 - c % 64) % 64) 0)) := by
    unfold impl_zeros.f
    rw [if_pos (by omega), Int.toNat_natCast, if_pos (by omega)]
  have h8 : impl_eightBytes.f ((8 * c : Nat) : Int) = some (four ((8 * c / 4294967296 : Nat) : Int) ++ four ((8 * c % 4294967296 : Nat) : Int)) := by
    unfold impl_eightBytes.f
    rw [e5, e6]
    show ((some (four _)).bind fun t107 => (some (four _)).bind fun t108 => if t107.size + t108.size ≤ 9223372036854775807 then some (t107 ++ t108) else none) = _
    simp only [Option.bind_some]
    rw [four_size, four_size, if_pos (by decide)]
  unfold impl_ending.f
  rw [e1, e2, e3, e4, hz, h8]
  simp only [Option.bind_some]
  rw [if_pos (by rw [strOfNums_size, List.length_replicate]; omega)]
  rw [if_pos (by simp only [ByteArray.size_append, four_size, strOfNums_size, List.length_replicate]; rw [show (⟨#[128]⟩ : ByteArray).size = 1 from rfl]; omega)]
  rfl
/-- The digest. -/
def digest (s : ByteArray) : ByteArray := stText (blks first8 (s ++ en s.size)).1
theorem stateText_calls' (l : List Int) (hl : l.length = 8) (w : World) : Calls Tryd.prog 55 #[arr l] w fun e_ w' => e_ = .returned (.string (stText l)) ∧ Below w.heap.size w w' := by
  obtain ⟨a, b, c, d, e, f, g, h, rfl⟩ := arr8 l hl
  exact stateText_calls a b c d e f g h w
theorem blks_len (st : List Int) (s : ByteArray) (h : st.length = 8) : (blks st s).1.length = 8 := bTo_len st s h _
set_option maxHeartbeats 4000000 in
set_option maxRecDepth 100000 in
theorem digest_calls (s : ByteArray) (hs : s.size ≤ 1152921504606846975) (w : World) (htab : Tab w) : Calls Tryd.prog 16 #[.string s] w fun e_ w' => e_ = .returned (.string (digest s)) ∧ Below w.heap.size w w' := by
  have HB := Aside0.mk (Below.refl w.heap.size w)
  have HT := Aside0.mk htab
  have hes := en_size s.size
  have hroom : (9223372036854775807 < s.size + (en s.size).size) = False := eq_false (by omega)
  have hr2 : (s ++ en s.size).size ≤ 9223372036854775807 := by rw [ByteArray.size_append]; omega
  obtain ⟨en_, hen⟩ : ∃ e, en s.size = e := ⟨_, rfl⟩
  have hef := en_f s.size hs
  rw [hen] at hroom hr2 hef
  have HE := Aside0.mk (And.intro hen (And.intro hr2 hef))
  clear htab hes hr2 hef hen
  go_enter Tryd.func16, Tryd.ntmps16
  go_wp2_with (first | (go_at_call 53; refine (first_calls _).mono ?_; rintro e_ w1 ⟨rfl, hb1⟩; have HB1 := Aside0.mk hb1; clear hb1) | (go_at_call 54; refine (impl_ending.calls _ _ _ HE.out.2.2).mono ?_; rintro e_ w2 ⟨rfl, hb2⟩; have HB2 := Aside0.mk (below_step HB1.out hb2); clear hb2) | (go_at_call 52; refine (blocks_calls first8 rfl (s ++ en_) HE.out.2.1 _ (tab_below HT.out HB2.out)).mono ?_; rintro e_ w3 ⟨rfl, hb3⟩; have HB3 := Aside0.mk (below_step HB2.out hb3); clear hb3; (generalize hbl : blks first8 (s ++ en_) = bl); have hbll := blks_len first8 (s ++ en_) rfl; (rw [hbl] at hbll); have HBL := Aside0.mk (And.intro hbl hbll); clear hbl hbll) | ((with_reducible refine gate_store (t := 67) (p := 3) rfl ?_); refine st67 (l := [0, 0, 0, 0, 0, 0, 0, 0]) (l' := bl.1) (heap_alloc_last _ _) rfl HBL.out.2 (.tmp 3) (.tmp 13) rfl rfl rfl rfl ?_) | ((with_reducible refine gate_dst (N := 15) rfl ?_); refine ld67 (l := bl.1) (blk_row (l := [0, 0, 0, 0, 0, 0, 0, 0]) (heap_alloc_last _ _)) HBL.out.2 (.tmp 3) rfl rfl rfl ?_) | (go_at_call 55; refine (stateText_calls' bl.1 HBL.out.2 _).mono ?_; rintro e_ w4 ⟨rfl, hb4⟩; have HB4 := Aside0.mk hb4; clear hb4))
  go_ret
  refine ⟨?_, ?_⟩
  · unfold digest
    rw [HE.out.1, HBL.out.1]
    rfl
  · exact below_step (setRow_below (below_alloc HB3.out _) HB3.out.size _) HB4.out
theorem size27 : (Tryd.prog.info? 27).map (·.size) = some 3 := by kernel_rfl
section
variable {ops : Array Oper} {rest : List Oper} {o : Oper} {a : Act} {w : World} {Q : Exit → Act → World → Prop} {x y z x' y' z' : Value} {b : Nat} {t : TypeId}
theorem ld27 (hb : w.heap[b]? = some (.cells #[x, y, z] t (0, 0))) (u : Operand) (hgd : o.guard = none) (ho : o.op = .load 27 u) (hx : a.eval u = .pointer (some ⟨b, 0, none⟩)) (h : wpList Tryd.prog ops Q rest (a.put o.dst (.agg #[x, y, z])) w) : wpList Tryd.prog ops Q (o :: rest) a w :=
  wpList_load_row hgd 27 u ho b hx t _ _ _ hb Tryd.underlying27 rfl (by rw [size27]; rfl) h
end
end Go.Proofs.YtlddohppkcndjaaDoor.Sha
namespace Go.Proofs.YtlddohppkcndjaaDoor.Sha
open Go.RowKit Go.Proofs.YtlddohppkcndjaaDoorW.PrintWords Go.Proofs.YtlddohppkcndjaaDoorW.PrintLast Go.Proofs.YtlddohppkcndjaaDoorW.PrintMore Go.Proofs.YtlddohppkcndjaaDoor.Pending Go.Proofs.YtlddohppkcndjaaDoor.Pright Go.Proofs.YtlddohppkcndjaaDoor.PHasherOk
set_option linter.unusedVariables false
set_option linter.unusedSimpArgs false

/-- Is a hasher right? -/
def hOk (st r : ByteArray) (c : Int) : Bool := decide (st.size = 32 ∧ 0 ≤ c ∧ c ≤ 1000000000 ∧ (r.size : Int) = c % 64)
def hashMore (st r : ByteArray) (c : Int) (s : ByteArray) : ByteArray × ByteArray × Int :=
  if hOk st r c = true ∧ (s.size : Int) ≤ 1000000000 - c then (stText (blks (txState st) (r ++ s)).1, (blks (txState st) (r ++ s)).2, c + s.size) else (st, r, c)
def hashEnd (st r : ByteArray) (c : Int) : ByteArray :=
  if hOk st r c = true then stText (blks (txState st) (r ++ en c.toNat)).1 else ⟨#[]⟩
theorem txState_len (s : ByteArray) : (txState s).length = 8 := tsTo_len s 32
/-- What is held while other calls make memory. -/
abbrev Held (w W : World) (st r : ByteArray) (c : Int) : Prop := Below w.heap.size w W ∧ W.heap[w.heap.size]? = some (.cells #[.string st, .string r, .int .i64 c] 27) ∧ W.heap[w.heap.size + 1]? = some (.cells #[.string ⟨#[]⟩, .string ⟨#[]⟩, .int .i64 0] 27) ∧ Tab W
theorem wp_world {P : Program} {c : Code} {Q : Exit → Act → World → Prop} {a : Act} {W : World} (h : ∀ V, V = W → c.wp P Q a V) : c.wp P Q a W := h W rfl
theorem s9 {W : World} {b0 b : Nat} {x y : Value} {c b1 b2 b3 b4 b5 b6 b7 b8 : Int} (h : W.heap[b0]? = some (.cells #[x, y, .int .i64 c] 27)) (hb : Blk W b 67 [b1, b2, b3, b4, b5, b6, b7, b8]) :
    W.cell? ⟨b0, 2, none⟩ = some (.int .i64 c) ∧ W.cell? ⟨b, 0, none⟩ = some (.int .u32 b1) ∧ W.cell? ⟨b, 1, none⟩ = some (.int .u32 b2) ∧ W.cell? ⟨b, 2, none⟩ = some (.int .u32 b3) ∧ W.cell? ⟨b, 3, none⟩ = some (.int .u32 b4) ∧ W.cell? ⟨b, 4, none⟩ = some (.int .u32 b5) ∧ W.cell? ⟨b, 5, none⟩ = some (.int .u32 b6) ∧ W.cell? ⟨b, 6, none⟩ = some (.int .u32 b7) ∧ W.cell? ⟨b, 7, none⟩ = some (.int .u32 b8) :=
  ⟨blk_cell h 2, blk_cell_ hb 0 (by simp), blk_cell_ hb 1 (by simp), blk_cell_ hb 2 (by simp), blk_cell_ hb 3 (by simp), blk_cell_ hb 4 (by simp), blk_cell_ hb 5 (by simp), blk_cell_ hb 6 (by simp), blk_cell_ hb 7 (by simp)⟩
end Go.Proofs.YtlddohppkcndjaaDoor.Sha
namespace Go.Proofs.YtlddohppkcndjaaDoor.Sha
open Go.RowKit Go.Proofs.YtlddohppkcndjaaDoorW.PrintWords Go.Proofs.YtlddohppkcndjaaDoorW.PrintLast Go.Proofs.YtlddohppkcndjaaDoorW.PrintMore Go.Proofs.YtlddohppkcndjaaDoor.Pending Go.Proofs.YtlddohppkcndjaaDoor.Pright Go.Proofs.YtlddohppkcndjaaDoor.PHasherOk
set_option linter.unusedVariables false
set_option linter.unusedSimpArgs false

abbrev HeldE (w W : World) (st r : ByteArray) (c : Int) : Prop := Below w.heap.size w W ∧ W.heap[w.heap.size]? = some (.cells #[.string st, .string r, .int .i64 c] 27) ∧ Tab W
theorem tab_set {W : World} (h : Tab W) {b : Nat} (hb : b ≠ 0) (i : Nat) (v : Value) : Tab (W.setCell ⟨b, i, none⟩ v) := by
  have h0 : (W.setCell ⟨b, i, none⟩ v).heap[0]? = W.heap[0]? := heap_setCell_other W ⟨b, i, none⟩ 0 v (fun e => hb e.symm)
  unfold Tab Lib.TabIs World.var? at *
  rw [gTab] at h ⊢
  simp only [Option.bind_some] at h ⊢
  rw [h0]
  exact h
end Go.Proofs.YtlddohppkcndjaaDoor.Sha
