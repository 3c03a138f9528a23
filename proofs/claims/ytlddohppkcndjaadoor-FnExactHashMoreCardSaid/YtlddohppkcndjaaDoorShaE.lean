/- All whole blocks of a text; the digest of a text. -/
import Derived.Test.YtlddohppkcndjaaDoorShaD
import Derived.Laws.ResultCell
namespace Go.Proofs.YtlddohppkcndjaaDoor.Sha
open Go.RowKit Go.Proofs.YtlddohppkcndjaaDoorW.PrintWords Go.Proofs.YtlddohppkcndjaaDoorW.PrintLast Go.Proofs.YtlddohppkcndjaaDoorW.PrintMore Go.Proofs.YtlddohppkcndjaaDoor.Pending Go.Proofs.YtlddohppkcndjaaDoor.Pright
set_option linter.unusedVariables false
set_option linter.unusedSimpArgs false

def bStep (p : List Int × ByteArray) : List Int × ByteArray := (one p.1 (p.2.extract 0 64), p.2.extract 64 p.2.size)
def bTo (st : List Int) (s : ByteArray) : Nat → List Int × ByteArray
  | 0 => (st, s)
  | k + 1 => bStep (bTo st s k)
def blks (st : List Int) (s : ByteArray) : List Int × ByteArray := bTo st s (s.size / 64)
theorem bTo_len (st : List Int) (s : ByteArray) (h : st.length = 8) : ∀ k, (bTo st s k).1.length = 8
  | 0 => h
  | k + 1 => one_len _ _ (bTo_len st s h k)
theorem bTo_size (st : List Int) (s : ByteArray) : ∀ k, 64 * k ≤ s.size → (bTo st s k).2.size = s.size - 64 * k
  | 0, _ => rfl
  | k + 1, h => by
    show ((bTo st s k).2.extract 64 (bTo st s k).2.size).size = _
    rw [ByteArray.size_extract, bTo_size st s k (by omega)]
    omega
theorem results_cell67 {fn : Func} {p u : Tmp} (h : fn.results = #[.cell p 67, .tmp u]) (tmps : Array Value) (w : World) {b : Nat} {t : TypeId} {l : List Int} {s : ByteArray} (hb : Blk w b t l) (hl : l.length = 8) (hp : tmps.getD p undef = .pointer (some ⟨b, 0, none⟩)) (hu : tmps.getD u undef = .string s) : (results fn tmps).run Tryd.prog w = .ok (.tuple #[arr l, .string s]) w := by
  rw [results_cell_tmp h, hp, hu]
  simp [asAddr, Result.andThen, load67 w b l t (0, 0) hl hb]
set_option maxHeartbeats 4000000 in
set_option maxRecDepth 100000 in
theorem blocks_calls (st : List Int) (hst : st.length = 8) (s : ByteArray) (hs : s.size ≤ 9223372036854775807) (w : World) (htab : Tab w) : Calls Tryd.prog 52 #[arr st, .string s] w fun e_ w' => e_ = .returned (.tuple #[arr (blks st s).1, .string (blks st s).2]) ∧ Below w.heap.size w w' := by
  have HB := Aside0.mk (Below.refl w.heap.size w)
  have HT := Aside0.mk htab
  have hs2 := Aside0.mk hst
  clear htab
  obtain ⟨a, b, c, d, e, f, g, h, hl8⟩ := arr8 st hst
  have HL := Aside0.mk hl8
  subst hl8
  clear hst
  go_enter Tryd.func52, Tryd.ntmps52
  go_wp2
  go_loopg [1] (s.size / 64) (fun k s1 wx => ∃ i : Nat, i + k = s.size / 64 ∧ s1 = .string (bTo [a, b, c, d, e, f, g, h] s i).2 ∧ Aside0 (Below w.heap.size w wx ∧ Blk wx w.heap.size 67 (bTo [a, b, c, d, e, f, g, h] s i).1 ∧ Blk wx (w.heap.size + 1) 67 [0, 0, 0, 0, 0, 0, 0, 0]))
  case atStart =>
    refine ⟨0, by omega, rfl, ⟨(HB.out.alloc (Nat.le_refl _) _).alloc (by rw [sz_alloc]; omega) _, blk_alloc (blk_new _ _) _, ?_⟩⟩
    unfold Blk
    rw [← sz_alloc w (.cells _ 67)]
    exact heap_alloc_last _ _
  case round =>
    obtain ⟨i, hik, rfl, HQ⟩ := hrel
    have hsz := bTo_size [a, b, c, d, e, f, g, h] s i (by omega)
    have hln := bTo_len [a, b, c, d, e, f, g, h] s rfl i
    obtain ⟨st', hst'⟩ : ∃ q, (bTo [a, b, c, d, e, f, g, h] s i).1 = q := ⟨_, rfl⟩
    obtain ⟨s', hs'⟩ : ∃ q, (bTo [a, b, c, d, e, f, g, h] s i).2 = q := ⟨_, rfl⟩
    rw [hst'] at HQ hln
    rw [hs'] at hsz ⊢
    cases gk with
    | zero =>
      obtain rfl : i = s.size / 64 := by omega
      have hi : ¬ ((64 : Int) ≤ (s'.size : Int)) := by omega
      have HI := Aside0.mk (And.intro hst' (And.intro hs' hln))
      clear hik hsz hs' hst' hln
      have A1 := Aside0.mk HQ.out.2.1
      have A0 := Aside0.mk HQ.out.2.2
      go_wp2_with (first | ((with_reducible refine gate_dst (N := 15) rfl ?_); refine ld67 A1.out HI.out.2.2 (.tmp 2) rfl rfl rfl ?_) | ((with_reducible refine gate_store (t := 67) (p := 4) rfl ?_); refine st67 A0.out rfl HI.out.2.2 (.tmp 4) (.tmp 15) rfl rfl rfl rfl ?_))
      (try simp only [Exit.inBlock, Exit.then])
      refine bodyPost_ret (results_cell67 rfl _ _ (blk_row A0.out) HI.out.2.2 rfl rfl) rfl ⟨?_, setRow_below HQ.out.1 (by omega) _⟩
      show _ = Ending.returned (.tuple #[arr (bTo [a, b, c, d, e, f, g, h] s (s.size / 64)).1, .string (bTo [a, b, c, d, e, f, g, h] s (s.size / 64)).2])
      rw [HI.out.1, HI.out.2.1]
    | succ kk =>
      have hi : (64 : Int) ≤ (s'.size : Int) := by omega
      have hi2 : (64 : Int) ≤ ((s'.size : Nat) : Int) ∧ 64 ≤ s'.size := by omega
      have HI := Aside0.mk (And.intro hik (And.intro hst' (And.intro hs' hln)))
      obtain ⟨a', b', c', d', e', f', g', h', hl9⟩ := arr8 st' hln
      subst hl9
      clear hik hsz hs' hst' hln
      have B0 := HQ.out.2.1
      have c0 := blk_cell_ B0 0 (by simp)
      have c1 := blk_cell_ B0 1 (by simp)
      have c2 := blk_cell_ B0 2 (by simp)
      have c3 := blk_cell_ B0 3 (by simp)
      have c4 := blk_cell_ B0 4 (by simp)
      have c5 := blk_cell_ B0 5 (by simp)
      have c6 := blk_cell_ B0 6 (by simp)
      have c7 := blk_cell_ B0 7 (by simp)
      simp only [List.getD_cons_zero, List.getD_cons_succ] at c0 c1 c2 c3 c4 c5 c6 c7
      have A0 := Aside0.mk B0
      clear B0
      go_wp2
      go_still_tail 3, (by kernel_rfl)
      change wpList _ _ _ _ _ wr.drew
      have hT2 : Tab wr.drew := tab_below HT.out (below_drew HQ.out.1)
      have HQ2 : Aside0 (Below w.heap.size w wr.drew ∧ Blk wr.drew w.heap.size 67 [a', b', c', d', e', f', g', h'] ∧ Blk wr.drew (w.heap.size + 1) 67 [0, 0, 0, 0, 0, 0, 0, 0] ∧ Tab wr.drew) := ⟨below_drew HQ.out.1, HQ.out.2.1, HQ.out.2.2, hT2⟩
      clear hT2 A0 HQ c0 c1 c2 c3 c4 c5 c6 c7
      generalize wr.drew = w2 at HQ2 ⊢
      have hx : 64 ≤ (s'.extract 0 64).size := by rw [ByteArray.size_extract]; omega
      have HX := Aside0.mk hx
      clear hx
      go_wp2_with (first | (go_at_call 81; refine (one_calls [a', b', c', d', e', f', g', h'] rfl (s'.extract 0 64) HX.out _ HQ2.out.2.2.2).mono ?_; rintro e_ w1 ⟨rfl, hb1⟩; have HB1 := Aside0.mk hb1; clear hb1) | ((with_reducible refine gate_store (t := 67) (p := 2) rfl ?_); refine st67 (l' := one [a', b', c', d', e', f', g', h'] (s'.extract 0 64)) (blk_below HQ2.out.2.1 HB1.out) rfl (one_len _ _ rfl) (.tmp 2) (.tmp 12) rfl rfl rfl rfl ?_))
      go_roundg kk
      case measure => omega
      case rel =>
        obtain ⟨hik, hst', hs', hln⟩ := HI.out
        refine ⟨i + 1, by omega, ?_, ⟨setRow_below (below_step HQ2.out.1 HB1.out) (Nat.le_refl _) _, ?_, blk_row_far (blk_below HQ2.out.2.2.1 HB1.out) (by omega) _⟩⟩
        · show _ = Value.string ((bTo [a, b, c, d, e, f, g, h] s i).2.extract 64 (bTo [a, b, c, d, e, f, g, h] s i).2.size)
          rw [hs']
        · show Blk _ _ _ (one (bTo [a, b, c, d, e, f, g, h] s i).1 ((bTo [a, b, c, d, e, f, g, h] s i).2.extract 0 64))
          rw [hs', hst']
          exact blk_row (blk_below HQ2.out.2.1 HB1.out)
end Go.Proofs.YtlddohppkcndjaaDoor.Sha
