/- The state of 32 bytes. -/
import Derived.Test.YtlddohppkcndjaaDoorShaA
import Derived.StillTailTactics
namespace Go.Proofs.YtlddohppkcndjaaDoor.Sha
open Go.RowKit Go.Proofs.YtlddohppkcndjaaDoorW.PrintWords Go.Proofs.YtlddohppkcndjaaDoorW.PrintLast Go.Proofs.YtlddohppkcndjaaDoorW.PrintMore Go.Proofs.YtlddohppkcndjaaDoor.Pending Go.Proofs.YtlddohppkcndjaaDoor.Pright
set_option linter.unusedVariables false
set_option linter.unusedSimpArgs false

/-- A block that holds a list of words. -/
abbrev Blk (w : World) (b : Nat) (t : TypeId) (l : List Int) : Prop := w.heap[b]? = some (.cells (cells .u32 l) t (0, 0))
theorem cells_get (l : List Int) (i : Nat) (h : i < l.length) : (cells .u32 l)[i]? = some (.int .u32 (l.getD i 0)) := by
  unfold cells
  rw [List.getElem?_toArray, List.getElem?_map, List.getD_eq_getElem?_getD, List.getElem?_eq_getElem h]
  rfl
theorem blk_cell_ {w : World} {b : Nat} {t : TypeId} {l : List Int} (h : Blk w b t l) (i : Nat) (hi : i < l.length) : w.cell? ⟨b, i, none⟩ = some (.int .u32 (l.getD i 0)) := by
  rw [cell_of_row w b i _ t _ h, cells_get l i hi]
theorem blk_froz {w : World} {b : Nat} {t : TypeId} {l : List Int} (h : Blk w b t l) (i : Nat) : w.frozen? ⟨b, i, none⟩ = false := blk_frozen h _
theorem cells_set (l : List Int) (i : Nat) (z : Int) : (cells .u32 l).setIfInBounds i (.int .u32 z) = cells .u32 (l.set i z) := by
  unfold cells
  rw [List.map_set]
  simp
theorem blk_put_ {w : World} {b : Nat} {t : TypeId} {l : List Int} (h : Blk w b t l) (i : Nat) (z : Int) : Blk (w.setCell ⟨b, i, none⟩ (.int .u32 z)) b t (l.set i z) :=
  blk_put h i _ (cells_set l i z)
theorem sz_alloc (w : World) (o : Obj) : (w.alloc o).heap.size = w.heap.size + 1 := by
  show (w.heap.push o).size = _
  simp
theorem blk_row {w : World} {b : Nat} {t : TypeId} {l l' : List Int} (h : Blk w b t l) : Blk (w.setRow b (cells .u32 l')) b t l' := setRow_heap w b _ _ t _ h
theorem setRow_below {w0 w : World} {B b : Nat} (h : Below B w0 w) (hb : B ≤ b) (cs : Array Value) : Below B w0 (w.setRow b cs) := by
  refine ⟨h.os, h.tape, h.output, by rw [size_setRow]; exact h.size, fun k hk => ?_⟩
  rw [← h.block k hk]
  unfold World.setRow
  show (w.heap.modify b _)[k]? = _
  rw [Array.getElem?_modify, if_neg (by omega)]
theorem blk_row_far {w : World} {b b' : Nat} {t : TypeId} {l : List Int} (h : Blk w b t l) (hne : b' ≠ b) (cs : Array Value) : Blk (w.setRow b' cs) b t l := by
  refine Eq.trans ?_ h
  unfold World.setRow
  show (w.heap.modify b' _)[b]? = _
  rw [Array.getElem?_modify, if_neg hne]
theorem cells_one (l : List Int) : (cells .u32 l).all (·.oneCell') = true := by
  unfold cells
  simp [Value.oneCell']
section
variable {ops : Array Oper} {rest : List Oper} {o : Oper} {a : Act} {w : World} {Q : Exit → Act → World → Prop}
theorem ld67 {b : Nat} {t : TypeId} {l : List Int} (hb : Blk w b t l) (hl : l.length = 8) (x : Operand) (hgd : o.guard = none) (ho : o.op = .load 67 x) (hx : a.eval x = .pointer (some ⟨b, 0, none⟩)) (h : wpList Tryd.prog ops Q rest (a.put o.dst (arr l)) w) : wpList Tryd.prog ops Q (o :: rest) a w :=
  wpList_load_row hgd 67 x ho b hx t _ _ _ hb under67 rfl (by rw [size67, size_cells, hl]) h
theorem ld101 {b : Nat} {t : TypeId} {l : List Int} (hb : Blk w b t l) (hl : l.length = 64) (x : Operand) (hgd : o.guard = none) (ho : o.op = .load 101 x) (hx : a.eval x = .pointer (some ⟨b, 0, none⟩)) (h : wpList Tryd.prog ops Q rest (a.put o.dst (arr l)) w) : wpList Tryd.prog ops Q (o :: rest) a w :=
  wpList_load_row hgd 101 x ho b hx t _ _ _ hb under101 rfl (by rw [size101, size_cells, hl]) h
theorem st67 {b : Nat} {t : TypeId} {l l' : List Int} (hb : Blk w b t l) (hl : l.length = 8) (hl' : l'.length = 8) (x y : Operand) (hgd : o.guard = none) (ho : o.op = .store 67 x y) (hx : a.eval x = .pointer (some ⟨b, 0, none⟩)) (hy : a.eval y = arr l') (h : wpList Tryd.prog ops Q rest (a.put o.dst undef) (w.setRow b (cells .u32 l'))) : wpList Tryd.prog ops Q (o :: rest) a w :=
  wpList_store_row hgd 67 x y ho b _ hx hy t _ hb (by rw [size67, size_cells, hl']) (by rw [size_cells, size_cells, hl, hl']) (cells_one l') h
theorem st101 {b : Nat} {t : TypeId} {l l' : List Int} (hb : Blk w b t l) (hl : l.length = 64) (hl' : l'.length = 64) (x y : Operand) (hgd : o.guard = none) (ho : o.op = .store 101 x y) (hx : a.eval x = .pointer (some ⟨b, 0, none⟩)) (hy : a.eval y = arr l') (h : wpList Tryd.prog ops Q rest (a.put o.dst undef) (w.setRow b (cells .u32 l'))) : wpList Tryd.prog ops Q (o :: rest) a w :=
  wpList_store_row hgd 101 x y ho b _ hx hy t _ hb (by rw [size101, size_cells, hl']) (by rw [size_cells, size_cells, hl, hl']) (cells_one l') h
end
theorem ret67 {fn : Func} {p : Tmp} (h : fn.results = #[.cell p 67]) (tmps : Array Value) (w : World) {b : Nat} {t : TypeId} {l : List Int} (hb : Blk w b t l) (hl : l.length = 8) (hp : tmps.getD p undef = .pointer (some ⟨b, 0, none⟩)) : (results fn tmps).run Tryd.prog w = .ok (arr l) w :=
  results_cell_row h tmps w b t _ _ _ hp hb under67 rfl (by rw [size67, size_cells, hl])
theorem ret101 {fn : Func} {p : Tmp} (h : fn.results = #[.cell p 101]) (tmps : Array Value) (w : World) {b : Nat} {t : TypeId} {l : List Int} (hb : Blk w b t l) (hl : l.length = 64) (hp : tmps.getD p undef = .pointer (some ⟨b, 0, none⟩)) : (results fn tmps).run Tryd.prog w = .ok (arr l) w :=
  results_cell_row h tmps w b t _ _ _ hp hb under101 rfl (by rw [size101, size_cells, hl])
theorem arr8 (l : List Int) (h : l.length = 8) : ∃ a b c d e f g h, l = [a, b, c, d, e, f, g, h] := by
  match l, h with
  | [a, b, c, d, e, f, g, h], _ => exact ⟨a, b, c, d, e, f, g, h, rfl⟩
def tsStep (s : ByteArray) (l : List Int) (i : Nat) : List Int := l.set (i / 4) (Go.bits .or .u32 (l.getD (i / 4) 0 * 256 % 4294967296) (bt s i))
def tsTo (s : ByteArray) : Nat → List Int
  | 0 => [0, 0, 0, 0, 0, 0, 0, 0]
  | i + 1 => tsStep s (tsTo s i) i
def txState (s : ByteArray) : List Int := tsTo s 32
theorem tsTo_len (s : ByteArray) : ∀ i, (tsTo s i).length = 8
  | 0 => rfl
  | i + 1 => by simp [tsTo, tsStep, tsTo_len s i]
set_option maxHeartbeats 4000000 in
set_option maxRecDepth 100000 in
theorem textState_calls (s : ByteArray) (hs : 32 ≤ s.size) (w : World) : Calls Tryd.prog 60 #[.string s] w fun e_ w' => e_ = .returned (arr (txState s)) ∧ Below w.heap.size w w' := by
  have HB := Aside0.mk (Below.refl w.heap.size w)
  go_enter Tryd.func60, Tryd.ntmps60
  go_wp2
  go_loopg [5] 32 (fun k s5 wx => ∃ i : Nat, i + k = 32 ∧ s5 = .int .i64 i ∧ Aside0 (Below w.heap.size w wx ∧ Blk wx (w.heap.size + 1) 67 (tsTo s i) ∧ Blk wx w.heap.size 67 [0, 0, 0, 0, 0, 0, 0, 0]))
  case atStart => exact ⟨0, by omega, rfl, ⟨(HB.out.alloc (Nat.le_refl _) _).alloc (by rw [sz_alloc]; omega) _, by unfold Blk; rw [← sz_alloc w (.cells _ 67)]; exact heap_alloc_last _ _, blk_alloc (blk_new _ _) _⟩⟩
  case round =>
    obtain ⟨i, hik, rfl, HB1⟩ := hrel
    cases gk with
    | zero =>
      obtain rfl : i = 32 := by omega
      clear hik
      have h1 := HB1.out.2.1
      have h0 := HB1.out.2.2
      have hi : ¬ ((32 : Int) < 32) := by decide
      have A1 := Aside0.mk h1
      have A0 := Aside0.mk h0
      clear h1 h0
      go_wp2_with (first | ((with_reducible refine gate_dst (N := 22) rfl ?_); refine ld67 A1.out (tsTo_len s 32) (.tmp 3) rfl rfl rfl ?_) | ((with_reducible refine gate_store (t := 67) (p := 2) rfl ?_); refine st67 A0.out rfl (tsTo_len s 32) (.tmp 2) (.tmp 22) rfl rfl rfl rfl ?_))
      (try simp only [Exit.inBlock, Exit.then])
      exact bodyPost_ret (ret67 rfl _ _ (blk_row A0.out) (tsTo_len s 32) rfl) rfl ⟨rfl, setRow_below HB1.out.1 (Nat.le_refl _) _⟩
    | succ kk =>
      have hi : (i : Int) < 32 := by omega
      obtain ⟨j, hj⟩ : ∃ j, i / 4 = j := ⟨_, rfl⟩
      have hj8 : (j : Int) < 8 := by omega
      have hw4 : IntKind.i64.wrap ((i : Int) / 4) = (j : Int) := by rw [IntKind.wrap_i64]; omega
      have hl := tsTo_len s i
      have hx : ∃ x, (tsTo s i).getD j 0 = x := ⟨_, rfl⟩
      obtain ⟨x, hx⟩ := hx
      have hc := blk_cell_ HB1.out.2.1 j (by rw [hl]; omega)
      rw [hx] at hc
      have hf := blk_froz HB1.out.2.1 j
      have hb0 : (0 : Int) ≤ (i : Int) ∧ (i : Int) < (s.size : Int) := by omega
      have hbt : ∀ h : i < s.size, ((s[i]'h).toNat : Int) = bt s i := bt_at s i
      have hbr := bt_range s i
      obtain ⟨z, hz⟩ : ∃ z, bt s i = z := ⟨_, rfl⟩
      simp only [hz] at hbt hbr
      have hzm : z % 4294967296 = z := by omega
      have HI := Aside0.mk (And.intro hik (And.intro hj (And.intro hx hz)))
      clear hik hj hx hz hl
      go_wp2
      go_region
      go_wp2
      go_roundg kk
      case measure => omega
      case rel =>
        obtain ⟨hik, hj, hx, hz⟩ := HI.out
        refine ⟨i + 1, by omega, by go_num, ⟨(HB1.out.1.setCell (Nat.le_succ _) _).drew, ?_, (blk_far HB1.out.2.2 (by simp) _)⟩⟩
        have := blk_put_ HB1.out.2.1 j (bits .or .u32 (x * 256 % 4294967296) z)
        show Blk _ _ _ (tsStep s (tsTo s i) i)
        unfold tsStep
        rw [hj, hx, hz]
        exact this
end Go.Proofs.YtlddohppkcndjaaDoor.Sha
