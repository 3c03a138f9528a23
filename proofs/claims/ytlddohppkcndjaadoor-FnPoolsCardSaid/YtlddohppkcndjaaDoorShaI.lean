/- The digest's array functions, walked: the first state, a state's bytes, the words of a block, one block. Condition: the table of the rounds' numbers. -/
import Derived.Test.YtlddohppkcndjaaDoorPrightx1
import Derived.Test.YtlddohppkcndjaaDoorPendingx1
import Derived.Deep.WholeRow
import Derived.StillTailTactics
import Derived.Lib.LaidTab
namespace Go.Proofs.YtlddohppkcndjaaDoor.Sha
open Go.RowKit Go.Proofs.YtlddohppkcndjaaDoorW.PrintWords Go.Proofs.YtlddohppkcndjaaDoorW.PrintLast Go.Proofs.YtlddohppkcndjaaDoorW.PrintMore Go.Proofs.YtlddohppkcndjaaDoor.Pending Go.Proofs.YtlddohppkcndjaaDoor.Pright
set_option linter.unusedVariables false
set_option linter.unusedSimpArgs false

def cells (k : IntKind) (l : List Int) : Array Value := (l.map fun z => Value.int k z).toArray
abbrev arr (l : List Int) : Value := .agg (cells .u32 l)
def first8 : List Int := [1779033703, 3144134277, 1013904242, 2773480762, 1359893119, 2600822924, 528734635, 1541459225]
theorem results_cell {fn : Func} {p : Tmp} {ty : TypeId} (h : fn.results = #[.cell p ty]) (tmps : Array Value) (P : Program) (w : World) :
    (results fn tmps).run P w = ((asAddr (tmps.getD p undef)).run P w).andThen fun a w₁ => (loadVar ty a).run P w₁ := by
  simp only [results, h]
  simp [Sem.run_bind, Result.andThen]
  try (cases (asAddr (tmps.getD p undef)).run P w <;> simp [Result.andThen])
theorem size_cells (k : IntKind) (l : List Int) : (cells k l).size = l.length := by simp [cells]
theorem under67 : Tryd.prog.underlying 67 = some (.array 8 66) := by kernel_rfl
theorem under101 : Tryd.prog.underlying 101 = some (.array 64 66) := by kernel_rfl
theorem size67 : (Tryd.prog.info? 67).map (·.size) = some 8 := by kernel_rfl
theorem size101 : (Tryd.prog.info? 101).map (·.size) = some 64 := by kernel_rfl
theorem load67 (w : World) (b : Nat) (l : List Int) (t : TypeId) (fr : Nat × Nat) (hl : l.length = 8) (hb : w.heap[b]? = some (.cells (cells .u32 l) t fr)) : (loadVar 67 ⟨b, 0, none⟩).run Tryd.prog w = .ok (arr l) w :=
  run_loadVar_row w b t 67 (cells .u32 l) fr _ hb under67 rfl (by rw [size67, size_cells, hl])
set_option maxHeartbeats 4000000 in
set_option maxRecDepth 100000 in
theorem first_calls (w : World) : Calls Tryd.prog 53 #[] w fun e w' => e = .returned (arr first8) ∧ Below w.heap.size w w' := by
  go_enter Tryd.func53, Tryd.ntmps53
  go_wp2
  refine bodyPost_ret (v := arr first8) ?_ rfl ⟨rfl, (Below.refl _ _).alloc (Nat.le_refl _) _⟩
  rw [results_cell rfl]
  exact load67 _ _ first8 67 (0, 0) rfl (heap_alloc_last _ _)
def four (z : Int) : ByteArray := strOfNums [(z / 16777216) % 256, (z / 65536) % 256, (z / 256) % 256, z % 256]
def stText (l : List Int) : ByteArray := l.foldl (fun s z => s ++ four z) ⟨#[]⟩
theorem stText_snoc (l : List Int) (z : Int) : stText (l ++ [z]) = stText l ++ four z := by simp [stText]
theorem four_size (z : Int) : (four z).size = 4 := by unfold four; rw [strOfNums_size]; rfl
theorem stText_size (l : List Int) : (stText l).size = 4 * l.length := by
  suffices ∀ (l : List Int) (s : ByteArray), (l.foldl (fun s z => s ++ four z) s).size = s.size + 4 * l.length by
    have := this l ⟨#[]⟩
    rw [show (⟨#[]⟩ : ByteArray).size = 0 from rfl] at this
    unfold stText
    omega
  intro l
  induction l with
  | nil => intro s; simp
  | cons x l ih => intro s; rw [List.foldl_cons, ih, ByteArray.size_append, four_size, List.length_cons]; omega
set_option maxHeartbeats 4000000 in
set_option maxRecDepth 100000 in
theorem stateText_calls (a b c d e f g h : Int) (w : World) : Calls Tryd.prog 55 #[.agg #[.int .u32 a, .int .u32 b, .int .u32 c, .int .u32 d, .int .u32 e, .int .u32 f, .int .u32 g, .int .u32 h]] w fun e_ w' => e_ = .returned (.string (stText [a, b, c, d, e, f, g, h])) ∧ Below w.heap.size w w' := by
  have HB := Aside0.mk (Below.refl w.heap.size w)
  have i0 : ∀ w : World, (Instr.index 67 (.agg #[.int .u32 a, .int .u32 b, .int .u32 c, .int .u32 d, .int .u32 e, .int .u32 f, .int .u32 g, .int .u32 h]) (.int .i64 0)).run Tryd.prog w = .ok (.int .u32 a) w := fun _ => by kernel_rfl
  have i1 : ∀ w : World, (Instr.index 67 (.agg #[.int .u32 a, .int .u32 b, .int .u32 c, .int .u32 d, .int .u32 e, .int .u32 f, .int .u32 g, .int .u32 h]) (.int .i64 1)).run Tryd.prog w = .ok (.int .u32 b) w := fun _ => by kernel_rfl
  have i2 : ∀ w : World, (Instr.index 67 (.agg #[.int .u32 a, .int .u32 b, .int .u32 c, .int .u32 d, .int .u32 e, .int .u32 f, .int .u32 g, .int .u32 h]) (.int .i64 2)).run Tryd.prog w = .ok (.int .u32 c) w := fun _ => by kernel_rfl
  have i3 : ∀ w : World, (Instr.index 67 (.agg #[.int .u32 a, .int .u32 b, .int .u32 c, .int .u32 d, .int .u32 e, .int .u32 f, .int .u32 g, .int .u32 h]) (.int .i64 3)).run Tryd.prog w = .ok (.int .u32 d) w := fun _ => by kernel_rfl
  have i4 : ∀ w : World, (Instr.index 67 (.agg #[.int .u32 a, .int .u32 b, .int .u32 c, .int .u32 d, .int .u32 e, .int .u32 f, .int .u32 g, .int .u32 h]) (.int .i64 4)).run Tryd.prog w = .ok (.int .u32 e) w := fun _ => by kernel_rfl
  have i5 : ∀ w : World, (Instr.index 67 (.agg #[.int .u32 a, .int .u32 b, .int .u32 c, .int .u32 d, .int .u32 e, .int .u32 f, .int .u32 g, .int .u32 h]) (.int .i64 5)).run Tryd.prog w = .ok (.int .u32 f) w := fun _ => by kernel_rfl
  have i6 : ∀ w : World, (Instr.index 67 (.agg #[.int .u32 a, .int .u32 b, .int .u32 c, .int .u32 d, .int .u32 e, .int .u32 f, .int .u32 g, .int .u32 h]) (.int .i64 6)).run Tryd.prog w = .ok (.int .u32 g) w := fun _ => by kernel_rfl
  have i7 : ∀ w : World, (Instr.index 67 (.agg #[.int .u32 a, .int .u32 b, .int .u32 c, .int .u32 d, .int .u32 e, .int .u32 f, .int .u32 g, .int .u32 h]) (.int .i64 7)).run Tryd.prog w = .ok (.int .u32 h) w := fun _ => by kernel_rfl
  go_enter Tryd.func55, Tryd.ntmps55
  go_wp2
  go_loopg [3, 7] 8 (fun k s3 s7 wx => ∃ i : Nat, i + k = 8 ∧ s7 = .int .i64 i ∧ s3 = .string (stText ([a, b, c, d, e, f, g, h].take i)) ∧ Aside0 (Below w.heap.size w wx))
  case atStart => exact ⟨0, by omega, rfl, rfl, ⟨HB.out.alloc (Nat.le_refl _) _⟩⟩
  case round =>
    obtain ⟨i, hik, rfl, rfl, HB1⟩ := hrel
    have hi9 : i = 0 ∨ i = 1 ∨ i = 2 ∨ i = 3 ∨ i = 4 ∨ i = 5 ∨ i = 6 ∨ i = 7 ∨ i = 8 := by omega
    rcases hi9 with rfl | rfl | rfl | rfl | rfl | rfl | rfl | rfl | rfl
    case' inr.inr.inr.inr.inr.inr.inr.inr =>
      clear hik
      go_wp2
      go_ret
      exact ⟨rfl, HB1.out⟩
    all_goals
      obtain ⟨kk, rfl⟩ : ∃ kk, gk = kk + 1 := ⟨gk - 1, by omega⟩
      have HI := Aside0.mk hik
      clear hik
      generalize hs : stText (List.take _ _) = s
      have hs4 : s.size ≤ 28 := by rw [← hs, stText_size]; simp only [List.length_take]; omega
      have HS := Aside0.mk hs
      clear hs
      have h4 := four_size
      go_wp2_with (go_at_call 83; refine (impl_fourBytes.calls _ (four _) _ rfl).mono ?_; rintro e_ w1 ⟨rfl, hb1⟩)
      go_roundg kk
      case measure => omega
      case rel => first | exact ⟨1, by have := HI.out; omega, rfl, by rw [← HS.out]; exact congrArg Value.string (stText_snoc _ _).symm, ⟨HB1.out.trans (hb1.mono HB1.out.size)⟩⟩ | exact ⟨2, by have := HI.out; omega, rfl, by rw [← HS.out]; exact congrArg Value.string (stText_snoc _ _).symm, ⟨HB1.out.trans (hb1.mono HB1.out.size)⟩⟩ | exact ⟨3, by have := HI.out; omega, rfl, by rw [← HS.out]; exact congrArg Value.string (stText_snoc _ _).symm, ⟨HB1.out.trans (hb1.mono HB1.out.size)⟩⟩ | exact ⟨4, by have := HI.out; omega, rfl, by rw [← HS.out]; exact congrArg Value.string (stText_snoc _ _).symm, ⟨HB1.out.trans (hb1.mono HB1.out.size)⟩⟩ | exact ⟨5, by have := HI.out; omega, rfl, by rw [← HS.out]; exact congrArg Value.string (stText_snoc _ _).symm, ⟨HB1.out.trans (hb1.mono HB1.out.size)⟩⟩ | exact ⟨6, by have := HI.out; omega, rfl, by rw [← HS.out]; exact congrArg Value.string (stText_snoc _ _).symm, ⟨HB1.out.trans (hb1.mono HB1.out.size)⟩⟩ | exact ⟨7, by have := HI.out; omega, rfl, by rw [← HS.out]; exact congrArg Value.string (stText_snoc _ _).symm, ⟨HB1.out.trans (hb1.mono HB1.out.size)⟩⟩ | exact ⟨8, by have := HI.out; omega, rfl, by rw [← HS.out]; exact congrArg Value.string (stText_snoc _ _).symm, ⟨HB1.out.trans (hb1.mono HB1.out.size)⟩⟩
end Go.Proofs.YtlddohppkcndjaaDoor.Sha
namespace Go.Proofs.YtlddohppkcndjaaDoor.Sha
open Go.RowKit Go.Proofs.YtlddohppkcndjaaDoorW.PrintWords Go.Proofs.YtlddohppkcndjaaDoorW.PrintLast Go.Proofs.YtlddohppkcndjaaDoorW.PrintMore Go.Proofs.YtlddohppkcndjaaDoor.Pending Go.Proofs.YtlddohppkcndjaaDoor.Pright
set_option linter.unusedVariables false
set_option linter.unusedSimpArgs false

/-- A block that holds a list of words. -/
abbrev Blk (w : World) (b : Nat) (t : TypeId) (l : List Int) : Prop := w.heap[b]? = some (.cells (cells .u32 l) t (0, 0))
theorem cells_get (l : List Int) (i : Nat) (h : i < l.length) : (cells .u32 l)[i]? = some (.int .u32 (l.getD i 0)) := by
  unfold cells
  rw [List.getElem?_toArray, List.getElem?_map, List.getD_eq_getElem?_getD, List.getElem?_eq_getElem h]
  rfl
theorem blk_cell_ {w : World} {b : Nat} {t : TypeId} {l : List Int} (h : Blk w b t l) (i : Nat) (hi : i < l.length) : w.cell? ⟨b, i, none⟩ = some (.int .u32 (l.getD i 0)) := by
  rw [cell_of_row w b i _ t _ h, cells_get l i hi]
theorem blk_froz {w : World} {b : Nat} {t : TypeId} {l : List Int} (h : Blk w b t l) (i : Nat) : w.frozen? ⟨b, i, none⟩ = false := blk_frozen h _
theorem cells_set (l : List Int) (i : Nat) (z : Int) : (cells .u32 l).setIfInBounds i (.int .u32 z) = cells .u32 (l.set i z) := by
  unfold cells
  rw [List.map_set]
  simp
theorem blk_put_ {w : World} {b : Nat} {t : TypeId} {l : List Int} (h : Blk w b t l) (i : Nat) (z : Int) : Blk (w.setCell ⟨b, i, none⟩ (.int .u32 z)) b t (l.set i z) :=
  blk_put h i _ (cells_set l i z)
theorem sz_alloc (w : World) (o : Obj) : (w.alloc o).heap.size = w.heap.size + 1 := by
  show (w.heap.push o).size = _
  simp
theorem blk_row {w : World} {b : Nat} {t : TypeId} {l l' : List Int} (h : Blk w b t l) : Blk (w.setRow b (cells .u32 l')) b t l' := setRow_heap w b _ _ t _ h
theorem setRow_below {w0 w : World} {B b : Nat} (h : Below B w0 w) (hb : B ≤ b) (cs : Array Value) : Below B w0 (w.setRow b cs) := by
  refine ⟨h.os, h.tape, h.output, by rw [size_setRow]; exact h.size, fun k hk => ?_⟩
  rw [← h.block k hk]
  unfold World.setRow
  show (w.heap.modify b _)[k]? = _
  rw [Array.getElem?_modify, if_neg (by omega)]
theorem blk_row_far {w : World} {b b' : Nat} {t : TypeId} {l : List Int} (h : Blk w b t l) (hne : b' ≠ b) (cs : Array Value) : Blk (w.setRow b' cs) b t l := by
  refine Eq.trans ?_ h
  unfold World.setRow
  show (w.heap.modify b' _)[b]? = _
  rw [Array.getElem?_modify, if_neg hne]
theorem cells_one (l : List Int) : (cells .u32 l).all (·.oneCell') = true := by
  unfold cells
  simp [Value.oneCell']
section
variable {ops : Array Oper} {rest : List Oper} {o : Oper} {a : Act} {w : World} {Q : Exit → Act → World → Prop}
theorem ld67 {b : Nat} {t : TypeId} {l : List Int} (hb : Blk w b t l) (hl : l.length = 8) (x : Operand) (hgd : o.guard = none) (ho : o.op = .load 67 x) (hx : a.eval x = .pointer (some ⟨b, 0, none⟩)) (h : wpList Tryd.prog ops Q rest (a.put o.dst (arr l)) w) : wpList Tryd.prog ops Q (o :: rest) a w :=
  wpList_load_row hgd 67 x ho b hx t _ _ _ hb under67 rfl (by rw [size67, size_cells, hl]) h
theorem ld101 {b : Nat} {t : TypeId} {l : List Int} (hb : Blk w b t l) (hl : l.length = 64) (x : Operand) (hgd : o.guard = none) (ho : o.op = .load 101 x) (hx : a.eval x = .pointer (some ⟨b, 0, none⟩)) (h : wpList Tryd.prog ops Q rest (a.put o.dst (arr l)) w) : wpList Tryd.prog ops Q (o :: rest) a w :=
  wpList_load_row hgd 101 x ho b hx t _ _ _ hb under101 rfl (by rw [size101, size_cells, hl]) h
theorem st67 {b : Nat} {t : TypeId} {l l' : List Int} (hb : Blk w b t l) (hl : l.length = 8) (hl' : l'.length = 8) (x y : Operand) (hgd : o.guard = none) (ho : o.op = .store 67 x y) (hx : a.eval x = .pointer (some ⟨b, 0, none⟩)) (hy : a.eval y = arr l') (h : wpList Tryd.prog ops Q rest (a.put o.dst undef) (w.setRow b (cells .u32 l'))) : wpList Tryd.prog ops Q (o :: rest) a w :=
  wpList_store_row hgd 67 x y ho b _ hx hy t _ hb (by rw [size67, size_cells, hl']) (by rw [size_cells, size_cells, hl, hl']) (cells_one l') h
theorem st101 {b : Nat} {t : TypeId} {l l' : List Int} (hb : Blk w b t l) (hl : l.length = 64) (hl' : l'.length = 64) (x y : Operand) (hgd : o.guard = none) (ho : o.op = .store 101 x y) (hx : a.eval x = .pointer (some ⟨b, 0, none⟩)) (hy : a.eval y = arr l') (h : wpList Tryd.prog ops Q rest (a.put o.dst undef) (w.setRow b (cells .u32 l'))) : wpList Tryd.prog ops Q (o :: rest) a w :=
  wpList_store_row hgd 101 x y ho b _ hx hy t _ hb (by rw [size101, size_cells, hl']) (by rw [size_cells, size_cells, hl, hl']) (cells_one l') h
end
theorem ret67 {fn : Func} {p : Tmp} (h : fn.results = #[.cell p 67]) (tmps : Array Value) (w : World) {b : Nat} {t : TypeId} {l : List Int} (hb : Blk w b t l) (hl : l.length = 8) (hp : tmps.getD p undef = .pointer (some ⟨b, 0, none⟩)) : (results fn tmps).run Tryd.prog w = .ok (arr l) w :=
  results_cell_row h tmps w b t _ _ _ hp hb under67 rfl (by rw [size67, size_cells, hl])
theorem ret101 {fn : Func} {p : Tmp} (h : fn.results = #[.cell p 101]) (tmps : Array Value) (w : World) {b : Nat} {t : TypeId} {l : List Int} (hb : Blk w b t l) (hl : l.length = 64) (hp : tmps.getD p undef = .pointer (some ⟨b, 0, none⟩)) : (results fn tmps).run Tryd.prog w = .ok (arr l) w :=
  results_cell_row h tmps w b t _ _ _ hp hb under101 rfl (by rw [size101, size_cells, hl])
theorem arr8 (l : List Int) (h : l.length = 8) : ∃ a b c d e f g h, l = [a, b, c, d, e, f, g, h] := by
  match l, h with
  | [a, b, c, d, e, f, g, h], _ => exact ⟨a, b, c, d, e, f, g, h, rfl⟩
def tsStep (s : ByteArray) (l : List Int) (i : Nat) : List Int := l.set (i / 4) (Go.bits .or .u32 (l.getD (i / 4) 0 * 256 % 4294967296) (bt s i))
def tsTo (s : ByteArray) : Nat → List Int
  | 0 => [0, 0, 0, 0, 0, 0, 0, 0]
  | i + 1 => tsStep s (tsTo s i) i
def txState (s : ByteArray) : List Int := tsTo s 32
theorem tsTo_len (s : ByteArray) : ∀ i, (tsTo s i).length = 8
  | 0 => rfl
  | i + 1 => by simp [tsTo, tsStep, tsTo_len s i]
end Go.Proofs.YtlddohppkcndjaaDoor.Sha
namespace Go.Proofs.YtlddohppkcndjaaDoor.Sha
open Go.RowKit Go.Proofs.YtlddohppkcndjaaDoorW.PrintWords Go.Proofs.YtlddohppkcndjaaDoorW.PrintLast Go.Proofs.YtlddohppkcndjaaDoorW.PrintMore Go.Proofs.YtlddohppkcndjaaDoor.Pending Go.Proofs.YtlddohppkcndjaaDoor.Pright
set_option linter.unusedVariables false
set_option linter.unusedSimpArgs false

def zero64 : List Int := List.replicate 64 0
def wTo (s : ByteArray) : Nat → List Int
  | 0 => zero64
  | i + 1 => tsStep s (wTo s i) i
theorem wTo_len (s : ByteArray) : ∀ i, (wTo s i).length = 64
  | 0 => rfl
  | i + 1 => by simp [wTo, tsStep, wTo_len s i]
/-- What 'right' gives. -/
def rt (x n : Int) : Int := (impl_right.f x n).getD 0
theorem right_f (x n : Int) (h : n = 7 ∨ n = 18 ∨ n = 17 ∨ n = 19 ∨ n = 6 ∨ n = 11 ∨ n = 25 ∨ n = 2 ∨ n = 13 ∨ n = 22) : impl_right.f x n = some (rt x n) := by
  unfold rt
  have : (impl_right.f x n).isSome = true := by
    unfold impl_right.f bits_RotateLeft32.f
    rcases h with rfl | rfl | rfl | rfl | rfl | rfl | rfl | rfl | rfl | rfl <;> (rw [if_pos (by decide +kernel), if_pos (by decide +kernel)]; rfl)
  obtain ⟨r, hr⟩ := Option.isSome_iff_exists.1 this
  rw [hr]
  rfl
def m32 (x : Int) : Int := x % 4294967296
def sg0 (x : Int) : Int := Go.bits .xor .u32 (Go.bits .xor .u32 (rt x 7) (rt x 18)) (x / 8)
def sg1 (x : Int) : Int := Go.bits .xor .u32 (Go.bits .xor .u32 (rt x 17) (rt x 19)) (x / 1024)
def exStep (l : List Int) (u : Nat) : List Int := l.set (u + 16) ((sg1 (l.getD (u + 14) 0) + l.getD (u + 9) 0 + sg0 (l.getD (u + 1) 0) + l.getD u 0) % 4294967296)
def exTo (l : List Int) : Nat → List Int
  | 0 => l
  | u + 1 => exStep (exTo l u) u
theorem exTo_len (l : List Int) (h : l.length = 64) : ∀ u, (exTo l u).length = 64
  | 0 => h
  | u + 1 => by simp [exTo, exStep, exTo_len l h u]
def wds (s : ByteArray) : List Int := exTo (wTo s 64) 48
theorem wds_len (s : ByteArray) : (wds s).length = 64 := exTo_len _ (wTo_len s 64) 48
set_option maxHeartbeats 4000000 in
set_option maxRecDepth 100000 in
theorem words_calls (s : ByteArray) (hs : 64 ≤ s.size) (w : World) : Calls Tryd.prog 87 #[.string s] w fun e_ w' => e_ = .returned (arr (wds s)) ∧ Below w.heap.size w w' := by
  have HB := Aside0.mk (Below.refl w.heap.size w)
  go_enter Tryd.func87, Tryd.ntmps87
  go_wp2
  go_loopg [11] 16 (fun k s11 wx => ∃ i : Nat, i + k = 16 ∧ s11 = .int .i64 i ∧ Aside0 (Below w.heap.size w wx ∧ Blk wx (w.heap.size + 1) 101 (wTo s (4 * i)) ∧ Blk wx w.heap.size 101 zero64))
  case atStart => exact ⟨0, by omega, rfl, ⟨(HB.out.alloc (Nat.le_refl _) _).alloc (by rw [sz_alloc]; omega) _, by unfold Blk; rw [← sz_alloc w (.cells _ 101)]; exact heap_alloc_last _ _, blk_alloc (blk_new _ _) _⟩⟩
  case round =>
    obtain ⟨i, hik, rfl, HB1⟩ := hrel
    cases gk with
    | zero =>
      obtain rfl : i = 16 := by omega
      clear hik
      have hi : ¬ ((16 : Int) < 16) := by decide
      go_wp2
      go_loopg [6] 48 (fun k s6 wx => ∃ i : Nat, i + k = 48 ∧ s6 = .int .i64 ((i + 16 : Nat) : Int) ∧ Aside0 (Below w.heap.size w wx ∧ Blk wx (w.heap.size + 1) 101 (exTo (wTo s 64) i) ∧ Blk wx w.heap.size 101 zero64))
      case atStart => exact ⟨0, by omega, rfl, HB1⟩
      case round =>
        obtain ⟨u, huk, rfl, HB2⟩ := hrel
        cases gk with
        | zero =>
          obtain rfl : u = 48 := by omega
          clear huk
          have A1 := Aside0.mk HB2.out.2.1
          have A0 := Aside0.mk HB2.out.2.2
          go_wp2_with (first | ((with_reducible refine gate_dst (N := 76) rfl ?_); refine ld101 A1.out (wds_len s) (.tmp 3) rfl rfl rfl ?_) | ((with_reducible refine gate_store (t := 101) (p := 2) rfl ?_); refine st101 A0.out rfl (wds_len s) (.tmp 2) (.tmp 76) rfl rfl rfl rfl ?_))
          (try simp only [Exit.inBlock, Exit.then])
          exact bodyPost_ret (ret101 rfl _ _ (blk_row A0.out) (wds_len s) rfl) rfl ⟨rfl, setRow_below HB2.out.1 (Nat.le_refl _) _⟩
        | succ kk =>
          have hu : (u : Int) < 48 := by omega
          have hl : (exTo (wTo s 64) u).length = 64 := exTo_len _ (wTo_len s 64) u
          obtain ⟨l, hle⟩ : ∃ l, exTo (wTo s 64) u = l := ⟨_, rfl⟩
          rw [hle] at hl
          have A1 : Blk wr (w.heap.size + 1) 101 l := hle ▸ HB2.out.2.1
          obtain ⟨x1, hx1⟩ : ∃ x, l.getD (u + 1) 0 = x := ⟨_, rfl⟩
          obtain ⟨x2, hx2⟩ : ∃ x, l.getD (u + 14) 0 = x := ⟨_, rfl⟩
          obtain ⟨x3, hx3⟩ : ∃ x, l.getD (u + 9) 0 = x := ⟨_, rfl⟩
          obtain ⟨x4, hx4⟩ : ∃ x, l.getD u 0 = x := ⟨_, rfl⟩
          have c1 := blk_cell_ A1 (u + 1) (by omega)
          have c2 := blk_cell_ A1 (u + 14) (by omega)
          have c3 := blk_cell_ A1 (u + 9) (by omega)
          have c4 := blk_cell_ A1 u (by omega)
          have c5 := blk_cell_ A1 (u + 16) (by omega)
          have f5 := blk_froz A1 (u + 16)
          rw [hx1] at c1; rw [hx2] at c2; rw [hx3] at c3; rw [hx4] at c4
          have HI := Aside0.mk (And.intro huk (And.intro hle (And.intro hx1 (And.intro hx2 (And.intro hx3 hx4)))))
          have A1_ := Aside0.mk A1
          clear huk hle hx1 hx2 hx3 hx4 A1
          go_wp2
          go_region
          go_wp2_with (go_at_call 88; refine (impl_right.calls _ _ (rt _ _) _ (right_f _ _ (by decide))).mono ?_; rintro e_ w1 ⟨rfl, ⟨nd, rfl⟩⟩)
          go_region
          go_wp2
          go_roundg kk
          case measure => omega
          case rel =>
            obtain ⟨huk, hle, hx1, hx2, hx3, hx4⟩ := HI.out
            refine ⟨u + 1, by omega, by go_num, ⟨(pw_below_drewN HB2.out.1 _).setCell (Nat.le_succ _) _, ?_, blk_far (blk_drewN HB2.out.2.2 _) (by simp) _⟩⟩
            show Blk _ _ _ (exStep (exTo (wTo s 64) u) u)
            unfold exStep
            rw [hle, hx1, hx2, hx3, hx4]
            exact blk_put_ (blk_drewN A1_.out _) (u + 16) _
    | succ kk =>
      have hi : (i : Int) < 16 := by omega
      have HI := Aside0.mk hik
      clear hik
      go_wp2
      go_loopg [14] 4 (fun k s14 wx => ∃ j : Nat, j + k = 4 ∧ s14 = .int .i64 j ∧ Aside0 (Below w.heap.size w wx ∧ Blk wx (w.heap.size + 1) 101 (wTo s (4 * i + j)) ∧ Blk wx w.heap.size 101 zero64))
      case atStart => exact ⟨0, by omega, rfl, HB1⟩
      case round =>
        obtain ⟨j, hjk, rfl, HB2⟩ := hrel
        cases gk with
        | zero =>
          obtain rfl : j = 4 := by omega
          clear hjk
          go_wp2
          go_roundg kk
          case measure => omega
          case rel => exact ⟨i + 1, by have := HI.out; omega, by go_num, HB2⟩
        | succ jj =>
          have hj : (j : Int) < 4 := by omega
          have hl := wTo_len s (4 * i + j)
          have hx : ∃ x, (wTo s (4 * i + j)).getD i 0 = x := ⟨_, rfl⟩
          obtain ⟨x, hx⟩ := hx
          have hc := blk_cell_ HB2.out.2.1 i (by rw [hl]; omega)
          rw [hx] at hc
          have hf := blk_froz HB2.out.2.1 i
          have hb0 : (0 : Int) ≤ 4 * (i : Int) + (j : Int) ∧ 4 * (i : Int) + (j : Int) < (s.size : Int) := by omega
          have hbt : ∀ h : 4 * i + j < s.size, ((s[4 * i + j]'h).toNat : Int) = bt s (4 * (i : Int) + (j : Int)) := fun h => (bt_at s ((4 * i + j : Nat) : Int) h).trans (by push_cast; rfl)
          have hbr := bt_range s (4 * (i : Int) + (j : Int))
          obtain ⟨z, hz⟩ : ∃ z, bt s (4 * (i : Int) + (j : Int)) = z := ⟨_, rfl⟩
          simp only [hz] at hbt hbr
          have hzm : z % 4294967296 = z := by omega
          have HJ := Aside0.mk (And.intro hjk (And.intro hx hz))
          clear hjk hx hz hl
          go_wp2
          go_region
          go_wp2
          go_roundg jj
          case measure => omega
          case rel =>
            obtain ⟨hjk, hx, hz⟩ := HJ.out
            refine ⟨j + 1, by omega, by go_num, ⟨(HB2.out.1.setCell (Nat.le_succ _) _).drew, ?_, (blk_far HB2.out.2.2 (by simp) _)⟩⟩
            have := blk_put_ HB2.out.2.1 i (bits .or .u32 (x * 256 % 4294967296) z)
            show Blk _ _ _ (tsStep s (wTo s (4 * i + j)) (4 * i + j))
            unfold tsStep
            rw [show (4 * i + j) / 4 = i by omega, hx, show ((4 * i + j : Nat) : Int) = 4 * (i : Int) + (j : Int) by omega, hz]
            exact this
end Go.Proofs.YtlddohppkcndjaaDoor.Sha
namespace Go.Proofs.YtlddohppkcndjaaDoor.Sha
open Go.RowKit Go.Proofs.YtlddohppkcndjaaDoorW.PrintWords Go.Proofs.YtlddohppkcndjaaDoorW.PrintLast Go.Proofs.YtlddohppkcndjaaDoorW.PrintMore Go.Proofs.YtlddohppkcndjaaDoor.Pending Go.Proofs.YtlddohppkcndjaaDoor.Pright
set_option linter.unusedVariables false
set_option linter.unusedSimpArgs false

def keys : List Int := [1116352408, 1899447441, 3049323471, 3921009573, 961987163, 1508970993, 2453635748, 2870763221,
  3624381080, 310598401, 607225278, 1426881987, 1925078388, 2162078206, 2614888103, 3248222580,
  3835390401, 4022224774, 264347078, 604807628, 770255983, 1249150122, 1555081692, 1996064986,
  2554220882, 2821834349, 2952996808, 3210313671, 3336571891, 3584528711, 113926993, 338241895,
  666307205, 773529912, 1294757372, 1396182291, 1695183700, 1986661051, 2177026350, 2456956037,
  2730485921, 2820302411, 3259730800, 3345764771, 3516065817, 3600352804, 4094571909, 275423344,
  430227734, 506948616, 659060556, 883997877, 958139571, 1322822218, 1537002063, 1747873779,
  1955562222, 2024104815, 2227730452, 2361852424, 2428436474, 2756734187, 3204031479, 3329325298]
/-- The table of the rounds' numbers. -/
abbrev Tab (w : World) : Prop := Lib.TabIs Tryd.prog w "loop.example/g00186/impl.roundKeys" .u32 keys
theorem gTab : Tryd.prog.globalNamed "loop.example/g00186/impl.roundKeys" = some 0 := by kernel_rfl
theorem tab_lt {w : World} (h : Tab w) : 0 < w.heap.size := by
  unfold Tab Lib.TabIs World.var? at h
  rw [gTab] at h
  simp only [Option.bind_some] at h
  rcases Nat.lt_or_ge 0 w.heap.size with h' | h'
  · exact h'
  · rw [Array.getElem?_eq_none h'] at h; simp at h
theorem tab_below {w w' : World} (h : Tab w) (hb : Below w.heap.size w w') : Tab w' := by
  have hlt := tab_lt h
  unfold Tab Lib.TabIs World.var? at *
  rw [gTab] at h ⊢
  simp only [Option.bind_some] at h ⊢
  rw [hb.block 0 hlt]
  exact h
theorem tab_cell {w : World} (h : Tab w) (i : Nat) (hi : i < 64) : w.cell? ⟨0, i, none⟩ = some (.int .u32 (keys.getD i 0)) := by
  unfold Tab Lib.TabIs World.var? at h
  rw [gTab] at h
  simp only [Option.bind_some] at h
  split at h
  · rename_i cs t fr hb
    obtain rfl := Option.some.inj h
    rw [cell_of_row w 0 i _ t _ hb]
    exact cells_get keys i hi
  · cases h
/-- One round. -/
def rnd (k w : Int) : List Int → List Int
  | [a, b, c, d, e, f, g, h] =>
    let t1 := h + Go.bits .xor .u32 (Go.bits .xor .u32 (rt e 6) (rt e 11)) (rt e 25) + Go.bits .xor .u32 (Go.bits .and .u32 e f) (Go.bits .and .u32 (Go.bits .xor .u32 IntKind.u32.max e) g) + k + w
    let t2 := Go.bits .xor .u32 (Go.bits .xor .u32 (rt a 2) (rt a 13)) (rt a 22) + Go.bits .xor .u32 (Go.bits .xor .u32 (Go.bits .and .u32 a b) (Go.bits .and .u32 a c)) (Go.bits .and .u32 b c)
    [(t1 + t2) % 4294967296, a, b, c, (d + t1) % 4294967296, e, f, g]
  | l => l
def rnds (w st : List Int) : Nat → List Int
  | 0 => st
  | t + 1 => rnd (keys.getD t 0) (w.getD t 0) (rnds w st t)
theorem rnd_len (k w : Int) (l : List Int) (h : l.length = 8) : (rnd k w l).length = 8 := by
  obtain ⟨a, b, c, d, e, f, g, h, rfl⟩ := arr8 l h
  rfl
theorem rnds_len (w st : List Int) (h : st.length = 8) : ∀ t, (rnds w st t).length = 8
  | 0 => h
  | t + 1 => rnd_len _ _ _ (rnds_len w st h t)
def addTo (out st : List Int) : Nat → List Int
  | 0 => out
  | i + 1 => (addTo out st i).set i (((addTo out st i).getD i 0 + st.getD i 0) % 4294967296)
theorem addTo_len (out st : List Int) (h : out.length = 8) : ∀ t, (addTo out st t).length = 8
  | 0 => h
  | t + 1 => by simp [addTo, addTo_len out st h t]
def one (st : List Int) (s : ByteArray) : List Int := addTo (rnds (wds s) st 64) st 8
theorem one_len (st : List Int) (s : ByteArray) (h : st.length = 8) : (one st s).length = 8 := addTo_len _ _ (rnds_len _ _ h 64) 8
theorem right_q (x n : Int) (h : n = 7 ∨ n = 18 ∨ n = 17 ∨ n = 19 ∨ n = 6 ∨ n = 11 ∨ n = 25 ∨ n = 2 ∨ n = 13 ∨ n = 22) (W : World) (m : Nat) : Calls Tryd.prog 88 #[.int .u32 x, .int .i64 n] (W.drewN m) fun e w'' => e = .returned (.int .u32 (rt x n)) ∧ ∃ k, w'' = W.drewN k := by
  refine Calls.quiet_of ((impl_right.calls x n (rt x n) _ (right_f x n h)).mono ?_)
  rintro e w' ⟨he, nd, hw⟩
  exact ⟨he, nd, hw⟩
set_option maxHeartbeats 4000000 in
set_option maxRecDepth 100000 in
theorem one_calls (st : List Int) (hst : st.length = 8) (s : ByteArray) (hs : 64 ≤ s.size) (w : World) (htab : Tab w) : Calls Tryd.prog 81 #[arr st, .string s] w fun e_ w' => e_ = .returned (arr (one st s)) ∧ Below w.heap.size w w' := by
  obtain ⟨a, b, c, d, e, f, g, h, rfl⟩ := arr8 st hst
  have HB := Aside0.mk (Below.refl w.heap.size w)
  have HT := Aside0.mk htab
  clear htab hst
  go_enter Tryd.func81, Tryd.ntmps81
  go_wp2_with (first | (go_at_call 87; refine (words_calls s hs _).mono ?_; rintro e_ w1 ⟨rfl, hb1⟩; have HB1 := Aside0.mk hb1; clear hb1) | ((with_reducible refine gate_store (t := 101) (p := 5) rfl ?_); refine st101 (l := zero64) (l' := wds s) (heap_alloc_last _ _) rfl (wds_len s) (.tmp 5) (.tmp 20) rfl rfl rfl rfl ?_))
  have hz1 : w.heap.size + 2 ≤ w1.heap.size := by have := HB1.out.size; rw [sz_alloc, sz_alloc] at this; omega
  obtain ⟨b5, hb5⟩ : ∃ b5, w1.heap.size = b5 := ⟨_, rfl⟩
  generalize hW : World.setRow _ _ _ = W
  have k1 : Below w.heap.size w w1 := ((HB.out.alloc (Nat.le_refl _) (.cells (cells .u32 [a, b, c, d, e, f, g, h]) 67)).alloc (by rw [sz_alloc]; omega) (.cells (cells .u32 [0, 0, 0, 0, 0, 0, 0, 0]) 67)).trans (HB1.out.mono (by rw [sz_alloc, sz_alloc]; omega))
  have kW : Below w.heap.size w W := by rw [← hW]; exact setRow_below (k1.alloc k1.size _) k1.size _
  have g0 : Blk w1 w.heap.size 67 [a, b, c, d, e, f, g, h] := by
    unfold Blk
    rw [HB1.out.block _ (by rw [sz_alloc, sz_alloc]; omega)]
    exact blk_alloc (blk_new _ _) _
  have g1 : Blk w1 (w.heap.size + 1) 67 [0, 0, 0, 0, 0, 0, 0, 0] := by
    unfold Blk
    rw [HB1.out.block _ (by rw [sz_alloc, sz_alloc]; omega), ← sz_alloc w (.cells _ 67)]
    exact heap_alloc_last _ _
  have B0 : Blk W w.heap.size 67 [a, b, c, d, e, f, g, h] := by rw [← hW]; exact blk_row_far (blk_alloc g0 _) (by omega) _
  have B1 : Blk W (w.heap.size + 1) 67 [0, 0, 0, 0, 0, 0, 0, 0] := by rw [← hW]; exact blk_row_far (blk_alloc g1 _) (by omega) _
  have B5 : Blk W b5 101 (wds s) := by rw [← hW, hb5]; exact blk_row (l := zero64) (by rw [← hb5]; exact heap_alloc_last _ _)
  have hT : Tab W := tab_below HT.out kW
  rw [hb5] at hz1 ⊢
  clear hW k1 g0 g1 HB1 hb5 w1
  have hne : b5 ≠ w.heap.size := by omega
  have c0 := blk_cell_ B0 0 (by simp)
  have c1 := blk_cell_ B0 1 (by simp)
  have c2 := blk_cell_ B0 2 (by simp)
  have c3 := blk_cell_ B0 3 (by simp)
  have c4 := blk_cell_ B0 4 (by simp)
  have c5 := blk_cell_ B0 5 (by simp)
  have c6 := blk_cell_ B0 6 (by simp)
  have c7 := blk_cell_ B0 7 (by simp)
  simp only [List.getD_cons_zero, List.getD_cons_succ] at c0 c1 c2 c3 c4 c5 c6 c7
  have HS := Aside0.mk (And.intro kW (And.intro B0 (And.intro B1 (And.intro B5 hT))))
  clear kW B0 B1 B5 hT
  dsimp only [Act.put]
  go_quiet (fail)
  go_wp2
  generalize hWn : W.drewN _ = V
  replace HS : Aside0 (Below w.heap.size w V ∧ Blk V w.heap.size 67 [a, b, c, d, e, f, g, h] ∧ Blk V (w.heap.size + 1) 67 [0, 0, 0, 0, 0, 0, 0, 0] ∧ Blk V b5 101 (wds s) ∧ Tab V) := by
    rw [← hWn]
    exact ⟨pw_below_drewN HS.out.1 _, HS.out.2.1, HS.out.2.2.1, HS.out.2.2.2.1, HS.out.2.2.2.2⟩
  clear hWn c0 c1 c2 c3 c4 c5 c6 c7 W
  obtain ⟨st, hst⟩ : ∃ st, [a, b, c, d, e, f, g, h] = st := ⟨_, rfl⟩
  have hsl : st.length = 8 := by rw [← hst]; rfl
  rw [hst] at HS ⊢
  have HST := Aside0.mk (And.intro hst hsl)
  clear hst hsl
  go_loopg [6, 7, 8, 9, 10, 11, 12, 13, 37] 64 (fun k s6 s7 s8 s9 s10 s11 s12 s13 s37 wx => ∃ i n : Nat, ∃ a b c d e f g h : Int, i + k = 64 ∧ s37 = .int .i64 i ∧ s6 = .int .u32 a ∧ s7 = .int .u32 b ∧ s8 = .int .u32 c ∧ s9 = .int .u32 d ∧ s10 = .int .u32 e ∧ s11 = .int .u32 f ∧ s12 = .int .u32 g ∧ s13 = .int .u32 h ∧ wx = V.drewN n ∧ Aside0 (rnds (wds s) st i = [a, b, c, d, e, f, g, h]))
  case atStart => exact ⟨0, 0, a, b, c, d, e, f, g, h, by omega, rfl, rfl, rfl, rfl, rfl, rfl, rfl, rfl, rfl, rfl, ⟨HST.out.1.symm⟩⟩
  case round =>
    obtain ⟨i, n, a', b', c', d', e', f', g', h', hik, rfl, rfl, rfl, rfl, rfl, rfl, rfl, rfl, rfl, rfl, HR⟩ := hrel
    cases gk with
    | zero =>
      obtain rfl : i = 64 := by omega
      have hi : ¬ ((64 : Int) < 64) := by decide
      clear hik
      go_wp2_with (((with_reducible refine gate_store (t := 67) (p := 17) rfl ?_); refine st67 (l := [0, 0, 0, 0, 0, 0, 0, 0]) (l' := [a', b', c', d', e', f', g', h']) (heap_alloc_last _ _) rfl rfl (.tmp 17) (.tmp 108) rfl rfl rfl rfl ?_))
      generalize hW : World.setRow _ _ _ = W
      have hz : b5 < V.heap.size := blk_lt HS.out.2.2.2.1
      obtain ⟨b17, hb17⟩ : ∃ b, V.heap.size = b := ⟨_, rfl⟩
      have kW : Below w.heap.size w W := by rw [← hW]; exact setRow_below ((pw_below_drewN HS.out.1 n).alloc HS.out.1.size _) HS.out.1.size _
      have B0 : Blk W w.heap.size 67 st := by rw [← hW]; exact blk_row_far (blk_alloc (blk_drewN HS.out.2.1 n) _) (by omega) _
      have B1 : Blk W (w.heap.size + 1) 67 [0, 0, 0, 0, 0, 0, 0, 0] := by rw [← hW]; exact blk_row_far (blk_alloc (blk_drewN HS.out.2.2.1 n) _) (by omega) _
      have BO : Blk W b17 67 [a', b', c', d', e', f', g', h'] := by rw [← hW, ← hb17]; exact blk_row (l := [0, 0, 0, 0, 0, 0, 0, 0]) (heap_alloc_last _ _)
      rw [← HR.out] at BO
      rw [hb17] at hz ⊢
      have HB17 := Aside0.mk (And.intro hz hz1)
      have HW := Aside0.mk (And.intro kW (And.intro B0 (And.intro B1 BO)))
      have ho := rnds_len (wds s) st HST.out.2 64
      obtain ⟨out, hout⟩ : ∃ o, rnds (wds s) st 64 = o := ⟨_, rfl⟩
      rw [hout] at HW ho
      have HO := Aside0.mk (And.intro hout ho)
      clear hW kW B0 B1 BO hb17 hz hz1 hout ho hi
      go_wp2
      go_loopg [109] 8 (fun k s109 wx => ∃ i : Nat, i + k = 8 ∧ s109 = .int .i64 i ∧ Aside0 (Below w.heap.size w wx ∧ Blk wx w.heap.size 67 st ∧ Blk wx (w.heap.size + 1) 67 [0, 0, 0, 0, 0, 0, 0, 0] ∧ Blk wx b17 67 (addTo out st i)))
      case atStart => exact ⟨0, by omega, rfl, HW⟩
      case round =>
        obtain ⟨i, hik, rfl, HQ⟩ := hrel
        cases gk with
        | zero =>
          obtain rfl : i = 8 := by omega
          have hi : ¬ ((8 : Int) < 8) := by decide
          clear hik
          have hol := addTo_len out st HO.out.2 8
          have A1 := Aside0.mk HQ.out.2.2.2
          have A0 := Aside0.mk HQ.out.2.2.1
          have HOL := Aside0.mk hol
          clear hol
          go_wp2_with (first | ((with_reducible refine gate_dst (N := 121) rfl ?_); refine ld67 A1.out HOL.out (.tmp 17) rfl rfl rfl ?_) | ((with_reducible refine gate_store (t := 67) (p := 4) rfl ?_); refine st67 A0.out rfl HOL.out (.tmp 4) (.tmp 121) rfl rfl rfl rfl ?_))
          (try simp only [Exit.inBlock, Exit.then])
          refine bodyPost_ret (ret67 rfl _ _ (blk_row A0.out) HOL.out rfl) rfl ⟨?_, setRow_below HQ.out.1 (by omega) _⟩
          unfold one
          rw [HST.out.1, HO.out.1]
        | succ jj =>
          have hi : (i : Int) < 8 := by omega
          have hol := addTo_len out st HO.out.2 i
          obtain ⟨x, hx⟩ : ∃ x, (addTo out st i).getD i 0 = x := ⟨_, rfl⟩
          obtain ⟨y, hy⟩ : ∃ y, st.getD i 0 = y := ⟨_, rfl⟩
          have cx := blk_cell_ HQ.out.2.2.2 i (by rw [hol]; omega)
          have cy := blk_cell_ HQ.out.2.1 i (by rw [HST.out.2]; omega)
          have fx := blk_froz HQ.out.2.2.2 i
          rw [hx] at cx
          rw [hy] at cy
          have HI := Aside0.mk (And.intro hik (And.intro hx hy))
          clear hik hx hy hol
          go_wp2
          go_region
          go_wp2
          go_roundg jj
          case measure => omega
          case rel =>
            obtain ⟨hik, hx, hy⟩ := HI.out
            obtain ⟨hz, hz1⟩ := HB17.out
            refine ⟨i + 1, by omega, by go_num, ⟨(HQ.out.1.setCell (by show _ ≤ b17; omega) _).drew, blk_far HQ.out.2.1 (by show _ ≠ b17; omega) _, blk_far HQ.out.2.2.1 (by show _ ≠ b17; omega) _, ?_⟩⟩
            show Blk _ _ _ ((addTo out st i).set i (((addTo out st i).getD i 0 + st.getD i 0) % 4294967296))
            rw [hx, hy]
            exact blk_put_ HQ.out.2.2.2 i _
    | succ kk =>
      have hi : (i : Int) < 64 := by omega
      generalize hVn : V.drewN n = U
      have HVn := Aside0.mk hVn
      have HU : Aside0 (Blk U b5 101 (wds s) ∧ Tab U) := by rw [← hVn]; exact ⟨HS.out.2.2.2.1, HS.out.2.2.2.2⟩
      clear hVn
      obtain ⟨kx, hkx⟩ : ∃ x, keys.getD i 0 = x := ⟨_, rfl⟩
      obtain ⟨wx, hwx⟩ : ∃ x, (wds s).getD i 0 = x := ⟨_, rfl⟩
      have ck := tab_cell HU.out.2 i (by omega)
      have cw := blk_cell_ HU.out.1 i (by rw [wds_len]; omega)
      rw [hkx] at ck
      rw [hwx] at cw
      have HI := Aside0.mk (And.intro hik (And.intro hkx hwx))
      clear hik hkx hwx
      go_wp2
      go_quiet ((go_at_call 88; exact right_q _ _ (by decide) _ _))
      go_wp2_with (go_at_call 88; refine (impl_right.calls _ _ (rt _ _) _ (right_f _ _ (by decide))).mono ?_; rintro e_ w1 ⟨rfl, ⟨nd, rfl⟩⟩)
      go_roundg kk
      case measure => omega
      case rel =>
        obtain ⟨hik, hkx, hwx⟩ := HI.out
        refine ⟨i + 1, _, _, _, _, _, _, _, _, _, by omega, by go_num, rfl, rfl, rfl, rfl, rfl, rfl, rfl, rfl, by rw [← HVn.out]; exact World.drewN_drewN _ _ _, ⟨?_⟩⟩
        show rnd (keys.getD i 0) ((wds s).getD i 0) (rnds (wds s) st i) = _
        rw [HR.out, hkx, hwx]
        rfl
end Go.Proofs.YtlddohppkcndjaaDoor.Sha
