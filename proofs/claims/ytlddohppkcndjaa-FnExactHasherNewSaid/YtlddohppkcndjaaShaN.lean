/- A new hasher, walked: the first state, a state's bytes, the hasher. No condition. -/
import Derived.Test.YtlddohppkcndjaaPfourBytesx1
import Derived.Test.YtlddohppkcndjaaPHasherNewx1
import Derived.Deep.WholeRow
namespace Go.Proofs.Ytlddohppkcndjaa.Sha
open Go.RowKit Go.Proofs.YtlddohppkcndjaaW.PrintWords Go.Proofs.YtlddohppkcndjaaW.PrintLast Go.Proofs.YtlddohppkcndjaaW.PrintMore Go.Proofs.Ytlddohppkcndjaa.PfourBytes
set_option linter.unusedVariables false
set_option linter.unusedSimpArgs false

def cells (k : IntKind) (l : List Int) : Array Value := (l.map fun z => Value.int k z).toArray
abbrev arr (l : List Int) : Value := .agg (cells .u32 l)
def first8 : List Int := [1779033703, 3144134277, 1013904242, 2773480762, 1359893119, 2600822924, 528734635, 1541459225]
theorem results_cell {fn : Func} {p : Tmp} {ty : TypeId} (h : fn.results = #[.cell p ty]) (tmps : Array Value) (P : Program) (w : World) :
    (results fn tmps).run P w = ((asAddr (tmps.getD p undef)).run P w).andThen fun a w₁ => (loadVar ty a).run P w₁ := by
  simp only [results, h]
  simp [Sem.run_bind, Result.andThen]
  try (cases (asAddr (tmps.getD p undef)).run P w <;> simp [Result.andThen])
theorem size_cells (k : IntKind) (l : List Int) : (cells k l).size = l.length := by simp [cells]
theorem under67 : Try.prog.underlying 32 = some (.array 8 31) := by kernel_rfl

theorem size67 : (Try.prog.info? 32).map (·.size) = some 8 := by kernel_rfl

theorem load67 (w : World) (b : Nat) (l : List Int) (t : TypeId) (fr : Nat × Nat) (hl : l.length = 8) (hb : w.heap[b]? = some (.cells (cells .u32 l) t fr)) : (loadVar 32 ⟨b, 0, none⟩).run Try.prog w = .ok (arr l) w :=
  run_loadVar_row w b t 32 (cells .u32 l) fr _ hb under67 rfl (by rw [size67, size_cells, hl])

set_option maxHeartbeats 4000000 in
set_option maxRecDepth 100000 in
theorem first_calls (w : World) : Calls Try.prog 10 #[] w fun e w' => e = .returned (arr first8) ∧ Below w.heap.size w w' := by
  go_enter Try.func10, Try.ntmps10
  go_wp2
  refine bodyPost_ret (v := arr first8) ?_ rfl ⟨rfl, (Below.refl _ _).alloc (Nat.le_refl _) _⟩
  rw [results_cell rfl]
  exact load67 _ _ first8 32 (0, 0) rfl (heap_alloc_last _ _)
def four (z : Int) : ByteArray := strOfNums [(z / 16777216) % 256, (z / 65536) % 256, (z / 256) % 256, z % 256]
def stText (l : List Int) : ByteArray := l.foldl (fun s z => s ++ four z) ⟨#[]⟩
theorem stText_snoc (l : List Int) (z : Int) : stText (l ++ [z]) = stText l ++ four z := by simp [stText]
theorem four_size (z : Int) : (four z).size = 4 := by unfold four; rw [strOfNums_size]; rfl
theorem stText_size (l : List Int) : (stText l).size = 4 * l.length := by
  suffices ∀ (l : List Int) (s : ByteArray), (l.foldl (fun s z => s ++ four z) s).size = s.size + 4 * l.length by
    have := this l ⟨#[]⟩
    rw [show (⟨#[]⟩ : ByteArray).size = 0 from rfl] at this
    unfold stText
    omega
  intro l
  induction l with
  | nil => intro s; simp
  | cons x l ih => intro s; rw [List.foldl_cons, ih, ByteArray.size_append, four_size, List.length_cons]; omega
theorem ite_room {α : Type} {p : Prop} [Decidable p] (h : ¬ p) (x y : α) : (if p then x else y) = y := if_neg h
set_option maxHeartbeats 4000000 in
set_option maxRecDepth 100000 in
theorem stateText_calls (a b c d e f g h : Int) (w : World) : Calls Try.prog 9 #[.agg #[.int .u32 a, .int .u32 b, .int .u32 c, .int .u32 d, .int .u32 e, .int .u32 f, .int .u32 g, .int .u32 h]] w fun e_ w' => e_ = .returned (.string (stText [a, b, c, d, e, f, g, h])) ∧ Below w.heap.size w w' := by
  have HB := Aside0.mk (Below.refl w.heap.size w)
  have i0 : ∀ w : World, (Instr.index 32 (.agg #[.int .u32 a, .int .u32 b, .int .u32 c, .int .u32 d, .int .u32 e, .int .u32 f, .int .u32 g, .int .u32 h]) (.int .i64 0)).run Try.prog w = .ok (.int .u32 a) w := fun _ => by kernel_rfl
  have i1 : ∀ w : World, (Instr.index 32 (.agg #[.int .u32 a, .int .u32 b, .int .u32 c, .int .u32 d, .int .u32 e, .int .u32 f, .int .u32 g, .int .u32 h]) (.int .i64 1)).run Try.prog w = .ok (.int .u32 b) w := fun _ => by kernel_rfl
  have i2 : ∀ w : World, (Instr.index 32 (.agg #[.int .u32 a, .int .u32 b, .int .u32 c, .int .u32 d, .int .u32 e, .int .u32 f, .int .u32 g, .int .u32 h]) (.int .i64 2)).run Try.prog w = .ok (.int .u32 c) w := fun _ => by kernel_rfl
  have i3 : ∀ w : World, (Instr.index 32 (.agg #[.int .u32 a, .int .u32 b, .int .u32 c, .int .u32 d, .int .u32 e, .int .u32 f, .int .u32 g, .int .u32 h]) (.int .i64 3)).run Try.prog w = .ok (.int .u32 d) w := fun _ => by kernel_rfl
  have i4 : ∀ w : World, (Instr.index 32 (.agg #[.int .u32 a, .int .u32 b, .int .u32 c, .int .u32 d, .int .u32 e, .int .u32 f, .int .u32 g, .int .u32 h]) (.int .i64 4)).run Try.prog w = .ok (.int .u32 e) w := fun _ => by kernel_rfl
  have i5 : ∀ w : World, (Instr.index 32 (.agg #[.int .u32 a, .int .u32 b, .int .u32 c, .int .u32 d, .int .u32 e, .int .u32 f, .int .u32 g, .int .u32 h]) (.int .i64 5)).run Try.prog w = .ok (.int .u32 f) w := fun _ => by kernel_rfl
  have i6 : ∀ w : World, (Instr.index 32 (.agg #[.int .u32 a, .int .u32 b, .int .u32 c, .int .u32 d, .int .u32 e, .int .u32 f, .int .u32 g, .int .u32 h]) (.int .i64 6)).run Try.prog w = .ok (.int .u32 g) w := fun _ => by kernel_rfl
  have i7 : ∀ w : World, (Instr.index 32 (.agg #[.int .u32 a, .int .u32 b, .int .u32 c, .int .u32 d, .int .u32 e, .int .u32 f, .int .u32 g, .int .u32 h]) (.int .i64 7)).run Try.prog w = .ok (.int .u32 h) w := fun _ => by kernel_rfl
  go_enter Try.func9, Try.ntmps9
  go_wp2
  go_loopg [3, 7] 8 (fun k s3 s7 wx => ∃ i : Nat, i + k = 8 ∧ s7 = .int .i64 i ∧ s3 = .string (stText ([a, b, c, d, e, f, g, h].take i)) ∧ Aside0 (Below w.heap.size w wx))
  case atStart => exact ⟨0, by omega, rfl, rfl, ⟨HB.out.alloc (Nat.le_refl _) _⟩⟩
  case round =>
    obtain ⟨i, hik, rfl, rfl, HB1⟩ := hrel
    have hi9 : i = 0 ∨ i = 1 ∨ i = 2 ∨ i = 3 ∨ i = 4 ∨ i = 5 ∨ i = 6 ∨ i = 7 ∨ i = 8 := by omega
    rcases hi9 with rfl | rfl | rfl | rfl | rfl | rfl | rfl | rfl | rfl
    case' inr.inr.inr.inr.inr.inr.inr.inr =>
      clear hik
      go_wp2
      go_ret
      exact ⟨rfl, HB1.out⟩
    all_goals
      obtain ⟨kk, rfl⟩ : ∃ kk, gk = kk + 1 := ⟨gk - 1, by omega⟩
      have HI := Aside0.mk hik
      clear hik
      generalize hs : stText (List.take _ _) = s
      have hs4 : s.size ≤ 28 := by rw [← hs, stText_size]; simp only [List.length_take]; omega
      have HS := Aside0.mk hs
      clear hs
      have h4 := four_size
      go_wp2_with (go_at_call 11; refine (impl_fourBytes.calls _ (four _) _ rfl).mono ?_; rintro e_ w1 ⟨rfl, hb1⟩)
      go_roundg kk
      case measure => omega
      case rel => first | exact ⟨1, by have := HI.out; omega, rfl, by rw [← HS.out]; exact congrArg Value.string (stText_snoc _ _).symm, ⟨HB1.out.trans (hb1.mono HB1.out.size)⟩⟩ | exact ⟨2, by have := HI.out; omega, rfl, by rw [← HS.out]; exact congrArg Value.string (stText_snoc _ _).symm, ⟨HB1.out.trans (hb1.mono HB1.out.size)⟩⟩ | exact ⟨3, by have := HI.out; omega, rfl, by rw [← HS.out]; exact congrArg Value.string (stText_snoc _ _).symm, ⟨HB1.out.trans (hb1.mono HB1.out.size)⟩⟩ | exact ⟨4, by have := HI.out; omega, rfl, by rw [← HS.out]; exact congrArg Value.string (stText_snoc _ _).symm, ⟨HB1.out.trans (hb1.mono HB1.out.size)⟩⟩ | exact ⟨5, by have := HI.out; omega, rfl, by rw [← HS.out]; exact congrArg Value.string (stText_snoc _ _).symm, ⟨HB1.out.trans (hb1.mono HB1.out.size)⟩⟩ | exact ⟨6, by have := HI.out; omega, rfl, by rw [← HS.out]; exact congrArg Value.string (stText_snoc _ _).symm, ⟨HB1.out.trans (hb1.mono HB1.out.size)⟩⟩ | exact ⟨7, by have := HI.out; omega, rfl, by rw [← HS.out]; exact congrArg Value.string (stText_snoc _ _).symm, ⟨HB1.out.trans (hb1.mono HB1.out.size)⟩⟩ | exact ⟨8, by have := HI.out; omega, rfl, by rw [← HS.out]; exact congrArg Value.string (stText_snoc _ _).symm, ⟨HB1.out.trans (hb1.mono HB1.out.size)⟩⟩

/-- A block that holds a list of words. -/
abbrev Blk (w : World) (b : Nat) (t : TypeId) (l : List Int) : Prop := w.heap[b]? = some (.cells (cells .u32 l) t (0, 0))
theorem cells_get (l : List Int) (i : Nat) (h : i < l.length) : (cells .u32 l)[i]? = some (.int .u32 (l.getD i 0)) := by
  unfold cells
  rw [List.getElem?_toArray, List.getElem?_map, List.getD_eq_getElem?_getD, List.getElem?_eq_getElem h]
  rfl
theorem blk_cell_ {w : World} {b : Nat} {t : TypeId} {l : List Int} (h : Blk w b t l) (i : Nat) (hi : i < l.length) : w.cell? ⟨b, i, none⟩ = some (.int .u32 (l.getD i 0)) := by
  rw [cell_of_row w b i _ t _ h, cells_get l i hi]
theorem blk_froz {w : World} {b : Nat} {t : TypeId} {l : List Int} (h : Blk w b t l) (i : Nat) : w.frozen? ⟨b, i, none⟩ = false := blk_frozen h _
theorem cells_set (l : List Int) (i : Nat) (z : Int) : (cells .u32 l).setIfInBounds i (.int .u32 z) = cells .u32 (l.set i z) := by
  unfold cells
  rw [List.map_set]
  simp
theorem blk_put_ {w : World} {b : Nat} {t : TypeId} {l : List Int} (h : Blk w b t l) (i : Nat) (z : Int) : Blk (w.setCell ⟨b, i, none⟩ (.int .u32 z)) b t (l.set i z) :=
  blk_put h i _ (cells_set l i z)
theorem sz_alloc (w : World) (o : Obj) : (w.alloc o).heap.size = w.heap.size + 1 := by
  show (w.heap.push o).size = _
  simp
theorem blk_row {w : World} {b : Nat} {t : TypeId} {l l' : List Int} (h : Blk w b t l) : Blk (w.setRow b (cells .u32 l')) b t l' := setRow_heap w b _ _ t _ h
theorem setRow_below {w0 w : World} {B b : Nat} (h : Below B w0 w) (hb : B ≤ b) (cs : Array Value) : Below B w0 (w.setRow b cs) := by
  refine ⟨h.os, h.tape, h.output, by rw [size_setRow]; exact h.size, fun k hk => ?_⟩
  rw [← h.block k hk]
  unfold World.setRow
  show (w.heap.modify b _)[k]? = _
  rw [Array.getElem?_modify, if_neg (by omega)]
theorem blk_row_far {w : World} {b b' : Nat} {t : TypeId} {l : List Int} (h : Blk w b t l) (hne : b' ≠ b) (cs : Array Value) : Blk (w.setRow b' cs) b t l := by
  refine Eq.trans ?_ h
  unfold World.setRow
  show (w.heap.modify b' _)[b]? = _
  rw [Array.getElem?_modify, if_neg hne]
theorem cells_one (l : List Int) : (cells .u32 l).all (·.oneCell') = true := by
  unfold cells
  simp [Value.oneCell']


theorem arr8 (l : List Int) (h : l.length = 8) : ∃ a b c d e f g h, l = [a, b, c, d, e, f, g, h] := by
  match l, h with
  | [a, b, c, d, e, f, g, h], _ => exact ⟨a, b, c, d, e, f, g, h, rfl⟩

theorem stateText_calls' (l : List Int) (hl : l.length = 8) (w : World) : Calls Try.prog 9 #[arr l] w fun e_ w' => e_ = .returned (.string (stText l)) ∧ Below w.heap.size w w' := by
  obtain ⟨a, b, c, d, e, f, g, h, rfl⟩ := arr8 l hl
  exact stateText_calls a b c d e f g h w

theorem size27 : (Try.prog.info? 23).map (·.size) = some 3 := by kernel_rfl
section
variable {ops : Array Oper} {rest : List Oper} {o : Oper} {a : Act} {w : World} {Q : Exit → Act → World → Prop} {x y z x' y' z' : Value} {b : Nat} {t : TypeId}
theorem ld27 (hb : w.heap[b]? = some (.cells #[x, y, z] t (0, 0))) (u : Operand) (hgd : o.guard = none) (ho : o.op = .load 23 u) (hx : a.eval u = .pointer (some ⟨b, 0, none⟩)) (h : wpList Try.prog ops Q rest (a.put o.dst (.agg #[x, y, z])) w) : wpList Try.prog ops Q (o :: rest) a w :=
  wpList_load_row hgd 23 u ho b hx t _ _ _ hb Try.underlying23 rfl (by rw [size27]; rfl) h
theorem st27 (hb : w.heap[b]? = some (.cells #[x, y, z] t (0, 0))) (u v : Operand) (hgd : o.guard = none) (ho : o.op = .store 23 u v) (hx : a.eval u = .pointer (some ⟨b, 0, none⟩)) (hy : a.eval v = .agg #[x', y', z']) (h1 : (#[x', y', z'] : Array Value).all (·.oneCell') = true) (h : wpList Try.prog ops Q rest (a.put o.dst undef) (w.setRow b #[x', y', z'])) : wpList Try.prog ops Q (o :: rest) a w :=
  wpList_store_row hgd 23 u v ho b _ hx hy t _ hb (by rw [size27]; rfl) rfl h1 h
end
theorem ret27 {fn : Func} {p : Tmp} {x y z : Value} (h : fn.results = #[.cell p 23]) (tmps : Array Value) (w : World) {b : Nat} {t : TypeId} (hb : w.heap[b]? = some (.cells #[x, y, z] t (0, 0))) (hp : tmps.getD p undef = .pointer (some ⟨b, 0, none⟩)) : (results fn tmps).run Try.prog w = .ok (.agg #[x, y, z]) w :=
  results_cell_row h tmps w b t _ _ _ hp hb Try.underlying23 rfl (by rw [size27]; rfl)
set_option maxHeartbeats 4000000 in
set_option maxRecDepth 100000 in
theorem hasherNew_calls (w : World) : Calls Try.prog 5 #[] w fun e_ w' => e_ = .returned (.agg #[.string (stText first8), .string ⟨#[]⟩, .int .i64 0]) ∧ Below w.heap.size w w' := by
  have HB := Aside0.mk (Below.refl w.heap.size w)
  go_enter Try.func5, Try.ntmps5
  go_wp2_with (first | (go_at_call 10; refine (first_calls _).mono ?_; rintro e_ w1 ⟨rfl, hb1⟩; have HB1 := Aside0.mk hb1; clear hb1) | (go_at_call 9; refine (stateText_calls' first8 rfl _).mono ?_; rintro e_ w2 ⟨rfl, hb2⟩; have HB2 := Aside0.mk (below_step HB1.out hb2); clear hb2) | ((with_reducible refine gate_store (t := 23) (p := 0) rfl ?_); refine st27 (blk_below (heap_alloc_last _ _) HB2.out) (.tmp 0) (.tmp 3) rfl rfl rfl rfl (by simp [Value.oneCell']) ?_))
  (try simp only [Exit.inBlock, Exit.then])
  refine bodyPost_ret (ret27 (x := .string (stText first8)) (y := .string ⟨#[]⟩) (z := .int .i64 0) rfl _ _ (setRow_heap _ _ _ _ _ _ (blk_below (heap_alloc_last _ _) HB2.out)) rfl) rfl ⟨rfl, setRow_below ((HB.out.alloc (Nat.le_refl _) _).trans (HB2.out.mono (by rw [sz_alloc]; omega))) (Nat.le_refl _) _⟩

theorem specHasherNew_calls (w : World) : Calls Try.prog 4 #[] w fun e_ w' => e_ = .returned (.agg #[.string (stText first8), .string ⟨#[]⟩, .int .i64 0]) ∧ Below w.heap.size w w' :=
  PHasherNew.spec_HasherNew.calls 9 _ _ _ w (by kernel_rfl)
end Go.Proofs.Ytlddohppkcndjaa.Sha
