/- Walks of the small array functions of the digest: the first state, a state's bytes, the state of 32 bytes. -/
import Derived.Test.YtlddohppkcndjaaDoorPrightx1
import Derived.Test.YtlddohppkcndjaaDoorPendingx1
import Derived.Deep.WholeRow
namespace Go.Proofs.YtlddohppkcndjaaDoor.Sha
open Go.RowKit Go.Proofs.YtlddohppkcndjaaDoorW.PrintWords Go.Proofs.YtlddohppkcndjaaDoorW.PrintLast Go.Proofs.YtlddohppkcndjaaDoorW.PrintMore Go.Proofs.YtlddohppkcndjaaDoor.Pending Go.Proofs.YtlddohppkcndjaaDoor.Pright
set_option linter.unusedVariables false
set_option linter.unusedSimpArgs false

def cells (k : IntKind) (l : List Int) : Array Value := (l.map fun z => Value.int k z).toArray
abbrev arr (l : List Int) : Value := .agg (cells .u32 l)
def first8 : List Int := [1779033703, 3144134277, 1013904242, 2773480762, 1359893119, 2600822924, 528734635, 1541459225]
theorem results_cell {fn : Func} {p : Tmp} {ty : TypeId} (h : fn.results = #[.cell p ty]) (tmps : Array Value) (P : Program) (w : World) :
    (results fn tmps).run P w = ((asAddr (tmps.getD p undef)).run P w).andThen fun a w₁ => (loadVar ty a).run P w₁ := by
  simp only [results, h]
  simp [Sem.run_bind, Result.andThen]
  try (cases (asAddr (tmps.getD p undef)).run P w <;> simp [Result.andThen])
theorem size_cells (k : IntKind) (l : List Int) : (cells k l).size = l.length := by simp [cells]
theorem under67 : Tryd.prog.underlying 67 = some (.array 8 66) := by kernel_rfl
theorem under101 : Tryd.prog.underlying 101 = some (.array 64 66) := by kernel_rfl
theorem size67 : (Tryd.prog.info? 67).map (·.size) = some 8 := by kernel_rfl
theorem size101 : (Tryd.prog.info? 101).map (·.size) = some 64 := by kernel_rfl
theorem load67 (w : World) (b : Nat) (l : List Int) (t : TypeId) (fr : Nat × Nat) (hl : l.length = 8) (hb : w.heap[b]? = some (.cells (cells .u32 l) t fr)) : (loadVar 67 ⟨b, 0, none⟩).run Tryd.prog w = .ok (arr l) w :=
  run_loadVar_row w b t 67 (cells .u32 l) fr _ hb under67 rfl (by rw [size67, size_cells, hl])
theorem load101 (w : World) (b : Nat) (l : List Int) (t : TypeId) (fr : Nat × Nat) (hl : l.length = 64) (hb : w.heap[b]? = some (.cells (cells .u32 l) t fr)) : (loadVar 101 ⟨b, 0, none⟩).run Tryd.prog w = .ok (arr l) w :=
  run_loadVar_row w b t 101 (cells .u32 l) fr _ hb under101 rfl (by rw [size101, size_cells, hl])
set_option maxHeartbeats 4000000 in
set_option maxRecDepth 100000 in
theorem first_calls (w : World) : Calls Tryd.prog 53 #[] w fun e w' => e = .returned (arr first8) ∧ Below w.heap.size w w' := by
  go_enter Tryd.func53, Tryd.ntmps53
  go_wp2
  refine bodyPost_ret (v := arr first8) ?_ rfl ⟨rfl, (Below.refl _ _).alloc (Nat.le_refl _) _⟩
  rw [results_cell rfl]
  exact load67 _ _ first8 67 (0, 0) rfl (heap_alloc_last _ _)
def four (z : Int) : ByteArray := strOfNums [(z / 16777216) % 256, (z / 65536) % 256, (z / 256) % 256, z % 256]
def stText (l : List Int) : ByteArray := l.foldl (fun s z => s ++ four z) ⟨#[]⟩
theorem stText_snoc (l : List Int) (z : Int) : stText (l ++ [z]) = stText l ++ four z := by simp [stText]
theorem four_size (z : Int) : (four z).size = 4 := by unfold four; rw [strOfNums_size]; rfl
theorem stText_size (l : List Int) : (stText l).size = 4 * l.length := by
  suffices ∀ (l : List Int) (s : ByteArray), (l.foldl (fun s z => s ++ four z) s).size = s.size + 4 * l.length by
    have := this l ⟨#[]⟩
    rw [show (⟨#[]⟩ : ByteArray).size = 0 from rfl] at this
    unfold stText
    omega
  intro l
  induction l with
  | nil => intro s; simp
  | cons x l ih => intro s; rw [List.foldl_cons, ih, ByteArray.size_append, four_size, List.length_cons]; omega
theorem ite_room {α : Type} {p : Prop} [Decidable p] (h : ¬ p) (x y : α) : (if p then x else y) = y := if_neg h
set_option maxHeartbeats 4000000 in
set_option maxRecDepth 100000 in
theorem stateText_calls (a b c d e f g h : Int) (w : World) : Calls Tryd.prog 55 #[.agg #[.int .u32 a, .int .u32 b, .int .u32 c, .int .u32 d, .int .u32 e, .int .u32 f, .int .u32 g, .int .u32 h]] w fun e_ w' => e_ = .returned (.string (stText [a, b, c, d, e, f, g, h])) ∧ Below w.heap.size w w' := by
  have HB := Aside0.mk (Below.refl w.heap.size w)
  have i0 : ∀ w : World, (Instr.index 67 (.agg #[.int .u32 a, .int .u32 b, .int .u32 c, .int .u32 d, .int .u32 e, .int .u32 f, .int .u32 g, .int .u32 h]) (.int .i64 0)).run Tryd.prog w = .ok (.int .u32 a) w := fun _ => by kernel_rfl
  have i1 : ∀ w : World, (Instr.index 67 (.agg #[.int .u32 a, .int .u32 b, .int .u32 c, .int .u32 d, .int .u32 e, .int .u32 f, .int .u32 g, .int .u32 h]) (.int .i64 1)).run Tryd.prog w = .ok (.int .u32 b) w := fun _ => by kernel_rfl
  have i2 : ∀ w : World, (Instr.index 67 (.agg #[.int .u32 a, .int .u32 b, .int .u32 c, .int .u32 d, .int .u32 e, .int .u32 f, .int .u32 g, .int .u32 h]) (.int .i64 2)).run Tryd.prog w = .ok (.int .u32 c) w := fun _ => by kernel_rfl
  have i3 : ∀ w : World, (Instr.index 67 (.agg #[.int .u32 a, .int .u32 b, .int .u32 c, .int .u32 d, .int .u32 e, .int .u32 f, .int .u32 g, .int .u32 h]) (.int .i64 3)).run Tryd.prog w = .ok (.int .u32 d) w := fun _ => by kernel_rfl
  have i4 : ∀ w : World, (Instr.index 67 (.agg #[.int .u32 a, .int .u32 b, .int .u32 c, .int .u32 d, .int .u32 e, .int .u32 f, .int .u32 g, .int .u32 h]) (.int .i64 4)).run Tryd.prog w = .ok (.int .u32 e) w := fun _ => by kernel_rfl
  have i5 : ∀ w : World, (Instr.index 67 (.agg #[.int .u32 a, .int .u32 b, .int .u32 c, .int .u32 d, .int .u32 e, .int .u32 f, .int .u32 g, .int .u32 h]) (.int .i64 5)).run Tryd.prog w = .ok (.int .u32 f) w := fun _ => by kernel_rfl
  have i6 : ∀ w : World, (Instr.index 67 (.agg #[.int .u32 a, .int .u32 b, .int .u32 c, .int .u32 d, .int .u32 e, .int .u32 f, .int .u32 g, .int .u32 h]) (.int .i64 6)).run Tryd.prog w = .ok (.int .u32 g) w := fun _ => by kernel_rfl
  have i7 : ∀ w : World, (Instr.index 67 (.agg #[.int .u32 a, .int .u32 b, .int .u32 c, .int .u32 d, .int .u32 e, .int .u32 f, .int .u32 g, .int .u32 h]) (.int .i64 7)).run Tryd.prog w = .ok (.int .u32 h) w := fun _ => by kernel_rfl
  go_enter Tryd.func55, Tryd.ntmps55
  go_wp2
  go_loopg [3, 7] 8 (fun k s3 s7 wx => ∃ i : Nat, i + k = 8 ∧ s7 = .int .i64 i ∧ s3 = .string (stText ([a, b, c, d, e, f, g, h].take i)) ∧ Aside0 (Below w.heap.size w wx))
  case atStart => exact ⟨0, by omega, rfl, rfl, ⟨HB.out.alloc (Nat.le_refl _) _⟩⟩
  case round =>
    obtain ⟨i, hik, rfl, rfl, HB1⟩ := hrel
    have hi9 : i = 0 ∨ i = 1 ∨ i = 2 ∨ i = 3 ∨ i = 4 ∨ i = 5 ∨ i = 6 ∨ i = 7 ∨ i = 8 := by omega
    rcases hi9 with rfl | rfl | rfl | rfl | rfl | rfl | rfl | rfl | rfl
    case' inr.inr.inr.inr.inr.inr.inr.inr =>
      clear hik
      go_wp2
      go_ret
      exact ⟨rfl, HB1.out⟩
    all_goals
      obtain ⟨kk, rfl⟩ : ∃ kk, gk = kk + 1 := ⟨gk - 1, by omega⟩
      have HI := Aside0.mk hik
      clear hik
      generalize hs : stText (List.take _ _) = s
      have hs4 : s.size ≤ 28 := by rw [← hs, stText_size]; simp only [List.length_take]; omega
      have HS := Aside0.mk hs
      clear hs
      have h4 := four_size
      go_wp2_with (go_at_call 83; refine (impl_fourBytes.calls _ (four _) _ rfl).mono ?_; rintro e_ w1 ⟨rfl, hb1⟩)
      go_roundg kk
      case measure => omega
      case rel => first | exact ⟨1, by have := HI.out; omega, rfl, by rw [← HS.out]; exact congrArg Value.string (stText_snoc _ _).symm, ⟨HB1.out.trans (hb1.mono HB1.out.size)⟩⟩ | exact ⟨2, by have := HI.out; omega, rfl, by rw [← HS.out]; exact congrArg Value.string (stText_snoc _ _).symm, ⟨HB1.out.trans (hb1.mono HB1.out.size)⟩⟩ | exact ⟨3, by have := HI.out; omega, rfl, by rw [← HS.out]; exact congrArg Value.string (stText_snoc _ _).symm, ⟨HB1.out.trans (hb1.mono HB1.out.size)⟩⟩ | exact ⟨4, by have := HI.out; omega, rfl, by rw [← HS.out]; exact congrArg Value.string (stText_snoc _ _).symm, ⟨HB1.out.trans (hb1.mono HB1.out.size)⟩⟩ | exact ⟨5, by have := HI.out; omega, rfl, by rw [← HS.out]; exact congrArg Value.string (stText_snoc _ _).symm, ⟨HB1.out.trans (hb1.mono HB1.out.size)⟩⟩ | exact ⟨6, by have := HI.out; omega, rfl, by rw [← HS.out]; exact congrArg Value.string (stText_snoc _ _).symm, ⟨HB1.out.trans (hb1.mono HB1.out.size)⟩⟩ | exact ⟨7, by have := HI.out; omega, rfl, by rw [← HS.out]; exact congrArg Value.string (stText_snoc _ _).symm, ⟨HB1.out.trans (hb1.mono HB1.out.size)⟩⟩ | exact ⟨8, by have := HI.out; omega, rfl, by rw [← HS.out]; exact congrArg Value.string (stText_snoc _ _).symm, ⟨HB1.out.trans (hb1.mono HB1.out.size)⟩⟩
end Go.Proofs.YtlddohppkcndjaaDoor.Sha
