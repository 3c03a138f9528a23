/- The boxes of an act's walk. No condition. -/
import Derived.Test.YteghgeanbglmoaaDkFnActsA
import Derived.Test.YteghgeanbglmoaaDkFnActsL
namespace Go.Proofs.Yteghgeanbglmoaa.PFnActs
open Go.RowKit Go.Proofs.YteghgeanbglmoaaW.PrintWords Go.Proofs.YteghgeanbglmoaaW.PrintLast Go.Proofs.YteghgeanbglmoaaW.PrintMore
attribute [local go_sem] max_two min_two
set_option linter.unusedVariables false
set_option linter.unusedSimpArgs false
theorem size41 : (Try.prog.info? 41).map (·.size) = some 4 := by kernel_rfl
/-- The three boxes of an act's walk: the disk, the act, the result. -/
def daSt (w : World) (A : Option Addr) (n c : Nat) (ki : Int) (an at_ ao : ByteArray) (W : World) : Prop := W.heap[w.heap.size]? = some (.cells #[.slice A n c] 29 (0, 0)) ∧ W.heap[w.heap.size + 1]? = some (.cells #[.int .i64 ki, .string an, .string at_, .string ao] 41 (0, 0)) ∧ W.heap[w.heap.size + 1 + 1]? = some (.cells #[.slice none 0 0] 29 (0, 0)) ∧ Below w.heap.size w W ∧ w.heap.size + 3 ≤ W.heap.size
def da0 (w : World) (A : Option Addr) (n c : Nat) (ki : Int) (an at_ ao : ByteArray) : World := ((w.alloc (.cells #[.slice A n c] 29)).alloc (.cells #[.int .i64 ki, .string an, .string at_, .string ao] 41)).alloc (.cells #[.slice none 0 0] 29)
theorem da0_sz (w : World) (A : Option Addr) (n c : Nat) (ki : Int) (an at_ ao : ByteArray) : (da0 w A n c ki an at_ ao).heap.size = w.heap.size + 3 := by unfold da0; rw [dk_sz, dk_sz, dk_sz]
theorem da_facts {w : World} {A : Option Addr} {n c : Nat} {ki : Int} {an at_ ao : ByteArray} {W : World} (h : Below (w.heap.size + 3) (da0 w A n c ki an at_ ao) W) : daSt w A n c ki an at_ ao W := by
 have e1 := dk_sz w (.cells #[.slice A n c] 29)
 have e2 := dk_sz (w.alloc (.cells #[.slice A n c] 29)) (.cells #[.int .i64 ki, .string an, .string at_, .string ao] 41)
 have h0 : (da0 w A n c ki an at_ ao).heap[w.heap.size]? = some (.cells #[.slice A n c] 29 (0, 0)) := blk_alloc (blk_alloc (blk_new _ _) _) _
 have h1 : (da0 w A n c ki an at_ ao).heap[w.heap.size + 1]? = some (.cells #[.int .i64 ki, .string an, .string at_, .string ao] 41 (0, 0)) := by rw [← e1]; exact blk_alloc (blk_new _ _) _
 have h2 : (da0 w A n c ki an at_ ao).heap[w.heap.size + 1 + 1]? = some (.cells #[.slice none 0 0] 29 (0, 0)) := by rw [← e1, ← e2]; exact blk_new _ _
 have hb : Below w.heap.size w (da0 w A n c ki an at_ ao) := below_alloc (below_alloc (below_alloc (Below.refl _ _) _) _) _
 have hs := h.size
 rw [da0_sz] at hs
 exact ⟨(h.block _ (by omega)).trans h0, (h.block _ (by omega)).trans h1, (h.block _ (by omega)).trans h2, hb.trans (h.mono (by omega)), hs⟩
theorem da_cells {w : World} {A : Option Addr} {n c : Nat} {ki : Int} {an at_ ao : ByteArray} {W : World} (h : daSt w A n c ki an at_ ao W) :
  W.cell? ⟨w.heap.size, 0, none⟩ = some (.slice A n c) ∧ W.cell? ⟨w.heap.size + 1, 0, none⟩ = some (.int .i64 ki) ∧ W.cell? ⟨w.heap.size + 1, 1, none⟩ = some (.string an) ∧ W.cell? ⟨w.heap.size + 1, 2, none⟩ = some (.string at_) ∧ W.cell? ⟨w.heap.size + 1, 3, none⟩ = some (.string ao) ∧ W.cell? ⟨w.heap.size + 1 + 1, 0, none⟩ = some (.slice none 0 0) ∧ W.frozen? ⟨w.heap.size + 1 + 1, 0, none⟩ = false :=
 ⟨(blk_cell h.1 0).trans rfl, (blk_cell h.2.1 0).trans rfl, (blk_cell h.2.1 1).trans rfl, (blk_cell h.2.1 2).trans rfl, (blk_cell h.2.1 3).trans rfl, (blk_cell h.2.2.1 0).trans rfl, blk_frozen h.2.2.1 0⟩
theorem R67_ok {w : World} {base : Nat} {ok ok' : Nat → Prop} {v : Value} {xs : List S67} (h : Kd.R k67 67 w base ok v xs) (h2 : ∀ k, v.ownBlock = some k → ok' k) : Kd.R k67 67 w base ok' v xs := by
 obtain ⟨_, inner, ho, hr⟩ := h
 exact ⟨h2, inner, ho, hr.imp_ (fun _ _ hp => by rw [k67_openM hp]; exact k67_mkM _ _ _ _)⟩
theorem da_go (w : World) (A : Option Addr) (n c : Nat) (ki : Int) (an at_ ao : ByteArray) : ∃ W0, Aside0 (W0.heap.size = w.heap.size + 3) ∧ Aside0 (∀ W, Below (w.heap.size + 3) W0 W → daSt w A n c ki an at_ ao W) ∧ Aside0 (Below (w.heap.size + 3) W0 W0) ∧ Aside0 (((w.alloc (.cells #[.slice A n c] 29)).alloc (.cells #[.int .i64 ki, .string an, .string at_, .string ao] 41)).alloc (.cells #[.slice none 0 0] 29) = W0) ∧ daSt w A n c ki an at_ ao W0 :=
 ⟨da0 w A n c ki an at_ ao, ⟨da0_sz w A n c ki an at_ ao⟩, ⟨fun W h => da_facts h⟩, ⟨Below.refl _ _⟩, ⟨rfl⟩, da_facts (Below.refl _ _)⟩
theorem dj_go {j n : Nat} (h : j < n) : (¬ (j : Int) < 0) ∧ decide ((0 : Int) ≤ (j : Int)) = true ∧ (0 : Int) ≤ (j : Int) ∧ (j : Int) < (n : Int) ∧ decide ((j : Int) < 0) = false := ⟨by omega, decide_eq_true (by omega), by omega, by omega, decide_eq_false (by omega)⟩
end Go.Proofs.Yteghgeanbglmoaa.PFnActs
