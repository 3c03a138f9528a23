/- A block by the document and a block by the program: one state. -/
import Derived.Test.YtlddohppkcndjaaDoorShaQ
import Derived.Test.YtlddohppkcndjaaDoorPHashMorex3
namespace Go.Proofs.YtlddohppkcndjaaDoor.Sha
open Go.RowKit Go.Proofs.YtlddohppkcndjaaDoorW.PrintWords Go.Proofs.YtlddohppkcndjaaDoorW.PrintLast Go.Proofs.YtlddohppkcndjaaDoorW.PrintMore Go.Proofs.YtlddohppkcndjaaDoor.Pending Go.Proofs.YtlddohppkcndjaaDoor.Pright Go.Proofs.YtlddohppkcndjaaDoor.PHashMore
set_option linter.unusedVariables false
set_option linter.unusedSimpArgs false

def val (l : List Int) (u : Nat) : Int := (sg1 (l.getD (u + 14) 0) + l.getD (u + 9) 0 + sg0 (l.getD (u + 1) 0) + l.getD u 0) % 4294967296
def exN (w : List Int) : Nat → List Int
  | 0 => w
  | u + 1 => exN w u ++ [val (exN w u) u]
theorem exN_len (w : List Int) (h : w.length = 16) : ∀ u, (exN w u).length = 16 + u
  | 0 => h
  | u + 1 => by simp only [exN, List.length_append, exN_len w h u, List.length_cons, List.length_nil]; omega
theorem exN_range (w : List Int) (h : ∀ x ∈ w, w32 x) : ∀ u, ∀ x ∈ exN w u, w32 x
  | 0 => h
  | u + 1 => fun x hx => by
    rcases List.mem_append.1 hx with h1 | h1
    · exact exN_range w h u x h1
    · rw [List.mem_singleton] at h1
      rw [h1]
      exact w32_mod _
theorem getD_w32 {l : List Int} (h : ∀ x ∈ l, w32 x) (i : Nat) : w32 (l.getD i 0) := by
  rw [List.getD_eq_getElem?_getD]
  cases hg : l[i]? with
  | none => exact ⟨by decide, by decide⟩
  | some x => exact h x (List.mem_of_getElem? hg)
theorem exTo_exN (w : List Int) (h : w.length = 16) : ∀ u, u ≤ 48 → exTo (w ++ List.replicate 48 0) u = exN w u ++ List.replicate (48 - u) 0
  | 0, _ => rfl
  | u + 1, hu => by
    show exStep (exTo _ u) u = _
    rw [exTo_exN w h u (by omega)]
    have hl := exN_len w h u
    have e : List.replicate (48 - u) (0 : Int) = 0 :: List.replicate (48 - (u + 1)) 0 := by rw [show 48 - u = (48 - (u + 1)) + 1 by omega, List.replicate_succ]
    have g : ∀ i, i < 16 + u → (exN w u ++ List.replicate (48 - u) 0).getD i 0 = (exN w u).getD i 0 := by
      intro i hi
      rw [List.getD_eq_getElem?_getD, List.getD_eq_getElem?_getD, List.getElem?_append_left (by omega)]
    unfold exStep
    rw [g _ (by omega), g _ (by omega), g _ (by omega), g _ (by omega), List.set_append_right _ _ (by omega), hl, show u + 16 - (16 + u) = 0 by omega, e]
    show exN w u ++ (val (exN w u) u :: _) = (exN w u ++ [val (exN w u) u]) ++ _
    simp
theorem spec_l0 (x0 x1 w : List Int) (hw : w.length = 16) (hr : ∀ x ∈ w, w32 x) : ∀ (d K u : Nat), u + d = 48 → spec_l05Round.l0 (K + d + 1) x0 x1 (exN w u) ((u + 16 : Nat) : Int) = if x0.length < 35184372088832 then spec_l05Round.l1 K x0 x1 (exN w 48) x0 0 else none := by
  intro d
  induction d with
  | zero =>
    intro K u h
    obtain rfl : u = 48 := by omega
    rw [spec_l05Round.l0, if_neg (by decide)]
    simp only [Option.bind_some, List.length_nil, Nat.zero_add, List.nil_append]
  | succ d ih =>
    intro K u h
    have hl := exN_len w hw u
    have hx := exN_range w hr u
    have e1 : wrap64 (((u + 16 : Nat) : Int) - 2) = ((u + 14 : Nat) : Int) := by unfold wrap64; omega
    have e2 : wrap64 (((u + 16 : Nat) : Int) - 7) = ((u + 9 : Nat) : Int) := by unfold wrap64; omega
    have e3 : wrap64 (((u + 16 : Nat) : Int) - 15) = ((u + 1 : Nat) : Int) := by unfold wrap64; omega
    have e4 : wrap64 (((u + 16 : Nat) : Int) - 16) = ((u : Nat) : Int) := by unfold wrap64; omega
    have e5 : wrap64 (((u + 16 : Nat) : Int) + 1) = ((u + 1 + 16 : Nat) : Int) := by unfold wrap64; omega
    rw [show K + (d + 1) + 1 = (K + d + 1) + 1 by omega, spec_l05Round.l0, e1, e2, e3, e4, e5]
    have r : ∀ i : Nat, rd (exN w u) (i : Int) = (exN w u).getD i 0 := fun i => by unfold rd; rw [Int.toNat_natCast]
    simp only [r]
    rw [if_pos (by omega), if_pos (by omega), if_pos (by omega), S1 _ (getD_w32 hx _)]
    simp only [Option.bind_some]
    rw [if_pos (by omega), if_pos (by omega), if_pos (by omega), if_pos (by omega), S0 _ (getD_w32 hx _)]
    simp only [Option.bind_some]
    rw [if_pos (by omega), if_pos (by omega), if_pos (by omega)]
    have ev : (((sg1 ((exN w u).getD (u + 14) 0) + (exN w u).getD (u + 9) 0) % 4294967296 + sg0 ((exN w u).getD (u + 1) 0)) % 4294967296 + (exN w u).getD u 0) % 4294967296 = val (exN w u) u := by
      unfold val
      generalize sg1 ((exN w u).getD (u + 14) 0) = a1
      generalize (exN w u).getD (u + 9) 0 = a2
      generalize sg0 ((exN w u).getD (u + 1) 0) = a3
      generalize (exN w u).getD u 0 = a4
      omega
    rw [ev]
    exact ih K (u + 1) (by omega)
theorem spec_l2 (K : Nat) (x0 x1 x7 : List Int) (a b c d e f g h t t1 t2 : Int) (ht : 0 ≤ t ∧ t < 64) : spec_l05Round.l2 (K + 8) x0 x1 x7 [a, b, c, d, e, f, g, h] t t1 t2 7 = spec_l05Round.l1 K x0 x1 x7 [(t1 + t2) % 4294967296, a, b, c, (d + t1) % 4294967296, e, f, g] (t + 1) := by
  have e : wrap64 (t + 1) = t + 1 := by unfold wrap64; omega
  simp [spec_l05Round.l2, rd, e, wrap64]
theorem spec_l3 (K : Nat) (a b c d e f g h a' b' c' d' e' f' g' h' : Int) : spec_l05Round.l3 (K + 9) [a, b, c, d, e, f, g, h] [a', b', c', d', e', f', g', h'] [] 0 = some [(a + a') % 4294967296, (b + b') % 4294967296, (c + c') % 4294967296, (d + d') % 4294967296, (e + e') % 4294967296, (f + f') % 4294967296, (g + g') % 4294967296, (h + h') % 4294967296] := by
  simp [spec_l05Round.l3, rd, wrap64]
theorem addTo_eq (a b c d e f g h a' b' c' d' e' f' g' h' : Int) : addTo [a', b', c', d', e', f', g', h'] [a, b, c, d, e, f, g, h] 8 = [(a + a') % 4294967296, (b + b') % 4294967296, (c + c') % 4294967296, (d + d') % 4294967296, (e + e') % 4294967296, (f + f') % 4294967296, (g + g') % 4294967296, (h + h') % 4294967296] := by
  simp [addTo, Int.add_comm]
end Go.Proofs.YtlddohppkcndjaaDoor.Sha
