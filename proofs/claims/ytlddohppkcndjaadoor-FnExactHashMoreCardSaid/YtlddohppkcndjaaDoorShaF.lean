/- The digest of a text, and a new hasher. -/
import Derived.Test.YtlddohppkcndjaaDoorShaE
namespace Go.Proofs.YtlddohppkcndjaaDoor.Sha
open Go.RowKit Go.Proofs.YtlddohppkcndjaaDoorW.PrintWords Go.Proofs.YtlddohppkcndjaaDoorW.PrintLast Go.Proofs.YtlddohppkcndjaaDoorW.PrintMore Go.Proofs.YtlddohppkcndjaaDoor.Pending Go.Proofs.YtlddohppkcndjaaDoor.Pright
set_option linter.unusedVariables false
set_option linter.unusedSimpArgs false

/-- What fills the last block. -/
def en (c : Nat) : ByteArray := ((⟨#[128]⟩ : ByteArray) ++ strOfNums (List.replicate ((119 - c % 64) % 64) 0)) ++ (four ((8 * c / 4294967296 : Nat) : Int) ++ four ((8 * c % 4294967296 : Nat) : Int))
theorem en_size (c : Nat) : (en c).size = 9 + (119 - c % 64) % 64 := by
  unfold en
  simp only [ByteArray.size_append, four_size, strOfNums_size, List.length_replicate]
  rw [show (⟨#[128]⟩ : ByteArray).size = 1 from rfl]
  omega
theorem en_f (c : Nat) (hc : c ≤ 1152921504606846975) : impl_ending.f (c : Int) = some (en c) := by
  have e1 : Int.tmod (c : Int) 64 = ((c % 64 : Nat) : Int) := by rw [Int.tmod_eq_emod_of_nonneg (by omega)]; omega
  have e2 : wrap64 (119 - ((c % 64 : Nat) : Int)) = ((119 - c % 64 : Nat) : Int) := by unfold wrap64; omega
  have e3 : Int.tmod ((119 - c % 64 : Nat) : Int) 64 = (((119 - c % 64) % 64 : Nat) : Int) := by rw [Int.tmod_eq_emod_of_nonneg (by omega)]; omega
  have e4 : wrap64 (8 * (c : Int)) = ((8 * c : Nat) : Int) := by unfold wrap64; omega
  have e5 : (((8 * c : Nat) : Int) / 4294967296) % 4294967296 = ((8 * c / 4294967296 : Nat) : Int) := by omega
  have e6 : ((8 * c : Nat) : Int) % 4294967296 = ((8 * c % 4294967296 : Nat) : Int) := by omega
  have hz : impl_zeros.f (((119 - c % 64) % 64 : Nat) : Int) = some (strOfNums (List.replicate ((119 - c % 64) % 64) 0)) := by
    unfold impl_zeros.f
    rw [if_pos (by omega), Int.toNat_natCast, if_pos (by omega)]
  have h8 : impl_eightBytes.f ((8 * c : Nat) : Int) = some (four ((8 * c / 4294967296 : Nat) : Int) ++ four ((8 * c % 4294967296 : Nat) : Int)) := by
    unfold impl_eightBytes.f
    rw [e5, e6]
    show ((some (four _)).bind fun t107 => (some (four _)).bind fun t108 => if t107.size + t108.size ≤ 9223372036854775807 then some (t107 ++ t108) else none) = _
    simp only [Option.bind_some]
    rw [four_size, four_size, if_pos (by decide)]
  unfold impl_ending.f
  rw [e1, e2, e3, e4, hz, h8]
  simp only [Option.bind_some]
  rw [if_pos (by rw [strOfNums_size, List.length_replicate]; omega)]
  rw [if_pos (by simp only [ByteArray.size_append, four_size, strOfNums_size, List.length_replicate]; rw [show (⟨#[128]⟩ : ByteArray).size = 1 from rfl]; omega)]
  rfl
/-- The digest. -/
def digest (s : ByteArray) : ByteArray := stText (blks first8 (s ++ en s.size)).1
theorem stateText_calls' (l : List Int) (hl : l.length = 8) (w : World) : Calls Tryd.prog 55 #[arr l] w fun e_ w' => e_ = .returned (.string (stText l)) ∧ Below w.heap.size w w' := by
  obtain ⟨a, b, c, d, e, f, g, h, rfl⟩ := arr8 l hl
  exact stateText_calls a b c d e f g h w
theorem blks_len (st : List Int) (s : ByteArray) (h : st.length = 8) : (blks st s).1.length = 8 := bTo_len st s h _
set_option maxHeartbeats 4000000 in
set_option maxRecDepth 100000 in
theorem digest_calls (s : ByteArray) (hs : s.size ≤ 1152921504606846975) (w : World) (htab : Tab w) : Calls Tryd.prog 16 #[.string s] w fun e_ w' => e_ = .returned (.string (digest s)) ∧ Below w.heap.size w w' := by
  have HB := Aside0.mk (Below.refl w.heap.size w)
  have HT := Aside0.mk htab
  have hes := en_size s.size
  have hroom : (9223372036854775807 < s.size + (en s.size).size) = False := eq_false (by omega)
  have hr2 : (s ++ en s.size).size ≤ 9223372036854775807 := by rw [ByteArray.size_append]; omega
  obtain ⟨en_, hen⟩ : ∃ e, en s.size = e := ⟨_, rfl⟩
  have hef := en_f s.size hs
  rw [hen] at hroom hr2 hef
  have HE := Aside0.mk (And.intro hen (And.intro hr2 hef))
  clear htab hes hr2 hef hen
  go_enter Tryd.func16, Tryd.ntmps16
  go_wp2_with (first | (go_at_call 53; refine (first_calls _).mono ?_; rintro e_ w1 ⟨rfl, hb1⟩; have HB1 := Aside0.mk hb1; clear hb1) | (go_at_call 54; refine (impl_ending.calls _ _ _ HE.out.2.2).mono ?_; rintro e_ w2 ⟨rfl, hb2⟩; have HB2 := Aside0.mk (below_step HB1.out hb2); clear hb2) | (go_at_call 52; refine (blocks_calls first8 rfl (s ++ en_) HE.out.2.1 _ (tab_below HT.out HB2.out)).mono ?_; rintro e_ w3 ⟨rfl, hb3⟩; have HB3 := Aside0.mk (below_step HB2.out hb3); clear hb3; (generalize hbl : blks first8 (s ++ en_) = bl); have hbll := blks_len first8 (s ++ en_) rfl; (rw [hbl] at hbll); have HBL := Aside0.mk (And.intro hbl hbll); clear hbl hbll) | ((with_reducible refine gate_store (t := 67) (p := 3) rfl ?_); refine st67 (l := [0, 0, 0, 0, 0, 0, 0, 0]) (l' := bl.1) (heap_alloc_last _ _) rfl HBL.out.2 (.tmp 3) (.tmp 13) rfl rfl rfl rfl ?_) | ((with_reducible refine gate_dst (N := 15) rfl ?_); refine ld67 (l := bl.1) (blk_row (l := [0, 0, 0, 0, 0, 0, 0, 0]) (heap_alloc_last _ _)) HBL.out.2 (.tmp 3) rfl rfl rfl ?_) | (go_at_call 55; refine (stateText_calls' bl.1 HBL.out.2 _).mono ?_; rintro e_ w4 ⟨rfl, hb4⟩; have HB4 := Aside0.mk hb4; clear hb4))
  go_ret
  refine ⟨?_, ?_⟩
  · unfold digest
    rw [HE.out.1, HBL.out.1]
    rfl
  · exact below_step (setRow_below (below_alloc HB3.out _) HB3.out.size _) HB4.out
theorem size27 : (Tryd.prog.info? 27).map (·.size) = some 3 := by kernel_rfl
section
variable {ops : Array Oper} {rest : List Oper} {o : Oper} {a : Act} {w : World} {Q : Exit → Act → World → Prop} {x y z x' y' z' : Value} {b : Nat} {t : TypeId}
theorem ld27 (hb : w.heap[b]? = some (.cells #[x, y, z] t (0, 0))) (u : Operand) (hgd : o.guard = none) (ho : o.op = .load 27 u) (hx : a.eval u = .pointer (some ⟨b, 0, none⟩)) (h : wpList Tryd.prog ops Q rest (a.put o.dst (.agg #[x, y, z])) w) : wpList Tryd.prog ops Q (o :: rest) a w :=
  wpList_load_row hgd 27 u ho b hx t _ _ _ hb Tryd.underlying27 rfl (by rw [size27]; rfl) h
theorem st27 (hb : w.heap[b]? = some (.cells #[x, y, z] t (0, 0))) (u v : Operand) (hgd : o.guard = none) (ho : o.op = .store 27 u v) (hx : a.eval u = .pointer (some ⟨b, 0, none⟩)) (hy : a.eval v = .agg #[x', y', z']) (h1 : (#[x', y', z'] : Array Value).all (·.oneCell') = true) (h : wpList Tryd.prog ops Q rest (a.put o.dst undef) (w.setRow b #[x', y', z'])) : wpList Tryd.prog ops Q (o :: rest) a w :=
  wpList_store_row hgd 27 u v ho b _ hx hy t _ hb (by rw [size27]; rfl) rfl h1 h
end
theorem ret27 {fn : Func} {p : Tmp} {x y z : Value} (h : fn.results = #[.cell p 27]) (tmps : Array Value) (w : World) {b : Nat} {t : TypeId} (hb : w.heap[b]? = some (.cells #[x, y, z] t (0, 0))) (hp : tmps.getD p undef = .pointer (some ⟨b, 0, none⟩)) : (results fn tmps).run Tryd.prog w = .ok (.agg #[x, y, z]) w :=
  results_cell_row h tmps w b t _ _ _ hp hb Tryd.underlying27 rfl (by rw [size27]; rfl)
set_option maxHeartbeats 4000000 in
set_option maxRecDepth 100000 in
theorem hasherNew_calls (w : World) : Calls Tryd.prog 40 #[] w fun e_ w' => e_ = .returned (.agg #[.string (stText first8), .string ⟨#[]⟩, .int .i64 0]) ∧ Below w.heap.size w w' := by
  have HB := Aside0.mk (Below.refl w.heap.size w)
  go_enter Tryd.func40, Tryd.ntmps40
  go_wp2_with (first | (go_at_call 53; refine (first_calls _).mono ?_; rintro e_ w1 ⟨rfl, hb1⟩; have HB1 := Aside0.mk hb1; clear hb1) | (go_at_call 55; refine (stateText_calls' first8 rfl _).mono ?_; rintro e_ w2 ⟨rfl, hb2⟩; have HB2 := Aside0.mk (below_step HB1.out hb2); clear hb2) | ((with_reducible refine gate_store (t := 27) (p := 0) rfl ?_); refine st27 (blk_below (heap_alloc_last _ _) HB2.out) (.tmp 0) (.tmp 3) rfl rfl rfl rfl (by simp [Value.oneCell']) ?_))
  (try simp only [Exit.inBlock, Exit.then])
  refine bodyPost_ret (ret27 (x := .string (stText first8)) (y := .string ⟨#[]⟩) (z := .int .i64 0) rfl _ _ (setRow_heap _ _ _ _ _ _ (blk_below (heap_alloc_last _ _) HB2.out)) rfl) rfl ⟨rfl, setRow_below ((HB.out.alloc (Nat.le_refl _) _).trans (HB2.out.mono (by rw [sz_alloc]; omega))) (Nat.le_refl _) _⟩
end Go.Proofs.YtlddohppkcndjaaDoor.Sha
