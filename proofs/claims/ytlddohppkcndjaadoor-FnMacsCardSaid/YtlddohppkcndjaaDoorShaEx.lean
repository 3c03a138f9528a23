/- More bytes behind a row of bytes; a key expanded, the document's way: walked. No condition. -/
import Derived.Test.YtlddohppkcndjaaDoorShaM
import Derived.Lib.SlBuf
import Derived.Test.YtlddohppkcndjaaDoorPl06Bytex1
import Derived.Test.YtlddohppkcndjaaDoorPl01Inx1
namespace Go.Proofs.YtlddohppkcndjaaDoor.Sha
open Go.RowKit Go.Proofs.YtlddohppkcndjaaDoorW.PrintWords Go.Proofs.YtlddohppkcndjaaDoorW.PrintLast Go.Proofs.YtlddohppkcndjaaDoorW.PrintMore
set_option linter.unusedVariables false
set_option linter.unusedSimpArgs false
set_option maxRecDepth 100000
theorem heap_setCells {g : Nat} {fr : Nat × Nat} {e : TypeId} : ∀ (ys xs : List Int) (w : World) (cur : Array Value), w.heap[g]? = some (.cells cur e fr) → xs.length + ys.length ≤ cur.size → cur.toList.take xs.length = u8s xs →
    ∃ cur', (w.setCells g xs.length (u8s ys)).heap[g]? = some (.cells cur' e fr) ∧ cur'.size = cur.size ∧ cur'.toList.take (xs ++ ys).length = u8s (xs ++ ys)
  | [], xs, w, cur, hg, _, ht => ⟨cur, hg, rfl, by rw [List.append_nil]; exact ht⟩
  | y :: ys, xs, w, cur, hg, hs, ht => by
    have hs' : xs.length < cur.size := by simp only [List.length_cons] at hs; omega
    obtain ⟨cur', h1, h2, h3⟩ := heap_setCells ys (xs ++ [y]) (w.setCell ⟨g, xs.length, none⟩ (.int .u8 y)) (cur.setIfInBounds xs.length (.int .u8 y)) (heap_set hg _) (by rw [Array.size_setIfInBounds, List.length_append]; simp only [List.length_cons, List.length_nil] at hs ⊢; omega) (by
      rw [Array.toList_setIfInBounds, List.length_append, List.length_singleton, List.take_add_one, List.take_set_of_le (Nat.le_refl _), ht]
      unfold u8s
      rw [List.map_append]
      congr 1
      rw [List.getElem?_set_self (by simp only [Array.length_toList]; omega)]
      rfl)
    refine ⟨cur', ?_, by rw [h2, Array.size_setIfInBounds], by rw [List.append_assoc] at h3; exact h3⟩
    rw [List.length_append] at h1
    exact h1
theorem below_setCells_ {B g : Nat} {a : World} (hb : B ≤ g) : ∀ (vs : List Value) (o : Nat) {w : World}, Below B a w → Below B a (w.setCells g o vs)
  | [], _, _, h => h
  | v :: r, o, _, h => below_setCells_ hb r (o + 1) (h.setCell (p := ⟨g, o, none⟩) hb v)
/-- More bytes. -/
theorem run_append_bytes {base : Nat} {w : World} {v : Value} {xs ys : List Int} {ad : Addr} {c : Nat} (h : BRow base w v xs) (hbase : base ≤ w.heap.size) (hsrc : ∀ j u, (u8s ys)[j]? = some u → w.cell? (ad.add j) = some u) (hl : xs.length + ys.length ≤ 1000000000000) (hy : 0 < ys.length) (ty : TypeId) :
    ∃ v' w', (Builtin.append_ #[51, 51] ty #[v, .slice (some ad) ys.length c]).run Tryd.prog w = .ok v' w' ∧ BRow base w' v' (xs ++ ys) ∧ Below base w w' := by
  obtain ⟨i5, hi5, hz5, hs5, hb5⟩ : ∃ i, Tryd.prog.info? 5 = some i ∧ i.zero = some (.int .u8 0) ∧ i.size = 1 ∧ i.bytes = 1 := by
    have := info5
    cases hq : Tryd.prog.info? 5 with
    | none => rw [hq] at this; cases this
    | some i =>
      rw [hq] at this
      simp only [Option.map_some, Option.some.injEq, Prod.mk.injEq] at this
      exact ⟨i, rfl, this.1, this.2.1, this.2.2⟩
  obtain ⟨g, cap, cur, fr, hv, hb0, hg, h1, h2, hf, ht⟩ := h
  have hlt : g < w.heap.size := (Array.getElem?_eq_some_iff.1 hg).1
  subst hv
  have hsr : Src Tryd.prog i5.size 51 (.slice (some ad) ys.length c) ys.length (u8s ys) w :=
    Src.ofSlice w Tryd.underlying51 ad ys.length c (u8s ys) (by rw [hs5, u8s_length, Nat.mul_one]) hsrc (fun u hu => by
      unfold u8s at hu
      obtain ⟨_, _, rfl⟩ := List.mem_map.1 hu
      rfl)
  by_cases hroom : xs.length + ys.length ≤ cap
  · have hcell : ∀ j, w.cell? ⟨g, j, none⟩ = cur[j]? := fun j => cell_of_row w g _ cur 5 fr hg
    have hrun := run_append_room_src (P := Tryd.prog) w 51 51 ty 5 i5 Tryd.underlying51 hi5 g 0 xs.length cap (.slice (some ad) ys.length c) ys.length (u8s ys) hsr hroom
      (fun j hj => by
        rw [u8s_length] at hj
        rw [hs5, Nat.zero_add, Nat.mul_one, hcell, Array.getElem?_eq_getElem (by omega)]
        rfl)
      (fun j hj => by
        rw [u8s_length] at hj
        rw [hs5, Nat.zero_add, Nat.mul_one]
        exact hf _ (by omega))
    rw [hs5, Nat.zero_add, Nat.mul_one] at hrun
    obtain ⟨cur', h3, h4, h5⟩ := heap_setCells ys xs w cur hg (by omega) ht
    refine ⟨_, _, hrun, ⟨g, cap, cur', fr, by rw [List.length_append], hb0, h3, by rw [List.length_append]; exact hroom, by rw [h4]; exact h2, fun j hj => by
      rw [World.frozen?_setCells]; exact hf j hj, h5⟩, ?_⟩
    exact below_setCells_ hb0 _ _ (Below.refl base w)
  · have hcl : (Builtin.firstCells i5.size xs.length (.slice (some ⟨g, 0, none⟩) xs.length cap)).run Tryd.prog w.drew = .ok (u8s xs).toArray w.drew := by
      refine run_firstCells_some w.drew i5.size xs.length ⟨g, 0, none⟩ xs.length cap (u8s xs) (by rw [u8s_length, hs5, Nat.mul_one]) (fun j u hu => ?_)
      have e : (⟨g, 0, none⟩ : Addr).add j = ⟨g, j, none⟩ := by unfold Addr.add; split <;> simp_all
      rw [e]
      exact (brow_cell (w := w) ⟨g, cap, cur, fr, rfl, hb0, hg, h1, h2, hf, ht⟩).2 j u hu
    have hrun := run_append_grow_src (P := Tryd.prog) w 51 51 ty 5 i5 (.int .u8 0) Tryd.underlying51 hi5 hz5 (some ⟨g, 0, none⟩) xs.length cap (u8s xs) hcl (.slice (some ad) ys.length c) ys.length (u8s ys) hsr (by omega) (by omega) (growslice_fits (by omega) (by rw [hb5]; omega))
    have hge : xs.length + ys.length ≤ grownCap w (xs.length + ys.length) cap 5 := grownCap_ge w _ _ _
    refine ⟨_, _, hrun, ⟨w.heap.size, grownCap w (xs.length + ys.length) cap 5, _, (0, 0), by rw [List.length_append], hbase, heap_alloc_last w.drew _, by rw [List.length_append]; exact hge, ?_, fun j hj => ?_, ?_⟩, ?_⟩
    · rw [Array.size_append, size_zeroCells]
      simp only [List.size_toArray, List.length_append, u8s_length]
      show _ ≤ xs.length + ys.length + _ * 1
      omega
    · exact blk_frozen (heap_alloc_last w.drew _) j
    · rw [Array.toList_append, List.take_left' (by simp [u8s_length])]
      simp [u8s]
    · exact (Below.drew (Below.refl base w)).alloc hbase _
theorem wpList_append_bytes {ops : Array Oper} {rest : List Oper} {o : Oper} {a : Act} {Q : Exit → Act → World → Prop} {w : World} (hgd : o.guard = none) (s x : Operand)
    (ho : o.op = .call { callee := .builtin .append, args := #[s, x], argTypes := #[51, 51] }) {base : Nat} {v : Value} {xs ys : List Int} {ad : Addr} {n c : Nat} (hr : BRow base w v xs) (hbase : base ≤ w.heap.size)
    (hv : a.eval s = v) (hx : a.eval x = .slice (some ad) n c) (hn : n = ys.length) (hsrc : ∀ j u, (u8s ys)[j]? = some u → w.cell? (ad.add j) = some u) (hl : xs.length + ys.length ≤ 1000000000000) (hy : 0 < ys.length)
    (hK : ∀ v' w', BRow base w' v' (xs ++ ys) → Below base w w' → wpList Tryd.prog ops Q rest (a.put o.dst v') w') : wpList Tryd.prog ops Q (o :: rest) a w := by
  subst hn
  refine wpList_plain hgd fun K hK' => ?_
  obtain ⟨v', w', hrun, r', bb⟩ := run_append_bytes (c := c) hr hbase hsrc hl hy o.type
  unfold Oper.wp
  simp [execOp, ho, resolve, invoke, builtin, hv, hx, hrun, Result.andThen]
  exact hK' _ _ (hK v' w' r' bb)
theorem run_bytes_nil (w : World) : (Instr.buildSlice 51 0 #[]).run Tryd.prog w = .ok (.slice (some ⟨w.heap.size, 0, none⟩) 0 0) (w.alloc (.cells #[] 5)) := by kernel_rfl
theorem brow_nil {base : Nat} (w : World) (hb : base ≤ w.heap.size) : BRow base (w.alloc (.cells #[] 5)) (.slice (some ⟨w.heap.size, 0, none⟩) 0 0) [] :=
  ⟨w.heap.size, 0, #[], (0, 0), rfl, hb, heap_alloc_last _ _, Nat.le_refl _, Nat.le_refl _, fun j hj => absurd hj (Nat.not_lt_zero _), rfl⟩
theorem brow_take {base : Nat} {w : World} {g L cap n c : Nat} {T : List Int} (h : BRow base w (.slice (some ⟨g, 0, none⟩) L cap) T) (hn : n ≤ L) : (convert 51 9 (.slice (some ⟨g, 0, none⟩) n c)).run Tryd.prog w = .ok (.string ((strOfNums T).extract 0 n)) w := by
  obtain ⟨hL, hc⟩ := brow_cell h
  have e : strOfNums (T.take n) = (strOfNums T).extract 0 n := by
    have := str_take T 0 n
    rw [List.drop_zero, Nat.zero_add] at this
    exact this
  rw [← e]
  refine run_convert_bytes_arg w 51 5 Tryd.underlying51 Tryd.underlying5 g 0 n c (T.take n) (by rw [List.length_take]; omega) (fun i hi => ?_) 9 Tryd.underlying9
  rw [Nat.zero_add]
  refine hc i _ ?_
  unfold u8s
  rw [List.getElem?_map, List.getD_eq_getElem?_getD, List.getElem?_take, if_pos hi, List.getElem?_eq_getElem (by omega)]
  rfl
theorem brow_src {base : Nat} {w : World} {g n cap : Nat} {xs : List Int} (h : BRow base w (.slice (some ⟨g, 0, none⟩) n cap) xs) : ∀ j u, (u8s xs)[j]? = some u → w.cell? ((⟨g, 0, none⟩ : Addr).add j) = some u := fun j u hu => by
  have e : (⟨g, 0, none⟩ : Addr).add j = ⟨g, j, none⟩ := by unfold Addr.add; split <;> simp_all
  rw [e]
  exact (brow_cell h).2 j u hu
theorem bys_app2 (a b : ByteArray) : bys a ++ bys b = bys (a ++ b) := by unfold bys; simp
theorem wpl_world {P : Program} {ops : Array Oper} {os : List Oper} {Q : Exit → Act → World → Prop} {a : Act} {W : World} (h : ∀ V, V = W → wpList P ops Q os a V) : wpList P ops Q os a W := h W rfl
theorem brow_lt {base : Nat} {w : World} {g n cap : Nat} {xs : List Int} (h : BRow base w (.slice (some ⟨g, 0, none⟩) n cap) xs) : base ≤ g ∧ g < w.heap.size := by
  obtain ⟨g2, cap', cur, fr, hv, hb, hg, h1, h2, hf, ht⟩ := h
  injection hv with ha hn hc
  injection ha with ha
  injection ha with hgg
  subst hgg
  exact ⟨hb, (Array.getElem?_eq_some_iff.1 hg).1⟩
theorem brow_cap {base : Nat} {w : World} {g n cap : Nat} {xs : List Int} (h : BRow base w (.slice (some ⟨g, 0, none⟩) n cap) xs) : n ≤ cap := by
  obtain ⟨g2, cap', cur, fr, hv, hb, hg, h1, h2, hf, ht⟩ := h
  injection hv with ha hn hc
  omega
theorem brow_far {base : Nat} {w : World} {g g' n cap i : Nat} {xs : List Int} (h : BRow base w (.slice (some ⟨g, 0, none⟩) n cap) xs) (hne : g ≠ g') (v : Value) : BRow base (w.setCell ⟨g', i, none⟩ v) (.slice (some ⟨g, 0, none⟩) n cap) xs := by
  obtain ⟨g2, cap', cur, fr, hv, hb, hg, h1, h2, hf, ht⟩ := h
  injection hv with ha hn hc
  injection ha with ha
  injection ha with hgg
  subst hgg
  have e : (w.setCell ⟨g', i, none⟩ v).heap[g]? = w.heap[g]? := Below.heap_setCell w ⟨g', i, none⟩ v g hne
  refine ⟨g, cap', cur, fr, by rw [hn, hc], hb, e.trans hg, h1, h2, fun j hj => ?_, ht⟩
  have := hf j hj
  simp only [World.frozen?, e]
  simp only [World.frozen?] at this
  exact this
end Go.Proofs.YtlddohppkcndjaaDoor.Sha
namespace Go.Proofs.YtlddohppkcndjaaDoor.Sha
open Go.RowKit Go.Proofs.YtlddohppkcndjaaDoorW.PrintWords Go.Proofs.YtlddohppkcndjaaDoorW.PrintLast Go.Proofs.YtlddohppkcndjaaDoorW.PrintMore Go.Proofs.YtlddohppkcndjaaDoor.Pl06Byte Go.Proofs.YtlddohppkcndjaaDoor.Pl01In
set_option linter.unusedVariables false
set_option linter.unusedSimpArgs false
def oneB (i : Nat) : ByteArray := strOfNums [((i % 256 : Nat) : Int)]
theorem oneB_size (i : Nat) : (oneB i).size = 1 := by unfold oneB; rw [strOfNums_size]; rfl
/-- the last sum and all sums behind one another, after i rounds -/
def xpTo (key info : ByteArray) : Nat → ByteArray × ByteArray
  | 0 => (⟨#[]⟩, ⟨#[]⟩)
  | i + 1 => (mac key (((xpTo key info i).1 ++ info) ++ oneB (i + 1)), (xpTo key info i).2 ++ mac key (((xpTo key info i).1 ++ info) ++ oneB (i + 1)))
theorem xpTo_size (key info : ByteArray) : ∀ i, (xpTo key info i).1.size ≤ 32 ∧ (xpTo key info i).2.size = 32 * i
  | 0 => ⟨by show 0 ≤ 32; decide, rfl⟩
  | i + 1 => by
    have h := xpTo_size key info i
    refine ⟨?_, ?_⟩
    · show (mac _ _).size ≤ 32
      rw [mac_size]; decide
    · show ((xpTo key info i).2 ++ mac _ _).size = _
      rw [ByteArray.size_append, mac_size, h.2]
      omega
/-- A key, expanded to n bytes. -/
def expand (key info : ByteArray) (n : Int) : ByteArray × Bool := if 0 ≤ n ∧ n ≤ 8160 then ((xpTo key info ((n.toNat + 31) / 32)).2.extract 0 n.toNat, true) else (⟨#[]⟩, false)
theorem byte_f (i : Nat) (h : i ≤ 1000) : spec_l06Byte.f (i : Int) = some (oneB i) := by
  unfold spec_l06Byte.f oneB
  have e : Int.tmod (i : Int) 256 = ((i % 256 : Nat) : Int) := by rw [Int.tmod_eq_emod_of_nonneg (by omega)]; omega
  rw [e, if_neg (by omega)]
  congr 3
  omega
theorem l01_yes (x lo hi : Int) (h1 : lo ≤ x) (h2 : x ≤ hi) : spec_l01In.f x lo hi = some true := by
  unfold spec_l01In.f
  simp [h1, h2]
theorem l01_no (x lo hi : Int) (h : ¬ (lo ≤ x ∧ x ≤ hi)) : spec_l01In.f x lo hi = some false := by
  unfold spec_l01In.f
  by_cases h1 : lo ≤ x
  · simp [h1]; omega
  · simp [h1]
set_option maxHeartbeats 8000000 in
set_option maxRecDepth 100000 in
theorem specExpand_calls (key info : ByteArray) (n : Int) (hk : key.size ≤ 100000000) (hi : info.size ≤ 100000000) (w : World) : Calls Tryd.prog 26 #[.string key, .string info, .int .i64 n] w fun e_ w' => e_ = .returned (.tuple #[.string (expand key info n).1, .bool (expand key info n).2]) ∧ Below w.heap.size w w' := by
  have HB := Aside0.mk (Below.refl w.heap.size w)
  have hnil : ∀ w : World, (Instr.buildSlice 51 0 #[]).run Tryd.prog w = .ok (.slice (some ⟨w.heap.size, 0, none⟩) 0 0) (w.alloc (.cells #[] 5)) := fun w => run_bytes_nil w
  by_cases hn : 0 ≤ n ∧ n ≤ 8160
  · obtain ⟨m, rfl⟩ := Int.eq_ofNat_of_zero_le hn.1
    have HI := Aside0.mk (l01_yes (m : Int) 0 8160 hn.1 hn.2)
    have HE : Aside0 (expand key info (m : Int) = ((xpTo key info ((m + 31) / 32)).2.extract 0 m, true)) := ⟨by unfold expand; rw [if_pos hn, Int.toNat_natCast]⟩
    have hm9 : m ≤ 8160 := by omega
    have HK := Aside0.mk (And.intro hk (And.intro hi hm9))
    clear hk hi hn hm9
    go_enter Tryd.func26, Tryd.ntmps26
    go_wp2_with (go_at_call 64; (with_reducible refine (spec_l01In.calls (m : Int) 0 8160 _ _ HI.out).mono ?_); rintro e_ w1 ⟨rfl, ⟨n1, rfl⟩⟩)
    clear hnil
    refine wp_world (fun V hV => ?_)
    have HV : Aside0 (Below w.heap.size w V ∧ BRow w.heap.size V (.slice (some ⟨w.heap.size, 0, none⟩) 0 0) (bys ⟨#[]⟩)) := ⟨by
      have hb := brow_nil (base := w.heap.size) (w.drewN n1) (Nat.le_refl _)
      rw [hV]
      exact ⟨(pw_below_drewN HB.out n1).alloc (Nat.le_refl _) _, hb⟩⟩
    clear hV
    go_loopg [8, 9, 10] ((m + 31) / 32) (fun k s8 s9 s10 wx => ∃ i g cap, ∃ t o : ByteArray, i + k = (m + 31) / 32 ∧ s10 = .int .i64 ((i : Int) + 1) ∧ s9 = .string t ∧ s8 = .slice (some ⟨g, 0, none⟩) (32 * i) cap ∧ Aside0 (xpTo key info i = (t, o)) ∧ Aside0 (Below w.heap.size w wx ∧ BRow w.heap.size wx (.slice (some ⟨g, 0, none⟩) (32 * i) cap) (bys o)))
    case atStart => exact ⟨0, w.heap.size, 0, ⟨#[]⟩, ⟨#[]⟩, by omega, rfl, rfl, rfl, ⟨rfl⟩, HV⟩
    case round =>
      obtain ⟨i, g, cap, t, o, hik, rfl, rfl, rfl, HX, HY⟩ := hrel
      clear HV
      have hsz := xpTo_size key info i
      rw [HX.out] at hsz
      obtain ⟨ht, ho⟩ := hsz
      simp only at ht ho
      obtain ⟨L, hL⟩ : ∃ L, 32 * i = L := ⟨_, rfl⟩
      rw [hL] at HY ho ⊢
      cases gk with
      | zero =>
        have hlt : ¬ ((L : Int) < (m : Int)) := by omega
        have hge : m ≤ L := by omega
        have hcap := brow_cap HY.out.2
        have hc1 : (m : Int) ≤ (cap : Int) := by omega
        have hcv := brow_take (n := m) (c := cap) HY.out.2 hge
        rw [str_bys] at hcv
        have hi2 : i = (m + 31) / 32 := by omega
        obtain ⟨R, hR⟩ : ∃ R, o.extract 0 m = R := ⟨_, rfl⟩
        rw [hR] at hcv
        have HR : Aside0 (expand key info (m : Int) = (R, true)) := ⟨by rw [HE.out, ← hi2, HX.out, hR]⟩
        have hm0 : (0 : Int) ≤ (m : Int) := by omega
        clear hik hL ht ho hcap hge hi2 hR
        go_wp2
        go_ret2
        exact ⟨by rw [HR.out]; rfl, HY.out.1⟩
      | succ kk =>
        have hm9 := HK.out.2.2
        have hlt : (L : Int) < (m : Int) := by omega
        have hi9 : i + 1 ≤ 300 := by omega
        have hL9 : L ≤ 8160 := by omega
        have hob : oneB (i + 1) = oneB (i + 1) := rfl
        obtain ⟨b, hb⟩ : ∃ b, oneB (i + 1) = b := ⟨_, rfl⟩
        have hbs : b.size = 1 := by rw [← hb, oneB_size]
        have HBy : Aside0 (spec_l06Byte.f ((i : Int) + 1) = some b) := ⟨by rw [show (i : Int) + 1 = ((i + 1 : Nat) : Int) by omega, byte_f _ (by omega), hb]⟩
        have hi0 := HK.out.2.1
        have r0 : (9223372036854775807 < t.size + info.size) = False := eq_false (by omega)
        have r1 : (9223372036854775807 < t.size + info.size + b.size) = False := eq_false (by omega)
        have r2 : (9223372036854775807 < (t ++ info).size + b.size) = False := by rw [ByteArray.size_append]; exact r1
        obtain ⟨M, hM⟩ : ∃ M, mac key ((t ++ info) ++ b) = M := ⟨_, rfl⟩
        have HM : Aside0 (∀ W : World, Calls Tryd.prog 24 #[.string key, .string ((t ++ info) ++ b)] W fun e_ w' => e_ = .returned (.string M) ∧ Below W.heap.size W w') := ⟨fun W => hM ▸ specMac_calls key ((t ++ info) ++ b) (by have := HK.out.1; omega) (by rw [ByteArray.size_append, ByteArray.size_append]; omega) W⟩
        have hMs : M.size = 32 := by rw [← hM, mac_size]
        have HN : Aside0 (xpTo key info (i + 1) = (M, o ++ M)) := ⟨by
          show (mac key (((xpTo key info i).1 ++ info) ++ oneB (i + 1)), (xpTo key info i).2 ++ mac key (((xpTo key info i).1 ++ info) ++ oneB (i + 1))) = _
          rw [HX.out, hb]
          simp only
          rw [hM]⟩
        have HI2 := Aside0.mk (And.intro hik (And.intro hL (And.intro hMs (And.intro ho hL9))))
        have hi300 : (i : Int) + 1 ≤ 300 := by omega
        clear hik hL hob hb hbs hi0 hM hMs ho ht hm9 hi9 hL9
        go_wp2_with (first
          | (go_at_call 65; (with_reducible refine (spec_l06Byte.calls _ _ _ HBy.out).mono ?_); rintro e_ w5 ⟨rfl, hb5⟩; have H5 : Aside0 (Below w.heap.size w w5 ∧ BRow w.heap.size w5 (.slice (some ⟨g, 0, none⟩) L cap) (bys o)) := ⟨HY.out.1.trans (hb5.mono HY.out.1.size), brow_below HY.out.2 hb5⟩; clear hb5)
          | (go_at_call 24; (with_reducible refine (HM.out _).mono ?_); rintro e_ w6 ⟨rfl, hb6⟩; have H6 : Aside0 (Below w.heap.size w w6 ∧ BRow w.heap.size w6 (.slice (some ⟨g, 0, none⟩) L cap) (bys o)) := ⟨H5.out.1.trans (hb6.mono H5.out.1.size), brow_below H5.out.2 hb6⟩; clear hb6)
          | ((with_reducible refine gate_dst (N := 31) rfl ?_); refine wpList_bytes rfl (.tmp 30) rfl (base := w6.heap.size) (s := M) (Nat.le_refl _) rfl ?_; intro v7 w7 hv7 hb7; have H7 := Aside0.mk hv7; have HY7 : Aside0 (Below w.heap.size w w7 ∧ BRow w.heap.size w7 (.slice (some ⟨g, 0, none⟩) L cap) (bys o)) := ⟨H6.out.1.trans (hb7.mono H6.out.1.size), brow_below H6.out.2 hb7⟩; clear hv7 hb7; obtain ⟨g7, c7, hg7⟩ : ∃ g cap, v7 = .slice (some ⟨g, 0, none⟩) 32 cap := (by obtain ⟨g, cap, _, _, h, _⟩ := H7.out; rw [bys_len, HI2.out.2.2.1] at h; exact ⟨g, cap, h⟩); subst hg7)
          | ((with_reducible refine gate_dst (N := 32) rfl ?_); refine wpList_append_bytes rfl (.tmp 29) (.tmp 31) rfl (base := w.heap.size) HY7.out.2 HY7.out.1.size rfl rfl (by rw [bys_len, HI2.out.2.2.1]) (brow_src H7.out) (by rw [bys_len, bys_len, HI2.out.2.2.1, HI2.out.2.2.2.1]; have := HI2.out.2.2.2.2; omega) (by rw [bys_len, HI2.out.2.2.1]; decide) ?_; intro v8 w8 hv8 hb8; have H8 := Aside0.mk hv8; have HB8 := Aside0.mk (HY7.out.1.trans hb8); clear hv8 hb8; obtain ⟨g8, c8, hg8⟩ := brow_form H8.out; subst hg8))
        go_roundg kk
        case measure => omega
        case rel =>
          obtain ⟨hik, hL, hMs, ho, hL9⟩ := HI2.out
          have hl : (bys o ++ bys M).length = 32 * (i + 1) := by rw [List.length_append, bys_len, bys_len, hMs, ho]; omega
          refine ⟨i + 1, g8, c8, M, o ++ M, by omega, by go_num, rfl, by first | rw [hl] | (rw [List.length_append] at hl; rw [hl]), HN, ⟨HB8.out, ?_⟩⟩
          have := H8.out
          rw [hl, bys_app2] at this
          exact this
  · have HI := Aside0.mk (l01_no n 0 8160 hn)
    have e : expand key info n = (⟨#[]⟩, false) := by unfold expand; rw [if_neg hn]
    rw [e]
    clear hk hi hn e hnil
    go_enter Tryd.func26, Tryd.ntmps26
    go_wp2_with (go_at_call 64; (with_reducible refine (spec_l01In.calls n 0 8160 _ _ HI.out).mono ?_); rintro e_ w1 ⟨rfl, ⟨n1, rfl⟩⟩)
    go_ret2
    exact ⟨rfl, pw_below_drewN HB.out n1⟩
end Go.Proofs.YtlddohppkcndjaaDoor.Sha
