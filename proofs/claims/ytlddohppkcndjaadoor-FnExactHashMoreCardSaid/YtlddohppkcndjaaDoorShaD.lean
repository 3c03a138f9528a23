/- One block: the state behind a block. -/
import Derived.Test.YtlddohppkcndjaaDoorShaC
import Derived.Lib.LaidTab
namespace Go.Proofs.YtlddohppkcndjaaDoor.Sha
open Go.RowKit Go.Proofs.YtlddohppkcndjaaDoorW.PrintWords Go.Proofs.YtlddohppkcndjaaDoorW.PrintLast Go.Proofs.YtlddohppkcndjaaDoorW.PrintMore Go.Proofs.YtlddohppkcndjaaDoor.Pending Go.Proofs.YtlddohppkcndjaaDoor.Pright
set_option linter.unusedVariables false
set_option linter.unusedSimpArgs false

def keys : List Int := [1116352408, 1899447441, 3049323471, 3921009573, 961987163, 1508970993, 2453635748, 2870763221,
  3624381080, 310598401, 607225278, 1426881987, 1925078388, 2162078206, 2614888103, 3248222580,
  3835390401, 4022224774, 264347078, 604807628, 770255983, 1249150122, 1555081692, 1996064986,
  2554220882, 2821834349, 2952996808, 3210313671, 3336571891, 3584528711, 113926993, 338241895,
  666307205, 773529912, 1294757372, 1396182291, 1695183700, 1986661051, 2177026350, 2456956037,
  2730485921, 2820302411, 3259730800, 3345764771, 3516065817, 3600352804, 4094571909, 275423344,
  430227734, 506948616, 659060556, 883997877, 958139571, 1322822218, 1537002063, 1747873779,
  1955562222, 2024104815, 2227730452, 2361852424, 2428436474, 2756734187, 3204031479, 3329325298]
/-- The table of the rounds' numbers. -/
abbrev Tab (w : World) : Prop := Lib.TabIs Tryd.prog w "loop.example/g00186/impl.roundKeys" .u32 keys
theorem gTab : Tryd.prog.globalNamed "loop.example/g00186/impl.roundKeys" = some 0 := by kernel_rfl
theorem tab_lt {w : World} (h : Tab w) : 0 < w.heap.size := by
  unfold Tab Lib.TabIs World.var? at h
  rw [gTab] at h
  simp only [Option.bind_some] at h
  rcases Nat.lt_or_ge 0 w.heap.size with h' | h'
  · exact h'
  · rw [Array.getElem?_eq_none h'] at h; simp at h
theorem tab_below {w w' : World} (h : Tab w) (hb : Below w.heap.size w w') : Tab w' := by
  have hlt := tab_lt h
  unfold Tab Lib.TabIs World.var? at *
  rw [gTab] at h ⊢
  simp only [Option.bind_some] at h ⊢
  rw [hb.block 0 hlt]
  exact h
theorem tab_cell {w : World} (h : Tab w) (i : Nat) (hi : i < 64) : w.cell? ⟨0, i, none⟩ = some (.int .u32 (keys.getD i 0)) := by
  unfold Tab Lib.TabIs World.var? at h
  rw [gTab] at h
  simp only [Option.bind_some] at h
  split at h
  · rename_i cs t fr hb
    obtain rfl := Option.some.inj h
    rw [cell_of_row w 0 i _ t _ hb]
    exact cells_get keys i hi
  · cases h
/-- One round. -/
def rnd (k w : Int) : List Int → List Int
  | [a, b, c, d, e, f, g, h] =>
    let t1 := h + Go.bits .xor .u32 (Go.bits .xor .u32 (rt e 6) (rt e 11)) (rt e 25) + Go.bits .xor .u32 (Go.bits .and .u32 e f) (Go.bits .and .u32 (Go.bits .xor .u32 IntKind.u32.max e) g) + k + w
    let t2 := Go.bits .xor .u32 (Go.bits .xor .u32 (rt a 2) (rt a 13)) (rt a 22) + Go.bits .xor .u32 (Go.bits .xor .u32 (Go.bits .and .u32 a b) (Go.bits .and .u32 a c)) (Go.bits .and .u32 b c)
    [(t1 + t2) % 4294967296, a, b, c, (d + t1) % 4294967296, e, f, g]
  | l => l
def rnds (w st : List Int) : Nat → List Int
  | 0 => st
  | t + 1 => rnd (keys.getD t 0) (w.getD t 0) (rnds w st t)
theorem rnd_len (k w : Int) (l : List Int) (h : l.length = 8) : (rnd k w l).length = 8 := by
  obtain ⟨a, b, c, d, e, f, g, h, rfl⟩ := arr8 l h
  rfl
theorem rnds_len (w st : List Int) (h : st.length = 8) : ∀ t, (rnds w st t).length = 8
  | 0 => h
  | t + 1 => rnd_len _ _ _ (rnds_len w st h t)
def addTo (out st : List Int) : Nat → List Int
  | 0 => out
  | i + 1 => (addTo out st i).set i (((addTo out st i).getD i 0 + st.getD i 0) % 4294967296)
theorem addTo_len (out st : List Int) (h : out.length = 8) : ∀ t, (addTo out st t).length = 8
  | 0 => h
  | t + 1 => by simp [addTo, addTo_len out st h t]
def one (st : List Int) (s : ByteArray) : List Int := addTo (rnds (wds s) st 64) st 8
theorem one_len (st : List Int) (s : ByteArray) (h : st.length = 8) : (one st s).length = 8 := addTo_len _ _ (rnds_len _ _ h 64) 8
theorem right_q (x n : Int) (h : n = 7 ∨ n = 18 ∨ n = 17 ∨ n = 19 ∨ n = 6 ∨ n = 11 ∨ n = 25 ∨ n = 2 ∨ n = 13 ∨ n = 22) (W : World) (m : Nat) : Calls Tryd.prog 88 #[.int .u32 x, .int .i64 n] (W.drewN m) fun e w'' => e = .returned (.int .u32 (rt x n)) ∧ ∃ k, w'' = W.drewN k := by
  refine Calls.quiet_of ((impl_right.calls x n (rt x n) _ (right_f x n h)).mono ?_)
  rintro e w' ⟨he, nd, hw⟩
  exact ⟨he, nd, hw⟩
set_option maxHeartbeats 4000000 in
set_option maxRecDepth 100000 in
theorem one_calls (st : List Int) (hst : st.length = 8) (s : ByteArray) (hs : 64 ≤ s.size) (w : World) (htab : Tab w) : Calls Tryd.prog 81 #[arr st, .string s] w fun e_ w' => e_ = .returned (arr (one st s)) ∧ Below w.heap.size w w' := by
  obtain ⟨a, b, c, d, e, f, g, h, rfl⟩ := arr8 st hst
  have HB := Aside0.mk (Below.refl w.heap.size w)
  have HT := Aside0.mk htab
  clear htab hst
  go_enter Tryd.func81, Tryd.ntmps81
  go_wp2_with (first | (go_at_call 87; refine (words_calls s hs _).mono ?_; rintro e_ w1 ⟨rfl, hb1⟩; have HB1 := Aside0.mk hb1; clear hb1) | ((with_reducible refine gate_store (t := 101) (p := 5) rfl ?_); refine st101 (l := zero64) (l' := wds s) (heap_alloc_last _ _) rfl (wds_len s) (.tmp 5) (.tmp 20) rfl rfl rfl rfl ?_))
  have hz1 : w.heap.size + 2 ≤ w1.heap.size := by have := HB1.out.size; rw [sz_alloc, sz_alloc] at this; omega
  obtain ⟨b5, hb5⟩ : ∃ b5, w1.heap.size = b5 := ⟨_, rfl⟩
  generalize hW : World.setRow _ _ _ = W
  have k1 : Below w.heap.size w w1 := ((HB.out.alloc (Nat.le_refl _) (.cells (cells .u32 [a, b, c, d, e, f, g, h]) 67)).alloc (by rw [sz_alloc]; omega) (.cells (cells .u32 [0, 0, 0, 0, 0, 0, 0, 0]) 67)).trans (HB1.out.mono (by rw [sz_alloc, sz_alloc]; omega))
  have kW : Below w.heap.size w W := by rw [← hW]; exact setRow_below (k1.alloc k1.size _) k1.size _
  have g0 : Blk w1 w.heap.size 67 [a, b, c, d, e, f, g, h] := by
    unfold Blk
    rw [HB1.out.block _ (by rw [sz_alloc, sz_alloc]; omega)]
    exact blk_alloc (blk_new _ _) _
  have g1 : Blk w1 (w.heap.size + 1) 67 [0, 0, 0, 0, 0, 0, 0, 0] := by
    unfold Blk
    rw [HB1.out.block _ (by rw [sz_alloc, sz_alloc]; omega), ← sz_alloc w (.cells _ 67)]
    exact heap_alloc_last _ _
  have B0 : Blk W w.heap.size 67 [a, b, c, d, e, f, g, h] := by rw [← hW]; exact blk_row_far (blk_alloc g0 _) (by omega) _
  have B1 : Blk W (w.heap.size + 1) 67 [0, 0, 0, 0, 0, 0, 0, 0] := by rw [← hW]; exact blk_row_far (blk_alloc g1 _) (by omega) _
  have B5 : Blk W b5 101 (wds s) := by rw [← hW, hb5]; exact blk_row (l := zero64) (by rw [← hb5]; exact heap_alloc_last _ _)
  have hT : Tab W := tab_below HT.out kW
  rw [hb5] at hz1 ⊢
  clear hW k1 g0 g1 HB1 hb5 w1
  have hne : b5 ≠ w.heap.size := by omega
  have c0 := blk_cell_ B0 0 (by simp)
  have c1 := blk_cell_ B0 1 (by simp)
  have c2 := blk_cell_ B0 2 (by simp)
  have c3 := blk_cell_ B0 3 (by simp)
  have c4 := blk_cell_ B0 4 (by simp)
  have c5 := blk_cell_ B0 5 (by simp)
  have c6 := blk_cell_ B0 6 (by simp)
  have c7 := blk_cell_ B0 7 (by simp)
  simp only [List.getD_cons_zero, List.getD_cons_succ] at c0 c1 c2 c3 c4 c5 c6 c7
  have HS := Aside0.mk (And.intro kW (And.intro B0 (And.intro B1 (And.intro B5 hT))))
  clear kW B0 B1 B5 hT
  dsimp only [Act.put]
  go_quiet (fail)
  go_wp2
  generalize hWn : W.drewN _ = V
  replace HS : Aside0 (Below w.heap.size w V ∧ Blk V w.heap.size 67 [a, b, c, d, e, f, g, h] ∧ Blk V (w.heap.size + 1) 67 [0, 0, 0, 0, 0, 0, 0, 0] ∧ Blk V b5 101 (wds s) ∧ Tab V) := by
    rw [← hWn]
    exact ⟨pw_below_drewN HS.out.1 _, HS.out.2.1, HS.out.2.2.1, HS.out.2.2.2.1, HS.out.2.2.2.2⟩
  clear hWn c0 c1 c2 c3 c4 c5 c6 c7 W
  obtain ⟨st, hst⟩ : ∃ st, [a, b, c, d, e, f, g, h] = st := ⟨_, rfl⟩
  have hsl : st.length = 8 := by rw [← hst]; rfl
  rw [hst] at HS ⊢
  have HST := Aside0.mk (And.intro hst hsl)
  clear hst hsl
  go_loopg [6, 7, 8, 9, 10, 11, 12, 13, 37] 64 (fun k s6 s7 s8 s9 s10 s11 s12 s13 s37 wx => ∃ i n : Nat, ∃ a b c d e f g h : Int, i + k = 64 ∧ s37 = .int .i64 i ∧ s6 = .int .u32 a ∧ s7 = .int .u32 b ∧ s8 = .int .u32 c ∧ s9 = .int .u32 d ∧ s10 = .int .u32 e ∧ s11 = .int .u32 f ∧ s12 = .int .u32 g ∧ s13 = .int .u32 h ∧ wx = V.drewN n ∧ Aside0 (rnds (wds s) st i = [a, b, c, d, e, f, g, h]))
  case atStart => exact ⟨0, 0, a, b, c, d, e, f, g, h, by omega, rfl, rfl, rfl, rfl, rfl, rfl, rfl, rfl, rfl, rfl, ⟨HST.out.1.symm⟩⟩
  case round =>
    obtain ⟨i, n, a', b', c', d', e', f', g', h', hik, rfl, rfl, rfl, rfl, rfl, rfl, rfl, rfl, rfl, rfl, HR⟩ := hrel
    cases gk with
    | zero =>
      obtain rfl : i = 64 := by omega
      have hi : ¬ ((64 : Int) < 64) := by decide
      clear hik
      go_wp2_with (((with_reducible refine gate_store (t := 67) (p := 17) rfl ?_); refine st67 (l := [0, 0, 0, 0, 0, 0, 0, 0]) (l' := [a', b', c', d', e', f', g', h']) (heap_alloc_last _ _) rfl rfl (.tmp 17) (.tmp 108) rfl rfl rfl rfl ?_))
      generalize hW : World.setRow _ _ _ = W
      have hz : b5 < V.heap.size := blk_lt HS.out.2.2.2.1
      obtain ⟨b17, hb17⟩ : ∃ b, V.heap.size = b := ⟨_, rfl⟩
      have kW : Below w.heap.size w W := by rw [← hW]; exact setRow_below ((pw_below_drewN HS.out.1 n).alloc HS.out.1.size _) HS.out.1.size _
      have B0 : Blk W w.heap.size 67 st := by rw [← hW]; exact blk_row_far (blk_alloc (blk_drewN HS.out.2.1 n) _) (by omega) _
      have B1 : Blk W (w.heap.size + 1) 67 [0, 0, 0, 0, 0, 0, 0, 0] := by rw [← hW]; exact blk_row_far (blk_alloc (blk_drewN HS.out.2.2.1 n) _) (by omega) _
      have BO : Blk W b17 67 [a', b', c', d', e', f', g', h'] := by rw [← hW, ← hb17]; exact blk_row (l := [0, 0, 0, 0, 0, 0, 0, 0]) (heap_alloc_last _ _)
      rw [← HR.out] at BO
      rw [hb17] at hz ⊢
      have HB17 := Aside0.mk (And.intro hz hz1)
      have HW := Aside0.mk (And.intro kW (And.intro B0 (And.intro B1 BO)))
      have ho := rnds_len (wds s) st HST.out.2 64
      obtain ⟨out, hout⟩ : ∃ o, rnds (wds s) st 64 = o := ⟨_, rfl⟩
      rw [hout] at HW ho
      have HO := Aside0.mk (And.intro hout ho)
      clear hW kW B0 B1 BO hb17 hz hz1 hout ho hi
      go_wp2
      go_loopg [109] 8 (fun k s109 wx => ∃ i : Nat, i + k = 8 ∧ s109 = .int .i64 i ∧ Aside0 (Below w.heap.size w wx ∧ Blk wx w.heap.size 67 st ∧ Blk wx (w.heap.size + 1) 67 [0, 0, 0, 0, 0, 0, 0, 0] ∧ Blk wx b17 67 (addTo out st i)))
      case atStart => exact ⟨0, by omega, rfl, HW⟩
      case round =>
        obtain ⟨i, hik, rfl, HQ⟩ := hrel
        cases gk with
        | zero =>
          obtain rfl : i = 8 := by omega
          have hi : ¬ ((8 : Int) < 8) := by decide
          clear hik
          have hol := addTo_len out st HO.out.2 8
          have A1 := Aside0.mk HQ.out.2.2.2
          have A0 := Aside0.mk HQ.out.2.2.1
          have HOL := Aside0.mk hol
          clear hol
          go_wp2_with (first | ((with_reducible refine gate_dst (N := 121) rfl ?_); refine ld67 A1.out HOL.out (.tmp 17) rfl rfl rfl ?_) | ((with_reducible refine gate_store (t := 67) (p := 4) rfl ?_); refine st67 A0.out rfl HOL.out (.tmp 4) (.tmp 121) rfl rfl rfl rfl ?_))
          (try simp only [Exit.inBlock, Exit.then])
          refine bodyPost_ret (ret67 rfl _ _ (blk_row A0.out) HOL.out rfl) rfl ⟨?_, setRow_below HQ.out.1 (by omega) _⟩
          unfold one
          rw [HST.out.1, HO.out.1]
        | succ jj =>
          have hi : (i : Int) < 8 := by omega
          have hol := addTo_len out st HO.out.2 i
          obtain ⟨x, hx⟩ : ∃ x, (addTo out st i).getD i 0 = x := ⟨_, rfl⟩
          obtain ⟨y, hy⟩ : ∃ y, st.getD i 0 = y := ⟨_, rfl⟩
          have cx := blk_cell_ HQ.out.2.2.2 i (by rw [hol]; omega)
          have cy := blk_cell_ HQ.out.2.1 i (by rw [HST.out.2]; omega)
          have fx := blk_froz HQ.out.2.2.2 i
          rw [hx] at cx
          rw [hy] at cy
          have HI := Aside0.mk (And.intro hik (And.intro hx hy))
          clear hik hx hy hol
          go_wp2
          go_region
          go_wp2
          go_roundg jj
          case measure => omega
          case rel =>
            obtain ⟨hik, hx, hy⟩ := HI.out
            obtain ⟨hz, hz1⟩ := HB17.out
            refine ⟨i + 1, by omega, by go_num, ⟨(HQ.out.1.setCell (by show _ ≤ b17; omega) _).drew, blk_far HQ.out.2.1 (by show _ ≠ b17; omega) _, blk_far HQ.out.2.2.1 (by show _ ≠ b17; omega) _, ?_⟩⟩
            show Blk _ _ _ ((addTo out st i).set i (((addTo out st i).getD i 0 + st.getD i 0) % 4294967296))
            rw [hx, hy]
            exact blk_put_ HQ.out.2.2.2 i _
    | succ kk =>
      have hi : (i : Int) < 64 := by omega
      generalize hVn : V.drewN n = U
      have HVn := Aside0.mk hVn
      have HU : Aside0 (Blk U b5 101 (wds s) ∧ Tab U) := by rw [← hVn]; exact ⟨HS.out.2.2.2.1, HS.out.2.2.2.2⟩
      clear hVn
      obtain ⟨kx, hkx⟩ : ∃ x, keys.getD i 0 = x := ⟨_, rfl⟩
      obtain ⟨wx, hwx⟩ : ∃ x, (wds s).getD i 0 = x := ⟨_, rfl⟩
      have ck := tab_cell HU.out.2 i (by omega)
      have cw := blk_cell_ HU.out.1 i (by rw [wds_len]; omega)
      rw [hkx] at ck
      rw [hwx] at cw
      have HI := Aside0.mk (And.intro hik (And.intro hkx hwx))
      clear hik hkx hwx
      go_wp2
      go_quiet ((go_at_call 88; exact right_q _ _ (by decide) _ _))
      go_wp2_with (go_at_call 88; refine (impl_right.calls _ _ (rt _ _) _ (right_f _ _ (by decide))).mono ?_; rintro e_ w1 ⟨rfl, ⟨nd, rfl⟩⟩)
      go_roundg kk
      case measure => omega
      case rel =>
        obtain ⟨hik, hkx, hwx⟩ := HI.out
        refine ⟨i + 1, _, _, _, _, _, _, _, _, _, by omega, by go_num, rfl, rfl, rfl, rfl, rfl, rfl, rfl, rfl, by rw [← HVn.out]; exact World.drewN_drewN _ _ _, ⟨?_⟩⟩
        show rnd (keys.getD i 0) ((wds s).getD i 0) (rnds (wds s) st i) = _
        rw [HR.out, hkx, hwx]
        rfl
end Go.Proofs.YtlddohppkcndjaaDoor.Sha
