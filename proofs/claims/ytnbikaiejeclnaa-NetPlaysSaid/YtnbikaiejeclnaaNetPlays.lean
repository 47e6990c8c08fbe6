/- The walk of NetPlays. Conditions stand as premises. -/
import Derived.Test.YtnbikaiejeclnaaNetDo
import Derived.Test.YtnbikaiejeclnaaManual
import Derived.StillTailTactics
import Derived.Deep.LoopGhost
namespace Go.Proofs.Ytnbikaiejeclnaa
open Go.ChangeShapes Go.WideShapes Go.ChangeAt Go.RowKit
set_option linter.unusedVariables false
set_option linter.unusedSimpArgs false

theorem Two.new (w : World) (T T' : TypeId) : Two w ((w.alloc (.cells #[.slice none 0 0, .slice none 0 0] T)).alloc (.cells #[.slice none 0 0, .slice none 0 0] T')) w.heap.size (w.heap.size + 1) ([], []) ([], []) (· = w.heap.size) (· = w.heap.size + 1) := by
  have h1 := Live.new w T
  have hz : (w.alloc (.cells #[.slice none 0 0, .slice none 0 0] T)).heap.size = w.heap.size + 1 := by simp
  have h2 : ((w.alloc (.cells #[.slice none 0 0, .slice none 0 0] T)).alloc (.cells #[.slice none 0 0, .slice none 0 0] T')).heap[w.heap.size + 1]? = some (.cells #[.slice none 0 0, .slice none 0 0] T') := by
    have := heap_alloc_new (w.alloc (.cells #[.slice none 0 0, .slice none 0 0] T)) (.cells #[.slice none 0 0, .slice none 0 0] T')
    rwa [hz] at this
  exact ⟨h1.net.upd (Upd.ofBelow (F := fun _ => False) (below_alloc _ _)) (fun _ _ h => h), NetAt.new (by omega) h2, fun j hj hk => by omega, h1.bel.alloc (by rw [hz]; omega) _⟩

theorem near_any (x : Int) (m : Nat) (hm : m ≤ 1000000) (w : World) : ∃ r : Int, I64 r ∧ Calls Try.prog 20 #[.int .i64 x, .int .i64 m] w fun e w' => e = .returned (.int .i64 r) ∧ w = w' := by
  obtain ⟨r, hr1, hr2, hr3⟩ := mod_int x ((m : Int) + 3) (by omega)
  refine ⟨r - 1, ⟨by omega, by omega⟩, ?_⟩
  have H := Lib.hid (fun w => number_int x ((m : Int) + 3) r hr1 (by omega) (by omega) w)
  clear hr1
  go_enter Try.func20, Try.ntmps20
  go_wp2_with fail
  refine (H.out _).mono ?_
  rintro e w' ⟨rfl, rfl⟩
  go_wp2
  go_ret
  exact ⟨rfl, rfl⟩

set_option maxRecDepth 100000 in
set_option maxHeartbeats 40000000 in
theorem netplays_law (a : Option Addr) (n c : Nat) (ds : List DoV) (raw : Bool) (w : World) (hr : RdDo w a n c ds) :
    Calls Try.prog 6 #[.slice a n c, .bool raw] w fun e w' => e = .returned (.bool true) ∧ Below w.heap.size w w' := by
  obtain rfl : ds.length = n := hr.1
  have hcap := hr.2.1
  have h63 := hr.2.2.1
  unfold maxLen at h63
  by_cases h60 : (60 : Int) < (ds.length : Int)
  · go_enter Try.func6, Try.ntmps6
    go_wp2_with fail
    refine (nfirst_any _).mono ?_
    rintro e w1 ⟨rfl, hb1⟩
    go_wp2_with fail
    go_ret
    exact ⟨rfl, hb1⟩
  have h60' : (ds.length : Int) ≤ 60 := by omega
  clear h60
  go_enter Try.func6, Try.ntmps6
  go_wp2_with fail
  refine (nfirst_any _).mono ?_
  rintro e w1 ⟨rfl, hb1⟩
  go_wp2_with fail
  refine (netnew _).mono ?_
  rintro e w2 ⟨rfl, rfl⟩
  have hT0 := Two.new w1 52 44
  go_wp2_with fail
  generalize (w1.alloc (.cells #[.slice none 0 0, .slice none 0 0] 52)).alloc (.cells #[.slice none 0 0, .slice none 0 0] 44) = w2 at *
  obtain ⟨p, hp⟩ : ∃ p, w1.heap.size = p := ⟨_, rfl⟩
  obtain ⟨q, hq⟩ : ∃ q, w1.heap.size + 1 = q := ⟨_, rfl⟩
  rw [hq]
  rw [hp]
  rw [hq, hp] at hT0
  have HP := Lib.hid hp
  clear hp hq
  go_loopw [8, 9] (fun u8 u9 wr => ∃ (j : Nat) (S : St) (F G : Nat → Prop), j ≤ ds.length ∧ u8 = .int .i64 j ∧ Two w1 wr p q S S F G ∧ Small S) (fun u8 _ _ => ds.length - (intOf u8).toNat)
  case atStart => exact ⟨0, _, _, _, Nat.zero_le _, rfl, hT0, fun k => by unfold rowS rowOf; split <;> simp⟩
  case round =>
    obtain ⟨j, S, F, G, hj, rfl, hT, hS⟩ := hrel
    have HS := Lib.hid hS
    clear hS
    by_cases hlt : j < ds.length
    · obtain ⟨B, off, rfl, hd, hRd⟩ : ∃ B off, a = some ⟨B, off, none⟩ ∧ DoAt wr B (off + j * 6) ds[j] ∧ RdB w1 ds[j].a ds[j].n ds[j].c ds[j].l := by
        rcases hr.2.2.2 with h0 | ⟨B, off, ha, hd⟩
        · omega
        · exact ⟨B, off, ha, ((hd j _ (List.getElem?_eq_getElem hlt)).mono hb1).mono hT.bel, ((hd j _ (List.getElem?_eq_getElem hlt)).mono hb1).rd⟩
      generalize hdd : ds[j] = d at hd hRd
      clear hdd
      obtain ⟨k, y, i, t, b, da, dn, dc, l⟩ := d
      have c0 := hd.d0
      have c1 := hd.d1
      have c2 := hd.d2
      have c3 := hd.d3
      have c4 := hd.d4
      have c5 := hd.d5
      have hrd := Lib.hid hRd
      clear hd hRd
      have hX := Box.new wr 46 k y i t b da dn dc
      have hT1 := hT.ahead (below_alloc wr (.cells #[.int .i64 k, .int .i64 y, .int .i64 i, .int .i64 t, .int .u8 b, .slice da dn dc] 46))
      have hFr : (wr.alloc (.cells #[.int .i64 k, .int .i64 y, .int .i64 i, .int .i64 t, .int .u8 b, .slice da dn dc] 46)).heap[wr.heap.size]? = some (.cells #[.int .i64 k, .int .i64 y, .int .i64 i, .int .i64 t, .int .u8 b, .slice da dn dc] 46) := heap_alloc_new wr _
      have hDF : ¬ F wr.heap.size := fun h => by have := (hT.net1.mem h).2; omega
      have hDG : ¬ G wr.heap.size := fun h => by have := (hT.net2.mem h).2; omega
      have hDw := hT.bel.size
      by_cases h40 : (40 : Int) < (dn : Int)
      · clear hX hT1 hFr
        go_wp2_with fail
        go_ret
        exact ⟨rfl, hb1.trans ((hT.bel.alloc hT.bel.size _).mono hb1.size)⟩
      have h40' : (dn : Int) ≤ 40 := by omega
      clear h40
      cases raw
      · go_wp2_with fail
        have f1 : ∀ j, (wr.alloc (.cells #[.int .i64 k, .int .i64 y, .int .i64 i, .int .i64 t, .int .u8 b, .slice da dn dc] 46)).frozen? ⟨wr.heap.size, j, none⟩ = false := fun j => free_of_heap hFr j
        have g1 := f1 1
        have g2 := f1 2
        have g3 := f1 3
        generalize hD : wr.heap.size = D at *
        generalize wr.alloc (.cells #[.int .i64 k, .int .i64 y, .int .i64 i, .int .i64 t, .int .u8 b, .slice da dn dc] 46) = X1 at *
        have e1 := hX.d1
        have e2 := hX.d2
        have e3 := hX.d3
        obtain ⟨y', hy1, hy2, hy3⟩ := mod_int y 2 (by omega)
        have HY := Lib.hid (fun w => number_int y 2 y' hy1 (by omega) (by omega) w)
        have hT2 := hT1.ahead (below_drew X1)
        obtain ⟨m, hm1, hm2⟩ : ∃ m : Nat, (if isW y = true then ((rowS S y).length : Int) else 0) = m ∧ m ≤ 32 := by
          have := (HS.out y).1
          split
          · exact ⟨_, rfl, this⟩
          · exact ⟨0, rfl, by omega⟩
        have hLn := r_len w1.heap.size q S G y X1.drew hT2.net2
        rw [hm1] at hLn
        have HLn := Lib.hid hLn
        obtain ⟨i', hi', hI⟩ := near_any i m (by omega) X1.drew
        have HI := Lib.hid hI
        obtain ⟨t', ht', hTt⟩ := near_any t 8 (by omega) X1.drew
        have HT := Lib.hid hTt
        have hX2 := hX.upd (Upd.ofBelow (F := fun _ => False) (below_drew X1)) (fun h => h)
        have k1 : X1.drew.frozen? ⟨D, 1, none⟩ = false := g1
        have k2 : X1.drew.frozen? ⟨D, 2, none⟩ = false := g2
        have k3 : X1.drew.frozen? ⟨D, 3, none⟩ = false := g3
        have s1 := hX2.d1
        have s2 := hX2.d2
        have s3 := hX2.d3
        clear hy1 hm1 hLn hI hTt
        go_still_tail 14, (by kernel_rfl)
        still_call ((HY.out X1.drew).mono (fun e w' h => ⟨h.1, h.2.symm⟩))
        repeat still_step
        still_call ((HLn.out).mono (fun e w' h => ⟨h.1, h.2.symm⟩))
        repeat still_step
        still_call ((HI.out).mono (fun e w' h => ⟨h.1, h.2.symm⟩))
        repeat still_step
        still_call ((HT.out).mono (fun e w' h => ⟨h.1, h.2.symm⟩))
        repeat still_step
        refine wpStill_nil ?_
        change wpList _ _ _ _ _ X1.drew
        clear hX hFr f1 hT1
        generalize X1.drew = X2 at *
        have hX3 := hX2.set3 (y' := y') (i' := i') (t' := t')
        have hT3 := hT2.upd (set3 X2 D (.int .i64 y') (.int .i64 i') (.int .i64 t')) hDF hDG hDw
        go_wp2_with fail
        generalize ((X2.setCell ⟨D, 1, none⟩ (.int .i64 y')).setCell ⟨D, 2, none⟩ (.int .i64 i')).setCell ⟨D, 3, none⟩ (.int .i64 t') = X3 at *
        clear hT2 hX2 HY HLn HI HT hi' ht' hm2 e1 e2 e3 s1 s2 s3 k1 k2 k3 g1 g2 g3
        rcases (by omega : y' = 0 ∨ y' = 1) with rfl | rfl
        · skip
          have hBx := hX3
          have hTw := hT3
          have b0 := hBx.d0
          have b1 := hBx.d1
          have b2 := hBx.d2
          have b3 := hBx.d3
          have b4 := hBx.d4
          have b5 := hBx.d5
          have hTd := hTw.ahead (below_drew _)
          have hBd := hBx.upd (Upd.ofBelow (F := fun _ => False) (below_drew _)) (fun h => h)
          have hDFG := Lib.hid (show ¬ (F D ∨ G D) from fun h => h.elim hDF hDG)
          have hdn40 : dn ≤ 40 := by omega
          have HPl := Lib.hid (play_any w1 p q S F G k 0 i' t' b da dn dc l X3.drew hTd HS.out hrd.out hdn40)
          clear hBx hTw hTd
          refine wp_region_any (by kernel_rfl) ?_
          change wpAny _ _ _ _ _ _ _ X3.drew
          refine any_take 0 (d := some 57) (v := (.pointer (some ⟨p, 0, none⟩))) rfl rfl (by kernel_rfl) (by kernel_rfl) (by kernel_rfl) (fun _ _ _ h => h) (by kernel_rfl) (fun w => by go_simp) ?_
          try simp only [Act.put, List.setIfInBounds_toArray, List.set_cons_zero, List.set_cons_succ]
          refine any_take 1 (d := some 58) (v := (.pointer (some ⟨q, 0, none⟩))) rfl rfl (by kernel_rfl) (by kernel_rfl) (by kernel_rfl) (fun _ _ _ h => h) (by kernel_rfl) (fun w => by go_simp) ?_
          try simp only [Act.put, List.setIfInBounds_toArray, List.set_cons_zero, List.set_cons_succ]
          refine any_one 2 rfl (by kernel_rfl) (fun K hK => ?_)
          go_simp
          refine hK _ _ ?_
          clear hK K
          try simp only [Act.put, List.setIfInBounds_toArray, List.set_cons_zero, List.set_cons_succ]
          refine any_one 3 rfl (by kernel_rfl) (fun K hK => ?_)
          go_simp
          go_at_call 22
          refine HPl.out.mono ?_
          rintro e w5 ⟨rfl, S', F', G', hT5, hS5, hU5⟩
          go_simp
          refine hK _ _ ?_
          clear hK K
          try simp only [Act.put, List.setIfInBounds_toArray, List.set_cons_zero, List.set_cons_succ]
          obtain ⟨a0, c0', a1, c1', q0, q1⟩ := hT5.net2.cells
          have L0 := Lib.hid (s_len w1.heap.size p S' F' 0 w5 hT5.net1)
          have L1 := Lib.hid (s_len w1.heap.size p S' F' 1 w5 hT5.net1)
          have Ly := Lib.hid (s_len w1.heap.size p S' F' 0 w5 hT5.net1)
          have hB5 := hBd.upd hU5 hDFG.out
          have z1 := hB5.d1
          have hT5' := Lib.hid hT5
          have hS5' := Lib.hid hS5
          clear hT5 hS5 hU5 hB5 hBd b0 b1 b2 b3 b4 b5
          refine wpAny_of_held (S := fun w' => w'.cell? ⟨q, 0, none⟩ = some (.slice a0 (rowS S' 0).length c0') ∧ w'.cell? ⟨q, 1, none⟩ = some (.slice a1 (rowS S' 1).length c1') ∧ w'.cell? ⟨D, 1, none⟩ = some (.int .i64 0)) _ _ _ _ ?_
          have hC : w5.cell? ⟨q, 0, none⟩ = some (.slice a0 (rowS S' 0).length c0') ∧ w5.cell? ⟨q, 1, none⟩ = some (.slice a1 (rowS S' 1).length c1') ∧ w5.cell? ⟨D, 1, none⟩ = some (.int .i64 0) := ⟨q0, q1, z1⟩
          clear q0 q1 z1
          refine held_take 4 (d := some 61) (v := (.bool false)) rfl rfl (by kernel_rfl) (by kernel_rfl) (by kernel_rfl) (fun _ _ _ h => h) hC (by kernel_rfl) (fun w hSw => by obtain ⟨x0, x1, x2⟩ := hSw; go_simp) ?_
          try simp only [Act.put, List.setIfInBounds_toArray, List.set_cons_zero, List.set_cons_succ]
          refine held_take 5 (d := some 62) (v := (.bool false)) rfl rfl (by kernel_rfl) (by kernel_rfl) (by kernel_rfl) (fun _ _ _ h => h) hC (by kernel_rfl) (fun w hSw => by obtain ⟨x0, x1, x2⟩ := hSw; go_simp) ?_
          try simp only [Act.put, List.setIfInBounds_toArray, List.set_cons_zero, List.set_cons_succ]
          refine held_take 6 (d := some 63) (v := (.pointer (some ⟨p, 0, none⟩))) rfl rfl (by kernel_rfl) (by kernel_rfl) (by kernel_rfl) (fun _ _ _ h => h) hC (by kernel_rfl) (fun w hSw => by obtain ⟨x0, x1, x2⟩ := hSw; go_simp) ?_
          try simp only [Act.put, List.setIfInBounds_toArray, List.set_cons_zero, List.set_cons_succ]
          refine held_take 8 (d := some 65) (v := (.pointer (some ⟨q, 0, none⟩))) rfl rfl (by kernel_rfl) (by kernel_rfl) (by kernel_rfl) (fun _ _ _ h => h) hC (by kernel_rfl) (fun w hSw => by obtain ⟨x0, x1, x2⟩ := hSw; go_simp) ?_
          try simp only [Act.put, List.setIfInBounds_toArray, List.set_cons_zero, List.set_cons_succ]
          refine held_take 9 (d := some 66) (v := (.pointer (some ⟨q, 0, none⟩))) rfl rfl (by kernel_rfl) (by kernel_rfl) (by kernel_rfl) (fun _ _ _ h => h) hC (by kernel_rfl) (fun w hSw => by obtain ⟨x0, x1, x2⟩ := hSw; go_simp) ?_
          try simp only [Act.put, List.setIfInBounds_toArray, List.set_cons_zero, List.set_cons_succ]
          refine held_take 10 (d := some 67) (v := (.pointer (some ⟨q, 0, none⟩))) rfl rfl (by kernel_rfl) (by kernel_rfl) (by kernel_rfl) (fun _ _ _ h => h) hC (by kernel_rfl) (fun w hSw => by obtain ⟨x0, x1, x2⟩ := hSw; go_simp) ?_
          try simp only [Act.put, List.setIfInBounds_toArray, List.set_cons_zero, List.set_cons_succ]
          refine held_take 11 (d := some 68) (v := (.pointer (some ⟨q, 0, none⟩))) rfl rfl (by kernel_rfl) (by kernel_rfl) (by kernel_rfl) (fun _ _ _ h => h) hC (by kernel_rfl) (fun w hSw => by obtain ⟨x0, x1, x2⟩ := hSw; go_simp) ?_
          try simp only [Act.put, List.setIfInBounds_toArray, List.set_cons_zero, List.set_cons_succ]
          refine held_take 12 (d := some 69) (v := (.slice a0 (rowS S' 0).length c0')) rfl rfl (by kernel_rfl) (by kernel_rfl) (by kernel_rfl) (fun _ _ _ h => h) hC (by kernel_rfl) (fun w hSw => by obtain ⟨x0, x1, x2⟩ := hSw; go_simp) ?_
          try simp only [Act.put, List.setIfInBounds_toArray, List.set_cons_zero, List.set_cons_succ]
          refine held_take 13 (d := some 70) (v := (.int .i64 (rowS S' 0).length)) rfl rfl (by kernel_rfl) (by kernel_rfl) (by kernel_rfl) (fun _ _ _ h => h) hC (by kernel_rfl) (fun w hSw => by obtain ⟨x0, x1, x2⟩ := hSw; go_simp) ?_
          try simp only [Act.put, List.setIfInBounds_toArray, List.set_cons_zero, List.set_cons_succ]
          refine held_one 7 rfl (by kernel_rfl) (fun K hK => ?_)
          go_simp
          go_at_call 14
          refine L0.out.mono ?_
          rintro e w6 ⟨rfl, rfl⟩
          rw [if_pos (show isW 0 = true from rfl)]
          go_simp
          refine hK _ _ hC ?_
          clear hK K
          try simp only [Act.put, List.setIfInBounds_toArray, List.set_cons_zero, List.set_cons_succ]
          refine held_take 14 (d := some 71) (v := (.bool false)) rfl rfl (by kernel_rfl) (by kernel_rfl) (by kernel_rfl) (fun _ _ _ h => h) hC (by kernel_rfl) (fun w hSw => by obtain ⟨x0, x1, x2⟩ := hSw; go_simp) ?_
          try simp only [Act.put, List.setIfInBounds_toArray, List.set_cons_zero, List.set_cons_succ]
          refine held_take 15 (d := some 72) (v := (.bool false)) rfl rfl (by kernel_rfl) (by kernel_rfl) (by kernel_rfl) (fun _ _ _ h => h) hC (by kernel_rfl) (fun w hSw => by obtain ⟨x0, x1, x2⟩ := hSw; go_simp) ?_
          try simp only [Act.put, List.setIfInBounds_toArray, List.set_cons_zero, List.set_cons_succ]
          refine held_take 16 (d := some 73) (v := (.bool false)) rfl rfl (by kernel_rfl) (by kernel_rfl) (by kernel_rfl) (fun _ _ _ h => h) hC (by kernel_rfl) (fun w hSw => by obtain ⟨x0, x1, x2⟩ := hSw; go_simp) ?_
          try simp only [Act.put, List.setIfInBounds_toArray, List.set_cons_zero, List.set_cons_succ]
          refine held_take 17 (d := some 74) (v := (.pointer (some ⟨p, 0, none⟩))) rfl rfl (by kernel_rfl) (by kernel_rfl) (by kernel_rfl) (fun _ _ _ h => h) hC (by kernel_rfl) (fun w hSw => by obtain ⟨x0, x1, x2⟩ := hSw; go_simp) ?_
          try simp only [Act.put, List.setIfInBounds_toArray, List.set_cons_zero, List.set_cons_succ]
          refine held_take 19 (d := some 76) (v := (.pointer (some ⟨q, 0, none⟩))) rfl rfl (by kernel_rfl) (by kernel_rfl) (by kernel_rfl) (fun _ _ _ h => h) hC (by kernel_rfl) (fun w hSw => by obtain ⟨x0, x1, x2⟩ := hSw; go_simp) ?_
          try simp only [Act.put, List.setIfInBounds_toArray, List.set_cons_zero, List.set_cons_succ]
          refine held_take 20 (d := some 77) (v := (.pointer (some ⟨q, 0, none⟩))) rfl rfl (by kernel_rfl) (by kernel_rfl) (by kernel_rfl) (fun _ _ _ h => h) hC (by kernel_rfl) (fun w hSw => by obtain ⟨x0, x1, x2⟩ := hSw; go_simp) ?_
          try simp only [Act.put, List.setIfInBounds_toArray, List.set_cons_zero, List.set_cons_succ]
          refine held_take 21 (d := some 78) (v := (.pointer (some ⟨q, 0, none⟩))) rfl rfl (by kernel_rfl) (by kernel_rfl) (by kernel_rfl) (fun _ _ _ h => h) hC (by kernel_rfl) (fun w hSw => by obtain ⟨x0, x1, x2⟩ := hSw; go_simp) ?_
          try simp only [Act.put, List.setIfInBounds_toArray, List.set_cons_zero, List.set_cons_succ]
          refine held_take 22 (d := some 79) (v := (.pointer (some ⟨q, 1, none⟩))) rfl rfl (by kernel_rfl) (by kernel_rfl) (by kernel_rfl) (fun _ _ _ h => h) hC (by kernel_rfl) (fun w hSw => by obtain ⟨x0, x1, x2⟩ := hSw; go_simp) ?_
          try simp only [Act.put, List.setIfInBounds_toArray, List.set_cons_zero, List.set_cons_succ]
          refine held_take 23 (d := some 80) (v := (.slice a1 (rowS S' 1).length c1')) rfl rfl (by kernel_rfl) (by kernel_rfl) (by kernel_rfl) (fun _ _ _ h => h) hC (by kernel_rfl) (fun w hSw => by obtain ⟨x0, x1, x2⟩ := hSw; go_simp) ?_
          try simp only [Act.put, List.setIfInBounds_toArray, List.set_cons_zero, List.set_cons_succ]
          refine held_take 24 (d := some 81) (v := (.int .i64 (rowS S' 1).length)) rfl rfl (by kernel_rfl) (by kernel_rfl) (by kernel_rfl) (fun _ _ _ h => h) hC (by kernel_rfl) (fun w hSw => by obtain ⟨x0, x1, x2⟩ := hSw; go_simp) ?_
          try simp only [Act.put, List.setIfInBounds_toArray, List.set_cons_zero, List.set_cons_succ]
          refine held_one 18 rfl (by kernel_rfl) (fun K hK => ?_)
          go_simp
          go_at_call 14
          refine L1.out.mono ?_
          rintro e w6 ⟨rfl, rfl⟩
          rw [if_pos (show isW 1 = true from rfl)]
          go_simp
          refine hK _ _ hC ?_
          clear hK K
          try simp only [Act.put, List.setIfInBounds_toArray, List.set_cons_zero, List.set_cons_succ]
          refine held_take 25 (d := some 82) (v := (.bool false)) rfl rfl (by kernel_rfl) (by kernel_rfl) (by kernel_rfl) (fun _ _ _ h => h) hC (by kernel_rfl) (fun w hSw => by obtain ⟨x0, x1, x2⟩ := hSw; go_simp) ?_
          try simp only [Act.put, List.setIfInBounds_toArray, List.set_cons_zero, List.set_cons_succ]
          refine held_take 26 (d := some 83) (v := (.bool false)) rfl rfl (by kernel_rfl) (by kernel_rfl) (by kernel_rfl) (fun _ _ _ h => h) hC (by kernel_rfl) (fun w hSw => by obtain ⟨x0, x1, x2⟩ := hSw; go_simp) ?_
          try simp only [Act.put, List.setIfInBounds_toArray, List.set_cons_zero, List.set_cons_succ]
          refine held_take 27 (d := some 84) (v := (.bool false)) rfl rfl (by kernel_rfl) (by kernel_rfl) (by kernel_rfl) (fun _ _ _ h => h) hC (by kernel_rfl) (fun w hSw => by obtain ⟨x0, x1, x2⟩ := hSw; go_simp) ?_
          try simp only [Act.put, List.setIfInBounds_toArray, List.set_cons_zero, List.set_cons_succ]
          refine held_take 28 (d := some 85) (v := (.pointer (some ⟨D, 1, none⟩))) rfl rfl (by kernel_rfl) (by kernel_rfl) (by kernel_rfl) (fun _ _ _ h => h) hC (by kernel_rfl) (fun w hSw => by obtain ⟨x0, x1, x2⟩ := hSw; go_simp) ?_
          try simp only [Act.put, List.setIfInBounds_toArray, List.set_cons_zero, List.set_cons_succ]
          refine held_take 29 (d := some 86) (v := (.int .i64 0)) rfl rfl (by kernel_rfl) (by kernel_rfl) (by kernel_rfl) (fun _ _ _ h => h) hC (by kernel_rfl) (fun w hSw => by obtain ⟨x0, x1, x2⟩ := hSw; go_simp) ?_
          try simp only [Act.put, List.setIfInBounds_toArray, List.set_cons_zero, List.set_cons_succ]
          refine held_take 30 (d := some 87) (v := (.bool false)) rfl rfl (by kernel_rfl) (by kernel_rfl) (by kernel_rfl) (fun _ _ _ h => h) hC (by kernel_rfl) (fun w hSw => by obtain ⟨x0, x1, x2⟩ := hSw; go_simp) ?_
          try simp only [Act.put, List.setIfInBounds_toArray, List.set_cons_zero, List.set_cons_succ]
          refine held_take 31 (d := some 88) (v := (.bool false)) rfl rfl (by kernel_rfl) (by kernel_rfl) (by kernel_rfl) (fun _ _ _ h => h) hC (by kernel_rfl) (fun w hSw => by obtain ⟨x0, x1, x2⟩ := hSw; go_simp) ?_
          try simp only [Act.put, List.setIfInBounds_toArray, List.set_cons_zero, List.set_cons_succ]
          refine held_skip 32 (d := some 89) rfl rfl (by kernel_rfl) (by kernel_rfl) (by kernel_rfl) (fun _ _ _ h => h) hC (by kernel_rfl) ?_
          try simp only [Act.put, List.setIfInBounds_toArray, List.set_cons_zero, List.set_cons_succ]
          refine held_skip 33 (d := some 90) rfl rfl (by kernel_rfl) (by kernel_rfl) (by kernel_rfl) (fun _ _ _ h => h) hC (by kernel_rfl) ?_
          try simp only [Act.put, List.setIfInBounds_toArray, List.set_cons_zero, List.set_cons_succ]
          refine held_skip 34 (d := some 91) rfl rfl (by kernel_rfl) (by kernel_rfl) (by kernel_rfl) (fun _ _ _ h => h) hC (by kernel_rfl) ?_
          try simp only [Act.put, List.setIfInBounds_toArray, List.set_cons_zero, List.set_cons_succ]
          refine held_take 35 (d := some 92) (v := (.bool false)) rfl rfl (by kernel_rfl) (by kernel_rfl) (by kernel_rfl) (fun _ _ _ h => h) hC (by kernel_rfl) (fun w hSw => by obtain ⟨x0, x1, x2⟩ := hSw; go_simp) ?_
          try simp only [Act.put, List.setIfInBounds_toArray, List.set_cons_zero, List.set_cons_succ]
          refine held_take 36 (d := some 93) (v := (.bool false)) rfl rfl (by kernel_rfl) (by kernel_rfl) (by kernel_rfl) (fun _ _ _ h => h) hC (by kernel_rfl) (fun w hSw => by obtain ⟨x0, x1, x2⟩ := hSw; go_simp) ?_
          try simp only [Act.put, List.setIfInBounds_toArray, List.set_cons_zero, List.set_cons_succ]
          refine held_skip 37 (d := some 94) rfl rfl (by kernel_rfl) (by kernel_rfl) (by kernel_rfl) (fun _ _ _ h => h) hC (by kernel_rfl) ?_
          try simp only [Act.put, List.setIfInBounds_toArray, List.set_cons_zero, List.set_cons_succ]
          refine held_skip 38 (d := some 95) rfl rfl (by kernel_rfl) (by kernel_rfl) (by kernel_rfl) (fun _ _ _ h => h) hC (by kernel_rfl) ?_
          try simp only [Act.put, List.setIfInBounds_toArray, List.set_cons_zero, List.set_cons_succ]
          refine held_skip 39 (d := some 96) rfl rfl (by kernel_rfl) (by kernel_rfl) (by kernel_rfl) (fun _ _ _ h => h) hC (by kernel_rfl) ?_
          try simp only [Act.put, List.setIfInBounds_toArray, List.set_cons_zero, List.set_cons_succ]
          refine held_skip 40 (d := some 97) rfl rfl (by kernel_rfl) (by kernel_rfl) (by kernel_rfl) (fun _ _ _ h => h) hC (by kernel_rfl) ?_
          try simp only [Act.put, List.setIfInBounds_toArray, List.set_cons_zero, List.set_cons_succ]
          refine held_skip 41 (d := some 98) rfl rfl (by kernel_rfl) (by kernel_rfl) (by kernel_rfl) (fun _ _ _ h => h) hC (by kernel_rfl) ?_
          try simp only [Act.put, List.setIfInBounds_toArray, List.set_cons_zero, List.set_cons_succ]
          refine held_take 42 (d := some 99) (v := (.bool false)) rfl rfl (by kernel_rfl) (by kernel_rfl) (by kernel_rfl) (fun _ _ _ h => h) hC (by kernel_rfl) (fun w hSw => by obtain ⟨x0, x1, x2⟩ := hSw; go_simp) ?_
          try simp only [Act.put, List.setIfInBounds_toArray, List.set_cons_zero, List.set_cons_succ]
          refine held_take 43 (d := some 100) (v := (.bool false)) rfl rfl (by kernel_rfl) (by kernel_rfl) (by kernel_rfl) (fun _ _ _ h => h) hC (by kernel_rfl) (fun w hSw => by obtain ⟨x0, x1, x2⟩ := hSw; go_simp) ?_
          try simp only [Act.put, List.setIfInBounds_toArray, List.set_cons_zero, List.set_cons_succ]
          refine wpAnyH_done (by kernel_rfl) ?_ _
          go_wp2_with fail
          go_roundw
          case rel => exact ⟨j + 1, S', F', G', by omega, by go_num, hT5'.out, hS5'.out⟩
          case measure => simp [intOf]; omega
        · skip
          have hBx := hX3
          have hTw := hT3
          have b0 := hBx.d0
          have b1 := hBx.d1
          have b2 := hBx.d2
          have b3 := hBx.d3
          have b4 := hBx.d4
          have b5 := hBx.d5
          have hTd := hTw.ahead (below_drew _)
          have hBd := hBx.upd (Upd.ofBelow (F := fun _ => False) (below_drew _)) (fun h => h)
          have hDFG := Lib.hid (show ¬ (F D ∨ G D) from fun h => h.elim hDF hDG)
          have hdn40 : dn ≤ 40 := by omega
          have HPl := Lib.hid (play_any w1 p q S F G k 1 i' t' b da dn dc l X3.drew hTd HS.out hrd.out hdn40)
          clear hBx hTw hTd
          refine wp_region_any (by kernel_rfl) ?_
          change wpAny _ _ _ _ _ _ _ X3.drew
          refine any_take 0 (d := some 57) (v := (.pointer (some ⟨p, 0, none⟩))) rfl rfl (by kernel_rfl) (by kernel_rfl) (by kernel_rfl) (fun _ _ _ h => h) (by kernel_rfl) (fun w => by go_simp) ?_
          try simp only [Act.put, List.setIfInBounds_toArray, List.set_cons_zero, List.set_cons_succ]
          refine any_take 1 (d := some 58) (v := (.pointer (some ⟨q, 0, none⟩))) rfl rfl (by kernel_rfl) (by kernel_rfl) (by kernel_rfl) (fun _ _ _ h => h) (by kernel_rfl) (fun w => by go_simp) ?_
          try simp only [Act.put, List.setIfInBounds_toArray, List.set_cons_zero, List.set_cons_succ]
          refine any_one 2 rfl (by kernel_rfl) (fun K hK => ?_)
          go_simp
          refine hK _ _ ?_
          clear hK K
          try simp only [Act.put, List.setIfInBounds_toArray, List.set_cons_zero, List.set_cons_succ]
          refine any_one 3 rfl (by kernel_rfl) (fun K hK => ?_)
          go_simp
          go_at_call 22
          refine HPl.out.mono ?_
          rintro e w5 ⟨rfl, S', F', G', hT5, hS5, hU5⟩
          go_simp
          refine hK _ _ ?_
          clear hK K
          try simp only [Act.put, List.setIfInBounds_toArray, List.set_cons_zero, List.set_cons_succ]
          obtain ⟨a0, c0', a1, c1', q0, q1⟩ := hT5.net2.cells
          have L0 := Lib.hid (s_len w1.heap.size p S' F' 0 w5 hT5.net1)
          have L1 := Lib.hid (s_len w1.heap.size p S' F' 1 w5 hT5.net1)
          have Ly := Lib.hid (s_len w1.heap.size p S' F' 1 w5 hT5.net1)
          have hB5 := hBd.upd hU5 hDFG.out
          have z1 := hB5.d1
          have hT5' := Lib.hid hT5
          have hS5' := Lib.hid hS5
          clear hT5 hS5 hU5 hB5 hBd b0 b1 b2 b3 b4 b5
          refine wpAny_of_held (S := fun w' => w'.cell? ⟨q, 0, none⟩ = some (.slice a0 (rowS S' 0).length c0') ∧ w'.cell? ⟨q, 1, none⟩ = some (.slice a1 (rowS S' 1).length c1') ∧ w'.cell? ⟨D, 1, none⟩ = some (.int .i64 1)) _ _ _ _ ?_
          have hC : w5.cell? ⟨q, 0, none⟩ = some (.slice a0 (rowS S' 0).length c0') ∧ w5.cell? ⟨q, 1, none⟩ = some (.slice a1 (rowS S' 1).length c1') ∧ w5.cell? ⟨D, 1, none⟩ = some (.int .i64 1) := ⟨q0, q1, z1⟩
          clear q0 q1 z1
          refine held_take 4 (d := some 61) (v := (.bool false)) rfl rfl (by kernel_rfl) (by kernel_rfl) (by kernel_rfl) (fun _ _ _ h => h) hC (by kernel_rfl) (fun w hSw => by obtain ⟨x0, x1, x2⟩ := hSw; go_simp) ?_
          try simp only [Act.put, List.setIfInBounds_toArray, List.set_cons_zero, List.set_cons_succ]
          refine held_take 5 (d := some 62) (v := (.bool false)) rfl rfl (by kernel_rfl) (by kernel_rfl) (by kernel_rfl) (fun _ _ _ h => h) hC (by kernel_rfl) (fun w hSw => by obtain ⟨x0, x1, x2⟩ := hSw; go_simp) ?_
          try simp only [Act.put, List.setIfInBounds_toArray, List.set_cons_zero, List.set_cons_succ]
          refine held_take 6 (d := some 63) (v := (.pointer (some ⟨p, 0, none⟩))) rfl rfl (by kernel_rfl) (by kernel_rfl) (by kernel_rfl) (fun _ _ _ h => h) hC (by kernel_rfl) (fun w hSw => by obtain ⟨x0, x1, x2⟩ := hSw; go_simp) ?_
          try simp only [Act.put, List.setIfInBounds_toArray, List.set_cons_zero, List.set_cons_succ]
          refine held_take 8 (d := some 65) (v := (.pointer (some ⟨q, 0, none⟩))) rfl rfl (by kernel_rfl) (by kernel_rfl) (by kernel_rfl) (fun _ _ _ h => h) hC (by kernel_rfl) (fun w hSw => by obtain ⟨x0, x1, x2⟩ := hSw; go_simp) ?_
          try simp only [Act.put, List.setIfInBounds_toArray, List.set_cons_zero, List.set_cons_succ]
          refine held_take 9 (d := some 66) (v := (.pointer (some ⟨q, 0, none⟩))) rfl rfl (by kernel_rfl) (by kernel_rfl) (by kernel_rfl) (fun _ _ _ h => h) hC (by kernel_rfl) (fun w hSw => by obtain ⟨x0, x1, x2⟩ := hSw; go_simp) ?_
          try simp only [Act.put, List.setIfInBounds_toArray, List.set_cons_zero, List.set_cons_succ]
          refine held_take 10 (d := some 67) (v := (.pointer (some ⟨q, 0, none⟩))) rfl rfl (by kernel_rfl) (by kernel_rfl) (by kernel_rfl) (fun _ _ _ h => h) hC (by kernel_rfl) (fun w hSw => by obtain ⟨x0, x1, x2⟩ := hSw; go_simp) ?_
          try simp only [Act.put, List.setIfInBounds_toArray, List.set_cons_zero, List.set_cons_succ]
          refine held_take 11 (d := some 68) (v := (.pointer (some ⟨q, 0, none⟩))) rfl rfl (by kernel_rfl) (by kernel_rfl) (by kernel_rfl) (fun _ _ _ h => h) hC (by kernel_rfl) (fun w hSw => by obtain ⟨x0, x1, x2⟩ := hSw; go_simp) ?_
          try simp only [Act.put, List.setIfInBounds_toArray, List.set_cons_zero, List.set_cons_succ]
          refine held_take 12 (d := some 69) (v := (.slice a0 (rowS S' 0).length c0')) rfl rfl (by kernel_rfl) (by kernel_rfl) (by kernel_rfl) (fun _ _ _ h => h) hC (by kernel_rfl) (fun w hSw => by obtain ⟨x0, x1, x2⟩ := hSw; go_simp) ?_
          try simp only [Act.put, List.setIfInBounds_toArray, List.set_cons_zero, List.set_cons_succ]
          refine held_take 13 (d := some 70) (v := (.int .i64 (rowS S' 0).length)) rfl rfl (by kernel_rfl) (by kernel_rfl) (by kernel_rfl) (fun _ _ _ h => h) hC (by kernel_rfl) (fun w hSw => by obtain ⟨x0, x1, x2⟩ := hSw; go_simp) ?_
          try simp only [Act.put, List.setIfInBounds_toArray, List.set_cons_zero, List.set_cons_succ]
          refine held_one 7 rfl (by kernel_rfl) (fun K hK => ?_)
          go_simp
          go_at_call 14
          refine L0.out.mono ?_
          rintro e w6 ⟨rfl, rfl⟩
          rw [if_pos (show isW 0 = true from rfl)]
          go_simp
          refine hK _ _ hC ?_
          clear hK K
          try simp only [Act.put, List.setIfInBounds_toArray, List.set_cons_zero, List.set_cons_succ]
          refine held_take 14 (d := some 71) (v := (.bool false)) rfl rfl (by kernel_rfl) (by kernel_rfl) (by kernel_rfl) (fun _ _ _ h => h) hC (by kernel_rfl) (fun w hSw => by obtain ⟨x0, x1, x2⟩ := hSw; go_simp) ?_
          try simp only [Act.put, List.setIfInBounds_toArray, List.set_cons_zero, List.set_cons_succ]
          refine held_take 15 (d := some 72) (v := (.bool false)) rfl rfl (by kernel_rfl) (by kernel_rfl) (by kernel_rfl) (fun _ _ _ h => h) hC (by kernel_rfl) (fun w hSw => by obtain ⟨x0, x1, x2⟩ := hSw; go_simp) ?_
          try simp only [Act.put, List.setIfInBounds_toArray, List.set_cons_zero, List.set_cons_succ]
          refine held_take 16 (d := some 73) (v := (.bool false)) rfl rfl (by kernel_rfl) (by kernel_rfl) (by kernel_rfl) (fun _ _ _ h => h) hC (by kernel_rfl) (fun w hSw => by obtain ⟨x0, x1, x2⟩ := hSw; go_simp) ?_
          try simp only [Act.put, List.setIfInBounds_toArray, List.set_cons_zero, List.set_cons_succ]
          refine held_take 17 (d := some 74) (v := (.pointer (some ⟨p, 0, none⟩))) rfl rfl (by kernel_rfl) (by kernel_rfl) (by kernel_rfl) (fun _ _ _ h => h) hC (by kernel_rfl) (fun w hSw => by obtain ⟨x0, x1, x2⟩ := hSw; go_simp) ?_
          try simp only [Act.put, List.setIfInBounds_toArray, List.set_cons_zero, List.set_cons_succ]
          refine held_take 19 (d := some 76) (v := (.pointer (some ⟨q, 0, none⟩))) rfl rfl (by kernel_rfl) (by kernel_rfl) (by kernel_rfl) (fun _ _ _ h => h) hC (by kernel_rfl) (fun w hSw => by obtain ⟨x0, x1, x2⟩ := hSw; go_simp) ?_
          try simp only [Act.put, List.setIfInBounds_toArray, List.set_cons_zero, List.set_cons_succ]
          refine held_take 20 (d := some 77) (v := (.pointer (some ⟨q, 0, none⟩))) rfl rfl (by kernel_rfl) (by kernel_rfl) (by kernel_rfl) (fun _ _ _ h => h) hC (by kernel_rfl) (fun w hSw => by obtain ⟨x0, x1, x2⟩ := hSw; go_simp) ?_
          try simp only [Act.put, List.setIfInBounds_toArray, List.set_cons_zero, List.set_cons_succ]
          refine held_take 21 (d := some 78) (v := (.pointer (some ⟨q, 0, none⟩))) rfl rfl (by kernel_rfl) (by kernel_rfl) (by kernel_rfl) (fun _ _ _ h => h) hC (by kernel_rfl) (fun w hSw => by obtain ⟨x0, x1, x2⟩ := hSw; go_simp) ?_
          try simp only [Act.put, List.setIfInBounds_toArray, List.set_cons_zero, List.set_cons_succ]
          refine held_take 22 (d := some 79) (v := (.pointer (some ⟨q, 1, none⟩))) rfl rfl (by kernel_rfl) (by kernel_rfl) (by kernel_rfl) (fun _ _ _ h => h) hC (by kernel_rfl) (fun w hSw => by obtain ⟨x0, x1, x2⟩ := hSw; go_simp) ?_
          try simp only [Act.put, List.setIfInBounds_toArray, List.set_cons_zero, List.set_cons_succ]
          refine held_take 23 (d := some 80) (v := (.slice a1 (rowS S' 1).length c1')) rfl rfl (by kernel_rfl) (by kernel_rfl) (by kernel_rfl) (fun _ _ _ h => h) hC (by kernel_rfl) (fun w hSw => by obtain ⟨x0, x1, x2⟩ := hSw; go_simp) ?_
          try simp only [Act.put, List.setIfInBounds_toArray, List.set_cons_zero, List.set_cons_succ]
          refine held_take 24 (d := some 81) (v := (.int .i64 (rowS S' 1).length)) rfl rfl (by kernel_rfl) (by kernel_rfl) (by kernel_rfl) (fun _ _ _ h => h) hC (by kernel_rfl) (fun w hSw => by obtain ⟨x0, x1, x2⟩ := hSw; go_simp) ?_
          try simp only [Act.put, List.setIfInBounds_toArray, List.set_cons_zero, List.set_cons_succ]
          refine held_one 18 rfl (by kernel_rfl) (fun K hK => ?_)
          go_simp
          go_at_call 14
          refine L1.out.mono ?_
          rintro e w6 ⟨rfl, rfl⟩
          rw [if_pos (show isW 1 = true from rfl)]
          go_simp
          refine hK _ _ hC ?_
          clear hK K
          try simp only [Act.put, List.setIfInBounds_toArray, List.set_cons_zero, List.set_cons_succ]
          refine held_take 25 (d := some 82) (v := (.bool false)) rfl rfl (by kernel_rfl) (by kernel_rfl) (by kernel_rfl) (fun _ _ _ h => h) hC (by kernel_rfl) (fun w hSw => by obtain ⟨x0, x1, x2⟩ := hSw; go_simp) ?_
          try simp only [Act.put, List.setIfInBounds_toArray, List.set_cons_zero, List.set_cons_succ]
          refine held_take 26 (d := some 83) (v := (.bool false)) rfl rfl (by kernel_rfl) (by kernel_rfl) (by kernel_rfl) (fun _ _ _ h => h) hC (by kernel_rfl) (fun w hSw => by obtain ⟨x0, x1, x2⟩ := hSw; go_simp) ?_
          try simp only [Act.put, List.setIfInBounds_toArray, List.set_cons_zero, List.set_cons_succ]
          refine held_take 27 (d := some 84) (v := (.bool false)) rfl rfl (by kernel_rfl) (by kernel_rfl) (by kernel_rfl) (fun _ _ _ h => h) hC (by kernel_rfl) (fun w hSw => by obtain ⟨x0, x1, x2⟩ := hSw; go_simp) ?_
          try simp only [Act.put, List.setIfInBounds_toArray, List.set_cons_zero, List.set_cons_succ]
          refine held_take 28 (d := some 85) (v := (.pointer (some ⟨D, 1, none⟩))) rfl rfl (by kernel_rfl) (by kernel_rfl) (by kernel_rfl) (fun _ _ _ h => h) hC (by kernel_rfl) (fun w hSw => by obtain ⟨x0, x1, x2⟩ := hSw; go_simp) ?_
          try simp only [Act.put, List.setIfInBounds_toArray, List.set_cons_zero, List.set_cons_succ]
          refine held_take 29 (d := some 86) (v := (.int .i64 1)) rfl rfl (by kernel_rfl) (by kernel_rfl) (by kernel_rfl) (fun _ _ _ h => h) hC (by kernel_rfl) (fun w hSw => by obtain ⟨x0, x1, x2⟩ := hSw; go_simp) ?_
          try simp only [Act.put, List.setIfInBounds_toArray, List.set_cons_zero, List.set_cons_succ]
          refine held_take 30 (d := some 87) (v := (.bool true)) rfl rfl (by kernel_rfl) (by kernel_rfl) (by kernel_rfl) (fun _ _ _ h => h) hC (by kernel_rfl) (fun w hSw => by obtain ⟨x0, x1, x2⟩ := hSw; go_simp) ?_
          try simp only [Act.put, List.setIfInBounds_toArray, List.set_cons_zero, List.set_cons_succ]
          refine held_take 31 (d := some 88) (v := (.bool true)) rfl rfl (by kernel_rfl) (by kernel_rfl) (by kernel_rfl) (fun _ _ _ h => h) hC (by kernel_rfl) (fun w hSw => by obtain ⟨x0, x1, x2⟩ := hSw; go_simp) ?_
          try simp only [Act.put, List.setIfInBounds_toArray, List.set_cons_zero, List.set_cons_succ]
          refine held_take 32 (d := some 89) (v := (.pointer (some ⟨D, 1, none⟩))) rfl rfl (by kernel_rfl) (by kernel_rfl) (by kernel_rfl) (fun _ _ _ h => h) hC (by kernel_rfl) (fun w hSw => by obtain ⟨x0, x1, x2⟩ := hSw; go_simp) ?_
          try simp only [Act.put, List.setIfInBounds_toArray, List.set_cons_zero, List.set_cons_succ]
          refine held_take 33 (d := some 90) (v := (.int .i64 1)) rfl rfl (by kernel_rfl) (by kernel_rfl) (by kernel_rfl) (fun _ _ _ h => h) hC (by kernel_rfl) (fun w hSw => by obtain ⟨x0, x1, x2⟩ := hSw; go_simp) ?_
          try simp only [Act.put, List.setIfInBounds_toArray, List.set_cons_zero, List.set_cons_succ]
          refine held_take 34 (d := some 91) (v := (.bool false)) rfl rfl (by kernel_rfl) (by kernel_rfl) (by kernel_rfl) (fun _ _ _ h => h) hC (by kernel_rfl) (fun w hSw => by obtain ⟨x0, x1, x2⟩ := hSw; go_simp) ?_
          try simp only [Act.put, List.setIfInBounds_toArray, List.set_cons_zero, List.set_cons_succ]
          refine held_take 35 (d := some 92) (v := (.bool false)) rfl rfl (by kernel_rfl) (by kernel_rfl) (by kernel_rfl) (fun _ _ _ h => h) hC (by kernel_rfl) (fun w hSw => by obtain ⟨x0, x1, x2⟩ := hSw; go_simp) ?_
          try simp only [Act.put, List.setIfInBounds_toArray, List.set_cons_zero, List.set_cons_succ]
          refine held_take 36 (d := some 93) (v := (.bool false)) rfl rfl (by kernel_rfl) (by kernel_rfl) (by kernel_rfl) (fun _ _ _ h => h) hC (by kernel_rfl) (fun w hSw => by obtain ⟨x0, x1, x2⟩ := hSw; go_simp) ?_
          try simp only [Act.put, List.setIfInBounds_toArray, List.set_cons_zero, List.set_cons_succ]
          refine held_skip 37 (d := some 94) rfl rfl (by kernel_rfl) (by kernel_rfl) (by kernel_rfl) (fun _ _ _ h => h) hC (by kernel_rfl) ?_
          try simp only [Act.put, List.setIfInBounds_toArray, List.set_cons_zero, List.set_cons_succ]
          refine held_skip 38 (d := some 95) rfl rfl (by kernel_rfl) (by kernel_rfl) (by kernel_rfl) (fun _ _ _ h => h) hC (by kernel_rfl) ?_
          try simp only [Act.put, List.setIfInBounds_toArray, List.set_cons_zero, List.set_cons_succ]
          refine held_skip 39 (d := some 96) rfl rfl (by kernel_rfl) (by kernel_rfl) (by kernel_rfl) (fun _ _ _ h => h) hC (by kernel_rfl) ?_
          try simp only [Act.put, List.setIfInBounds_toArray, List.set_cons_zero, List.set_cons_succ]
          refine held_skip 40 (d := some 97) rfl rfl (by kernel_rfl) (by kernel_rfl) (by kernel_rfl) (fun _ _ _ h => h) hC (by kernel_rfl) ?_
          try simp only [Act.put, List.setIfInBounds_toArray, List.set_cons_zero, List.set_cons_succ]
          refine held_skip 41 (d := some 98) rfl rfl (by kernel_rfl) (by kernel_rfl) (by kernel_rfl) (fun _ _ _ h => h) hC (by kernel_rfl) ?_
          try simp only [Act.put, List.setIfInBounds_toArray, List.set_cons_zero, List.set_cons_succ]
          refine held_take 42 (d := some 99) (v := (.bool false)) rfl rfl (by kernel_rfl) (by kernel_rfl) (by kernel_rfl) (fun _ _ _ h => h) hC (by kernel_rfl) (fun w hSw => by obtain ⟨x0, x1, x2⟩ := hSw; go_simp) ?_
          try simp only [Act.put, List.setIfInBounds_toArray, List.set_cons_zero, List.set_cons_succ]
          refine held_take 43 (d := some 100) (v := (.bool false)) rfl rfl (by kernel_rfl) (by kernel_rfl) (by kernel_rfl) (fun _ _ _ h => h) hC (by kernel_rfl) (fun w hSw => by obtain ⟨x0, x1, x2⟩ := hSw; go_simp) ?_
          try simp only [Act.put, List.setIfInBounds_toArray, List.set_cons_zero, List.set_cons_succ]
          refine wpAnyH_done (by kernel_rfl) ?_ _
          go_wp2_with fail
          go_roundw
          case rel => exact ⟨j + 1, S', F', G', by omega, by go_num, hT5'.out, hS5'.out⟩
          case measure => simp [intOf]; omega
      · go_wp2_with fail
        generalize hD : wr.heap.size = D at *
        generalize wr.alloc (.cells #[.int .i64 k, .int .i64 y, .int .i64 i, .int .i64 t, .int .u8 b, .slice da dn dc] 46) = X1 at *
        clear hFr
        by_cases hW : isW y = true
        · rcases isW_yes hW with rfl | rfl
          · skip
            have hBx := hX
            have hTw := hT1
            have b0 := hBx.d0
            have b1 := hBx.d1
            have b2 := hBx.d2
            have b3 := hBx.d3
            have b4 := hBx.d4
            have b5 := hBx.d5
            have hTd := hTw.ahead (below_drew _)
            have hBd := hBx.upd (Upd.ofBelow (F := fun _ => False) (below_drew _)) (fun h => h)
            have hDFG := Lib.hid (show ¬ (F D ∨ G D) from fun h => h.elim hDF hDG)
            have hdn40 : dn ≤ 40 := by omega
            have HPl := Lib.hid (play_any w1 p q S F G k 0 i t b da dn dc l X1.drew hTd HS.out hrd.out hdn40)
            clear hBx hTw hTd
            refine wp_region_any (by kernel_rfl) ?_
            change wpAny _ _ _ _ _ _ _ X1.drew
            refine any_take 0 (d := some 57) (v := (.pointer (some ⟨p, 0, none⟩))) rfl rfl (by kernel_rfl) (by kernel_rfl) (by kernel_rfl) (fun _ _ _ h => h) (by kernel_rfl) (fun w => by go_simp) ?_
            try simp only [Act.put, List.setIfInBounds_toArray, List.set_cons_zero, List.set_cons_succ]
            refine any_take 1 (d := some 58) (v := (.pointer (some ⟨q, 0, none⟩))) rfl rfl (by kernel_rfl) (by kernel_rfl) (by kernel_rfl) (fun _ _ _ h => h) (by kernel_rfl) (fun w => by go_simp) ?_
            try simp only [Act.put, List.setIfInBounds_toArray, List.set_cons_zero, List.set_cons_succ]
            refine any_one 2 rfl (by kernel_rfl) (fun K hK => ?_)
            go_simp
            refine hK _ _ ?_
            clear hK K
            try simp only [Act.put, List.setIfInBounds_toArray, List.set_cons_zero, List.set_cons_succ]
            refine any_one 3 rfl (by kernel_rfl) (fun K hK => ?_)
            go_simp
            go_at_call 22
            refine HPl.out.mono ?_
            rintro e w5 ⟨rfl, S', F', G', hT5, hS5, hU5⟩
            go_simp
            refine hK _ _ ?_
            clear hK K
            try simp only [Act.put, List.setIfInBounds_toArray, List.set_cons_zero, List.set_cons_succ]
            obtain ⟨a0, c0', a1, c1', q0, q1⟩ := hT5.net2.cells
            have L0 := Lib.hid (s_len w1.heap.size p S' F' 0 w5 hT5.net1)
            have L1 := Lib.hid (s_len w1.heap.size p S' F' 1 w5 hT5.net1)
            have Ly := Lib.hid (s_len w1.heap.size p S' F' 0 w5 hT5.net1)
            have hB5 := hBd.upd hU5 hDFG.out
            have z1 := hB5.d1
            have hT5' := Lib.hid hT5
            have hS5' := Lib.hid hS5
            clear hT5 hS5 hU5 hB5 hBd b0 b1 b2 b3 b4 b5
            refine wpAny_of_held (S := fun w' => w'.cell? ⟨q, 0, none⟩ = some (.slice a0 (rowS S' 0).length c0') ∧ w'.cell? ⟨q, 1, none⟩ = some (.slice a1 (rowS S' 1).length c1') ∧ w'.cell? ⟨D, 1, none⟩ = some (.int .i64 0)) _ _ _ _ ?_
            have hC : w5.cell? ⟨q, 0, none⟩ = some (.slice a0 (rowS S' 0).length c0') ∧ w5.cell? ⟨q, 1, none⟩ = some (.slice a1 (rowS S' 1).length c1') ∧ w5.cell? ⟨D, 1, none⟩ = some (.int .i64 0) := ⟨q0, q1, z1⟩
            clear q0 q1 z1
            refine held_take 4 (d := some 61) (v := (.bool false)) rfl rfl (by kernel_rfl) (by kernel_rfl) (by kernel_rfl) (fun _ _ _ h => h) hC (by kernel_rfl) (fun w hSw => by obtain ⟨x0, x1, x2⟩ := hSw; go_simp) ?_
            try simp only [Act.put, List.setIfInBounds_toArray, List.set_cons_zero, List.set_cons_succ]
            refine held_take 5 (d := some 62) (v := (.bool false)) rfl rfl (by kernel_rfl) (by kernel_rfl) (by kernel_rfl) (fun _ _ _ h => h) hC (by kernel_rfl) (fun w hSw => by obtain ⟨x0, x1, x2⟩ := hSw; go_simp) ?_
            try simp only [Act.put, List.setIfInBounds_toArray, List.set_cons_zero, List.set_cons_succ]
            refine held_take 6 (d := some 63) (v := (.pointer (some ⟨p, 0, none⟩))) rfl rfl (by kernel_rfl) (by kernel_rfl) (by kernel_rfl) (fun _ _ _ h => h) hC (by kernel_rfl) (fun w hSw => by obtain ⟨x0, x1, x2⟩ := hSw; go_simp) ?_
            try simp only [Act.put, List.setIfInBounds_toArray, List.set_cons_zero, List.set_cons_succ]
            refine held_take 8 (d := some 65) (v := (.pointer (some ⟨q, 0, none⟩))) rfl rfl (by kernel_rfl) (by kernel_rfl) (by kernel_rfl) (fun _ _ _ h => h) hC (by kernel_rfl) (fun w hSw => by obtain ⟨x0, x1, x2⟩ := hSw; go_simp) ?_
            try simp only [Act.put, List.setIfInBounds_toArray, List.set_cons_zero, List.set_cons_succ]
            refine held_take 9 (d := some 66) (v := (.pointer (some ⟨q, 0, none⟩))) rfl rfl (by kernel_rfl) (by kernel_rfl) (by kernel_rfl) (fun _ _ _ h => h) hC (by kernel_rfl) (fun w hSw => by obtain ⟨x0, x1, x2⟩ := hSw; go_simp) ?_
            try simp only [Act.put, List.setIfInBounds_toArray, List.set_cons_zero, List.set_cons_succ]
            refine held_take 10 (d := some 67) (v := (.pointer (some ⟨q, 0, none⟩))) rfl rfl (by kernel_rfl) (by kernel_rfl) (by kernel_rfl) (fun _ _ _ h => h) hC (by kernel_rfl) (fun w hSw => by obtain ⟨x0, x1, x2⟩ := hSw; go_simp) ?_
            try simp only [Act.put, List.setIfInBounds_toArray, List.set_cons_zero, List.set_cons_succ]
            refine held_take 11 (d := some 68) (v := (.pointer (some ⟨q, 0, none⟩))) rfl rfl (by kernel_rfl) (by kernel_rfl) (by kernel_rfl) (fun _ _ _ h => h) hC (by kernel_rfl) (fun w hSw => by obtain ⟨x0, x1, x2⟩ := hSw; go_simp) ?_
            try simp only [Act.put, List.setIfInBounds_toArray, List.set_cons_zero, List.set_cons_succ]
            refine held_take 12 (d := some 69) (v := (.slice a0 (rowS S' 0).length c0')) rfl rfl (by kernel_rfl) (by kernel_rfl) (by kernel_rfl) (fun _ _ _ h => h) hC (by kernel_rfl) (fun w hSw => by obtain ⟨x0, x1, x2⟩ := hSw; go_simp) ?_
            try simp only [Act.put, List.setIfInBounds_toArray, List.set_cons_zero, List.set_cons_succ]
            refine held_take 13 (d := some 70) (v := (.int .i64 (rowS S' 0).length)) rfl rfl (by kernel_rfl) (by kernel_rfl) (by kernel_rfl) (fun _ _ _ h => h) hC (by kernel_rfl) (fun w hSw => by obtain ⟨x0, x1, x2⟩ := hSw; go_simp) ?_
            try simp only [Act.put, List.setIfInBounds_toArray, List.set_cons_zero, List.set_cons_succ]
            refine held_one 7 rfl (by kernel_rfl) (fun K hK => ?_)
            go_simp
            go_at_call 14
            refine L0.out.mono ?_
            rintro e w6 ⟨rfl, rfl⟩
            rw [if_pos (show isW 0 = true from rfl)]
            go_simp
            refine hK _ _ hC ?_
            clear hK K
            try simp only [Act.put, List.setIfInBounds_toArray, List.set_cons_zero, List.set_cons_succ]
            refine held_take 14 (d := some 71) (v := (.bool false)) rfl rfl (by kernel_rfl) (by kernel_rfl) (by kernel_rfl) (fun _ _ _ h => h) hC (by kernel_rfl) (fun w hSw => by obtain ⟨x0, x1, x2⟩ := hSw; go_simp) ?_
            try simp only [Act.put, List.setIfInBounds_toArray, List.set_cons_zero, List.set_cons_succ]
            refine held_take 15 (d := some 72) (v := (.bool false)) rfl rfl (by kernel_rfl) (by kernel_rfl) (by kernel_rfl) (fun _ _ _ h => h) hC (by kernel_rfl) (fun w hSw => by obtain ⟨x0, x1, x2⟩ := hSw; go_simp) ?_
            try simp only [Act.put, List.setIfInBounds_toArray, List.set_cons_zero, List.set_cons_succ]
            refine held_take 16 (d := some 73) (v := (.bool false)) rfl rfl (by kernel_rfl) (by kernel_rfl) (by kernel_rfl) (fun _ _ _ h => h) hC (by kernel_rfl) (fun w hSw => by obtain ⟨x0, x1, x2⟩ := hSw; go_simp) ?_
            try simp only [Act.put, List.setIfInBounds_toArray, List.set_cons_zero, List.set_cons_succ]
            refine held_take 17 (d := some 74) (v := (.pointer (some ⟨p, 0, none⟩))) rfl rfl (by kernel_rfl) (by kernel_rfl) (by kernel_rfl) (fun _ _ _ h => h) hC (by kernel_rfl) (fun w hSw => by obtain ⟨x0, x1, x2⟩ := hSw; go_simp) ?_
            try simp only [Act.put, List.setIfInBounds_toArray, List.set_cons_zero, List.set_cons_succ]
            refine held_take 19 (d := some 76) (v := (.pointer (some ⟨q, 0, none⟩))) rfl rfl (by kernel_rfl) (by kernel_rfl) (by kernel_rfl) (fun _ _ _ h => h) hC (by kernel_rfl) (fun w hSw => by obtain ⟨x0, x1, x2⟩ := hSw; go_simp) ?_
            try simp only [Act.put, List.setIfInBounds_toArray, List.set_cons_zero, List.set_cons_succ]
            refine held_take 20 (d := some 77) (v := (.pointer (some ⟨q, 0, none⟩))) rfl rfl (by kernel_rfl) (by kernel_rfl) (by kernel_rfl) (fun _ _ _ h => h) hC (by kernel_rfl) (fun w hSw => by obtain ⟨x0, x1, x2⟩ := hSw; go_simp) ?_
            try simp only [Act.put, List.setIfInBounds_toArray, List.set_cons_zero, List.set_cons_succ]
            refine held_take 21 (d := some 78) (v := (.pointer (some ⟨q, 0, none⟩))) rfl rfl (by kernel_rfl) (by kernel_rfl) (by kernel_rfl) (fun _ _ _ h => h) hC (by kernel_rfl) (fun w hSw => by obtain ⟨x0, x1, x2⟩ := hSw; go_simp) ?_
            try simp only [Act.put, List.setIfInBounds_toArray, List.set_cons_zero, List.set_cons_succ]
            refine held_take 22 (d := some 79) (v := (.pointer (some ⟨q, 1, none⟩))) rfl rfl (by kernel_rfl) (by kernel_rfl) (by kernel_rfl) (fun _ _ _ h => h) hC (by kernel_rfl) (fun w hSw => by obtain ⟨x0, x1, x2⟩ := hSw; go_simp) ?_
            try simp only [Act.put, List.setIfInBounds_toArray, List.set_cons_zero, List.set_cons_succ]
            refine held_take 23 (d := some 80) (v := (.slice a1 (rowS S' 1).length c1')) rfl rfl (by kernel_rfl) (by kernel_rfl) (by kernel_rfl) (fun _ _ _ h => h) hC (by kernel_rfl) (fun w hSw => by obtain ⟨x0, x1, x2⟩ := hSw; go_simp) ?_
            try simp only [Act.put, List.setIfInBounds_toArray, List.set_cons_zero, List.set_cons_succ]
            refine held_take 24 (d := some 81) (v := (.int .i64 (rowS S' 1).length)) rfl rfl (by kernel_rfl) (by kernel_rfl) (by kernel_rfl) (fun _ _ _ h => h) hC (by kernel_rfl) (fun w hSw => by obtain ⟨x0, x1, x2⟩ := hSw; go_simp) ?_
            try simp only [Act.put, List.setIfInBounds_toArray, List.set_cons_zero, List.set_cons_succ]
            refine held_one 18 rfl (by kernel_rfl) (fun K hK => ?_)
            go_simp
            go_at_call 14
            refine L1.out.mono ?_
            rintro e w6 ⟨rfl, rfl⟩
            rw [if_pos (show isW 1 = true from rfl)]
            go_simp
            refine hK _ _ hC ?_
            clear hK K
            try simp only [Act.put, List.setIfInBounds_toArray, List.set_cons_zero, List.set_cons_succ]
            refine held_take 25 (d := some 82) (v := (.bool false)) rfl rfl (by kernel_rfl) (by kernel_rfl) (by kernel_rfl) (fun _ _ _ h => h) hC (by kernel_rfl) (fun w hSw => by obtain ⟨x0, x1, x2⟩ := hSw; go_simp) ?_
            try simp only [Act.put, List.setIfInBounds_toArray, List.set_cons_zero, List.set_cons_succ]
            refine held_take 26 (d := some 83) (v := (.bool false)) rfl rfl (by kernel_rfl) (by kernel_rfl) (by kernel_rfl) (fun _ _ _ h => h) hC (by kernel_rfl) (fun w hSw => by obtain ⟨x0, x1, x2⟩ := hSw; go_simp) ?_
            try simp only [Act.put, List.setIfInBounds_toArray, List.set_cons_zero, List.set_cons_succ]
            refine held_take 27 (d := some 84) (v := (.bool false)) rfl rfl (by kernel_rfl) (by kernel_rfl) (by kernel_rfl) (fun _ _ _ h => h) hC (by kernel_rfl) (fun w hSw => by obtain ⟨x0, x1, x2⟩ := hSw; go_simp) ?_
            try simp only [Act.put, List.setIfInBounds_toArray, List.set_cons_zero, List.set_cons_succ]
            refine held_take 28 (d := some 85) (v := (.pointer (some ⟨D, 1, none⟩))) rfl rfl (by kernel_rfl) (by kernel_rfl) (by kernel_rfl) (fun _ _ _ h => h) hC (by kernel_rfl) (fun w hSw => by obtain ⟨x0, x1, x2⟩ := hSw; go_simp) ?_
            try simp only [Act.put, List.setIfInBounds_toArray, List.set_cons_zero, List.set_cons_succ]
            refine held_take 29 (d := some 86) (v := (.int .i64 0)) rfl rfl (by kernel_rfl) (by kernel_rfl) (by kernel_rfl) (fun _ _ _ h => h) hC (by kernel_rfl) (fun w hSw => by obtain ⟨x0, x1, x2⟩ := hSw; go_simp) ?_
            try simp only [Act.put, List.setIfInBounds_toArray, List.set_cons_zero, List.set_cons_succ]
            refine held_take 30 (d := some 87) (v := (.bool false)) rfl rfl (by kernel_rfl) (by kernel_rfl) (by kernel_rfl) (fun _ _ _ h => h) hC (by kernel_rfl) (fun w hSw => by obtain ⟨x0, x1, x2⟩ := hSw; go_simp) ?_
            try simp only [Act.put, List.setIfInBounds_toArray, List.set_cons_zero, List.set_cons_succ]
            refine held_take 31 (d := some 88) (v := (.bool false)) rfl rfl (by kernel_rfl) (by kernel_rfl) (by kernel_rfl) (fun _ _ _ h => h) hC (by kernel_rfl) (fun w hSw => by obtain ⟨x0, x1, x2⟩ := hSw; go_simp) ?_
            try simp only [Act.put, List.setIfInBounds_toArray, List.set_cons_zero, List.set_cons_succ]
            refine held_skip 32 (d := some 89) rfl rfl (by kernel_rfl) (by kernel_rfl) (by kernel_rfl) (fun _ _ _ h => h) hC (by kernel_rfl) ?_
            try simp only [Act.put, List.setIfInBounds_toArray, List.set_cons_zero, List.set_cons_succ]
            refine held_skip 33 (d := some 90) rfl rfl (by kernel_rfl) (by kernel_rfl) (by kernel_rfl) (fun _ _ _ h => h) hC (by kernel_rfl) ?_
            try simp only [Act.put, List.setIfInBounds_toArray, List.set_cons_zero, List.set_cons_succ]
            refine held_skip 34 (d := some 91) rfl rfl (by kernel_rfl) (by kernel_rfl) (by kernel_rfl) (fun _ _ _ h => h) hC (by kernel_rfl) ?_
            try simp only [Act.put, List.setIfInBounds_toArray, List.set_cons_zero, List.set_cons_succ]
            refine held_take 35 (d := some 92) (v := (.bool false)) rfl rfl (by kernel_rfl) (by kernel_rfl) (by kernel_rfl) (fun _ _ _ h => h) hC (by kernel_rfl) (fun w hSw => by obtain ⟨x0, x1, x2⟩ := hSw; go_simp) ?_
            try simp only [Act.put, List.setIfInBounds_toArray, List.set_cons_zero, List.set_cons_succ]
            refine held_take 36 (d := some 93) (v := (.bool false)) rfl rfl (by kernel_rfl) (by kernel_rfl) (by kernel_rfl) (fun _ _ _ h => h) hC (by kernel_rfl) (fun w hSw => by obtain ⟨x0, x1, x2⟩ := hSw; go_simp) ?_
            try simp only [Act.put, List.setIfInBounds_toArray, List.set_cons_zero, List.set_cons_succ]
            refine held_skip 37 (d := some 94) rfl rfl (by kernel_rfl) (by kernel_rfl) (by kernel_rfl) (fun _ _ _ h => h) hC (by kernel_rfl) ?_
            try simp only [Act.put, List.setIfInBounds_toArray, List.set_cons_zero, List.set_cons_succ]
            refine held_skip 38 (d := some 95) rfl rfl (by kernel_rfl) (by kernel_rfl) (by kernel_rfl) (fun _ _ _ h => h) hC (by kernel_rfl) ?_
            try simp only [Act.put, List.setIfInBounds_toArray, List.set_cons_zero, List.set_cons_succ]
            refine held_skip 39 (d := some 96) rfl rfl (by kernel_rfl) (by kernel_rfl) (by kernel_rfl) (fun _ _ _ h => h) hC (by kernel_rfl) ?_
            try simp only [Act.put, List.setIfInBounds_toArray, List.set_cons_zero, List.set_cons_succ]
            refine held_skip 40 (d := some 97) rfl rfl (by kernel_rfl) (by kernel_rfl) (by kernel_rfl) (fun _ _ _ h => h) hC (by kernel_rfl) ?_
            try simp only [Act.put, List.setIfInBounds_toArray, List.set_cons_zero, List.set_cons_succ]
            refine held_skip 41 (d := some 98) rfl rfl (by kernel_rfl) (by kernel_rfl) (by kernel_rfl) (fun _ _ _ h => h) hC (by kernel_rfl) ?_
            try simp only [Act.put, List.setIfInBounds_toArray, List.set_cons_zero, List.set_cons_succ]
            refine held_take 42 (d := some 99) (v := (.bool false)) rfl rfl (by kernel_rfl) (by kernel_rfl) (by kernel_rfl) (fun _ _ _ h => h) hC (by kernel_rfl) (fun w hSw => by obtain ⟨x0, x1, x2⟩ := hSw; go_simp) ?_
            try simp only [Act.put, List.setIfInBounds_toArray, List.set_cons_zero, List.set_cons_succ]
            refine held_take 43 (d := some 100) (v := (.bool false)) rfl rfl (by kernel_rfl) (by kernel_rfl) (by kernel_rfl) (fun _ _ _ h => h) hC (by kernel_rfl) (fun w hSw => by obtain ⟨x0, x1, x2⟩ := hSw; go_simp) ?_
            try simp only [Act.put, List.setIfInBounds_toArray, List.set_cons_zero, List.set_cons_succ]
            refine wpAnyH_done (by kernel_rfl) ?_ _
            go_wp2_with fail
            go_roundw
            case rel => exact ⟨j + 1, S', F', G', by omega, by go_num, hT5'.out, hS5'.out⟩
            case measure => simp [intOf]; omega
          · skip
            have hBx := hX
            have hTw := hT1
            have b0 := hBx.d0
            have b1 := hBx.d1
            have b2 := hBx.d2
            have b3 := hBx.d3
            have b4 := hBx.d4
            have b5 := hBx.d5
            have hTd := hTw.ahead (below_drew _)
            have hBd := hBx.upd (Upd.ofBelow (F := fun _ => False) (below_drew _)) (fun h => h)
            have hDFG := Lib.hid (show ¬ (F D ∨ G D) from fun h => h.elim hDF hDG)
            have hdn40 : dn ≤ 40 := by omega
            have HPl := Lib.hid (play_any w1 p q S F G k 1 i t b da dn dc l X1.drew hTd HS.out hrd.out hdn40)
            clear hBx hTw hTd
            refine wp_region_any (by kernel_rfl) ?_
            change wpAny _ _ _ _ _ _ _ X1.drew
            refine any_take 0 (d := some 57) (v := (.pointer (some ⟨p, 0, none⟩))) rfl rfl (by kernel_rfl) (by kernel_rfl) (by kernel_rfl) (fun _ _ _ h => h) (by kernel_rfl) (fun w => by go_simp) ?_
            try simp only [Act.put, List.setIfInBounds_toArray, List.set_cons_zero, List.set_cons_succ]
            refine any_take 1 (d := some 58) (v := (.pointer (some ⟨q, 0, none⟩))) rfl rfl (by kernel_rfl) (by kernel_rfl) (by kernel_rfl) (fun _ _ _ h => h) (by kernel_rfl) (fun w => by go_simp) ?_
            try simp only [Act.put, List.setIfInBounds_toArray, List.set_cons_zero, List.set_cons_succ]
            refine any_one 2 rfl (by kernel_rfl) (fun K hK => ?_)
            go_simp
            refine hK _ _ ?_
            clear hK K
            try simp only [Act.put, List.setIfInBounds_toArray, List.set_cons_zero, List.set_cons_succ]
            refine any_one 3 rfl (by kernel_rfl) (fun K hK => ?_)
            go_simp
            go_at_call 22
            refine HPl.out.mono ?_
            rintro e w5 ⟨rfl, S', F', G', hT5, hS5, hU5⟩
            go_simp
            refine hK _ _ ?_
            clear hK K
            try simp only [Act.put, List.setIfInBounds_toArray, List.set_cons_zero, List.set_cons_succ]
            obtain ⟨a0, c0', a1, c1', q0, q1⟩ := hT5.net2.cells
            have L0 := Lib.hid (s_len w1.heap.size p S' F' 0 w5 hT5.net1)
            have L1 := Lib.hid (s_len w1.heap.size p S' F' 1 w5 hT5.net1)
            have Ly := Lib.hid (s_len w1.heap.size p S' F' 1 w5 hT5.net1)
            have hB5 := hBd.upd hU5 hDFG.out
            have z1 := hB5.d1
            have hT5' := Lib.hid hT5
            have hS5' := Lib.hid hS5
            clear hT5 hS5 hU5 hB5 hBd b0 b1 b2 b3 b4 b5
            refine wpAny_of_held (S := fun w' => w'.cell? ⟨q, 0, none⟩ = some (.slice a0 (rowS S' 0).length c0') ∧ w'.cell? ⟨q, 1, none⟩ = some (.slice a1 (rowS S' 1).length c1') ∧ w'.cell? ⟨D, 1, none⟩ = some (.int .i64 1)) _ _ _ _ ?_
            have hC : w5.cell? ⟨q, 0, none⟩ = some (.slice a0 (rowS S' 0).length c0') ∧ w5.cell? ⟨q, 1, none⟩ = some (.slice a1 (rowS S' 1).length c1') ∧ w5.cell? ⟨D, 1, none⟩ = some (.int .i64 1) := ⟨q0, q1, z1⟩
            clear q0 q1 z1
            refine held_take 4 (d := some 61) (v := (.bool false)) rfl rfl (by kernel_rfl) (by kernel_rfl) (by kernel_rfl) (fun _ _ _ h => h) hC (by kernel_rfl) (fun w hSw => by obtain ⟨x0, x1, x2⟩ := hSw; go_simp) ?_
            try simp only [Act.put, List.setIfInBounds_toArray, List.set_cons_zero, List.set_cons_succ]
            refine held_take 5 (d := some 62) (v := (.bool false)) rfl rfl (by kernel_rfl) (by kernel_rfl) (by kernel_rfl) (fun _ _ _ h => h) hC (by kernel_rfl) (fun w hSw => by obtain ⟨x0, x1, x2⟩ := hSw; go_simp) ?_
            try simp only [Act.put, List.setIfInBounds_toArray, List.set_cons_zero, List.set_cons_succ]
            refine held_take 6 (d := some 63) (v := (.pointer (some ⟨p, 0, none⟩))) rfl rfl (by kernel_rfl) (by kernel_rfl) (by kernel_rfl) (fun _ _ _ h => h) hC (by kernel_rfl) (fun w hSw => by obtain ⟨x0, x1, x2⟩ := hSw; go_simp) ?_
            try simp only [Act.put, List.setIfInBounds_toArray, List.set_cons_zero, List.set_cons_succ]
            refine held_take 8 (d := some 65) (v := (.pointer (some ⟨q, 0, none⟩))) rfl rfl (by kernel_rfl) (by kernel_rfl) (by kernel_rfl) (fun _ _ _ h => h) hC (by kernel_rfl) (fun w hSw => by obtain ⟨x0, x1, x2⟩ := hSw; go_simp) ?_
            try simp only [Act.put, List.setIfInBounds_toArray, List.set_cons_zero, List.set_cons_succ]
            refine held_take 9 (d := some 66) (v := (.pointer (some ⟨q, 0, none⟩))) rfl rfl (by kernel_rfl) (by kernel_rfl) (by kernel_rfl) (fun _ _ _ h => h) hC (by kernel_rfl) (fun w hSw => by obtain ⟨x0, x1, x2⟩ := hSw; go_simp) ?_
            try simp only [Act.put, List.setIfInBounds_toArray, List.set_cons_zero, List.set_cons_succ]
            refine held_take 10 (d := some 67) (v := (.pointer (some ⟨q, 0, none⟩))) rfl rfl (by kernel_rfl) (by kernel_rfl) (by kernel_rfl) (fun _ _ _ h => h) hC (by kernel_rfl) (fun w hSw => by obtain ⟨x0, x1, x2⟩ := hSw; go_simp) ?_
            try simp only [Act.put, List.setIfInBounds_toArray, List.set_cons_zero, List.set_cons_succ]
            refine held_take 11 (d := some 68) (v := (.pointer (some ⟨q, 0, none⟩))) rfl rfl (by kernel_rfl) (by kernel_rfl) (by kernel_rfl) (fun _ _ _ h => h) hC (by kernel_rfl) (fun w hSw => by obtain ⟨x0, x1, x2⟩ := hSw; go_simp) ?_
            try simp only [Act.put, List.setIfInBounds_toArray, List.set_cons_zero, List.set_cons_succ]
            refine held_take 12 (d := some 69) (v := (.slice a0 (rowS S' 0).length c0')) rfl rfl (by kernel_rfl) (by kernel_rfl) (by kernel_rfl) (fun _ _ _ h => h) hC (by kernel_rfl) (fun w hSw => by obtain ⟨x0, x1, x2⟩ := hSw; go_simp) ?_
            try simp only [Act.put, List.setIfInBounds_toArray, List.set_cons_zero, List.set_cons_succ]
            refine held_take 13 (d := some 70) (v := (.int .i64 (rowS S' 0).length)) rfl rfl (by kernel_rfl) (by kernel_rfl) (by kernel_rfl) (fun _ _ _ h => h) hC (by kernel_rfl) (fun w hSw => by obtain ⟨x0, x1, x2⟩ := hSw; go_simp) ?_
            try simp only [Act.put, List.setIfInBounds_toArray, List.set_cons_zero, List.set_cons_succ]
            refine held_one 7 rfl (by kernel_rfl) (fun K hK => ?_)
            go_simp
            go_at_call 14
            refine L0.out.mono ?_
            rintro e w6 ⟨rfl, rfl⟩
            rw [if_pos (show isW 0 = true from rfl)]
            go_simp
            refine hK _ _ hC ?_
            clear hK K
            try simp only [Act.put, List.setIfInBounds_toArray, List.set_cons_zero, List.set_cons_succ]
            refine held_take 14 (d := some 71) (v := (.bool false)) rfl rfl (by kernel_rfl) (by kernel_rfl) (by kernel_rfl) (fun _ _ _ h => h) hC (by kernel_rfl) (fun w hSw => by obtain ⟨x0, x1, x2⟩ := hSw; go_simp) ?_
            try simp only [Act.put, List.setIfInBounds_toArray, List.set_cons_zero, List.set_cons_succ]
            refine held_take 15 (d := some 72) (v := (.bool false)) rfl rfl (by kernel_rfl) (by kernel_rfl) (by kernel_rfl) (fun _ _ _ h => h) hC (by kernel_rfl) (fun w hSw => by obtain ⟨x0, x1, x2⟩ := hSw; go_simp) ?_
            try simp only [Act.put, List.setIfInBounds_toArray, List.set_cons_zero, List.set_cons_succ]
            refine held_take 16 (d := some 73) (v := (.bool false)) rfl rfl (by kernel_rfl) (by kernel_rfl) (by kernel_rfl) (fun _ _ _ h => h) hC (by kernel_rfl) (fun w hSw => by obtain ⟨x0, x1, x2⟩ := hSw; go_simp) ?_
            try simp only [Act.put, List.setIfInBounds_toArray, List.set_cons_zero, List.set_cons_succ]
            refine held_take 17 (d := some 74) (v := (.pointer (some ⟨p, 0, none⟩))) rfl rfl (by kernel_rfl) (by kernel_rfl) (by kernel_rfl) (fun _ _ _ h => h) hC (by kernel_rfl) (fun w hSw => by obtain ⟨x0, x1, x2⟩ := hSw; go_simp) ?_
            try simp only [Act.put, List.setIfInBounds_toArray, List.set_cons_zero, List.set_cons_succ]
            refine held_take 19 (d := some 76) (v := (.pointer (some ⟨q, 0, none⟩))) rfl rfl (by kernel_rfl) (by kernel_rfl) (by kernel_rfl) (fun _ _ _ h => h) hC (by kernel_rfl) (fun w hSw => by obtain ⟨x0, x1, x2⟩ := hSw; go_simp) ?_
            try simp only [Act.put, List.setIfInBounds_toArray, List.set_cons_zero, List.set_cons_succ]
            refine held_take 20 (d := some 77) (v := (.pointer (some ⟨q, 0, none⟩))) rfl rfl (by kernel_rfl) (by kernel_rfl) (by kernel_rfl) (fun _ _ _ h => h) hC (by kernel_rfl) (fun w hSw => by obtain ⟨x0, x1, x2⟩ := hSw; go_simp) ?_
            try simp only [Act.put, List.setIfInBounds_toArray, List.set_cons_zero, List.set_cons_succ]
            refine held_take 21 (d := some 78) (v := (.pointer (some ⟨q, 0, none⟩))) rfl rfl (by kernel_rfl) (by kernel_rfl) (by kernel_rfl) (fun _ _ _ h => h) hC (by kernel_rfl) (fun w hSw => by obtain ⟨x0, x1, x2⟩ := hSw; go_simp) ?_
            try simp only [Act.put, List.setIfInBounds_toArray, List.set_cons_zero, List.set_cons_succ]
            refine held_take 22 (d := some 79) (v := (.pointer (some ⟨q, 1, none⟩))) rfl rfl (by kernel_rfl) (by kernel_rfl) (by kernel_rfl) (fun _ _ _ h => h) hC (by kernel_rfl) (fun w hSw => by obtain ⟨x0, x1, x2⟩ := hSw; go_simp) ?_
            try simp only [Act.put, List.setIfInBounds_toArray, List.set_cons_zero, List.set_cons_succ]
            refine held_take 23 (d := some 80) (v := (.slice a1 (rowS S' 1).length c1')) rfl rfl (by kernel_rfl) (by kernel_rfl) (by kernel_rfl) (fun _ _ _ h => h) hC (by kernel_rfl) (fun w hSw => by obtain ⟨x0, x1, x2⟩ := hSw; go_simp) ?_
            try simp only [Act.put, List.setIfInBounds_toArray, List.set_cons_zero, List.set_cons_succ]
            refine held_take 24 (d := some 81) (v := (.int .i64 (rowS S' 1).length)) rfl rfl (by kernel_rfl) (by kernel_rfl) (by kernel_rfl) (fun _ _ _ h => h) hC (by kernel_rfl) (fun w hSw => by obtain ⟨x0, x1, x2⟩ := hSw; go_simp) ?_
            try simp only [Act.put, List.setIfInBounds_toArray, List.set_cons_zero, List.set_cons_succ]
            refine held_one 18 rfl (by kernel_rfl) (fun K hK => ?_)
            go_simp
            go_at_call 14
            refine L1.out.mono ?_
            rintro e w6 ⟨rfl, rfl⟩
            rw [if_pos (show isW 1 = true from rfl)]
            go_simp
            refine hK _ _ hC ?_
            clear hK K
            try simp only [Act.put, List.setIfInBounds_toArray, List.set_cons_zero, List.set_cons_succ]
            refine held_take 25 (d := some 82) (v := (.bool false)) rfl rfl (by kernel_rfl) (by kernel_rfl) (by kernel_rfl) (fun _ _ _ h => h) hC (by kernel_rfl) (fun w hSw => by obtain ⟨x0, x1, x2⟩ := hSw; go_simp) ?_
            try simp only [Act.put, List.setIfInBounds_toArray, List.set_cons_zero, List.set_cons_succ]
            refine held_take 26 (d := some 83) (v := (.bool false)) rfl rfl (by kernel_rfl) (by kernel_rfl) (by kernel_rfl) (fun _ _ _ h => h) hC (by kernel_rfl) (fun w hSw => by obtain ⟨x0, x1, x2⟩ := hSw; go_simp) ?_
            try simp only [Act.put, List.setIfInBounds_toArray, List.set_cons_zero, List.set_cons_succ]
            refine held_take 27 (d := some 84) (v := (.bool false)) rfl rfl (by kernel_rfl) (by kernel_rfl) (by kernel_rfl) (fun _ _ _ h => h) hC (by kernel_rfl) (fun w hSw => by obtain ⟨x0, x1, x2⟩ := hSw; go_simp) ?_
            try simp only [Act.put, List.setIfInBounds_toArray, List.set_cons_zero, List.set_cons_succ]
            refine held_take 28 (d := some 85) (v := (.pointer (some ⟨D, 1, none⟩))) rfl rfl (by kernel_rfl) (by kernel_rfl) (by kernel_rfl) (fun _ _ _ h => h) hC (by kernel_rfl) (fun w hSw => by obtain ⟨x0, x1, x2⟩ := hSw; go_simp) ?_
            try simp only [Act.put, List.setIfInBounds_toArray, List.set_cons_zero, List.set_cons_succ]
            refine held_take 29 (d := some 86) (v := (.int .i64 1)) rfl rfl (by kernel_rfl) (by kernel_rfl) (by kernel_rfl) (fun _ _ _ h => h) hC (by kernel_rfl) (fun w hSw => by obtain ⟨x0, x1, x2⟩ := hSw; go_simp) ?_
            try simp only [Act.put, List.setIfInBounds_toArray, List.set_cons_zero, List.set_cons_succ]
            refine held_take 30 (d := some 87) (v := (.bool true)) rfl rfl (by kernel_rfl) (by kernel_rfl) (by kernel_rfl) (fun _ _ _ h => h) hC (by kernel_rfl) (fun w hSw => by obtain ⟨x0, x1, x2⟩ := hSw; go_simp) ?_
            try simp only [Act.put, List.setIfInBounds_toArray, List.set_cons_zero, List.set_cons_succ]
            refine held_take 31 (d := some 88) (v := (.bool true)) rfl rfl (by kernel_rfl) (by kernel_rfl) (by kernel_rfl) (fun _ _ _ h => h) hC (by kernel_rfl) (fun w hSw => by obtain ⟨x0, x1, x2⟩ := hSw; go_simp) ?_
            try simp only [Act.put, List.setIfInBounds_toArray, List.set_cons_zero, List.set_cons_succ]
            refine held_take 32 (d := some 89) (v := (.pointer (some ⟨D, 1, none⟩))) rfl rfl (by kernel_rfl) (by kernel_rfl) (by kernel_rfl) (fun _ _ _ h => h) hC (by kernel_rfl) (fun w hSw => by obtain ⟨x0, x1, x2⟩ := hSw; go_simp) ?_
            try simp only [Act.put, List.setIfInBounds_toArray, List.set_cons_zero, List.set_cons_succ]
            refine held_take 33 (d := some 90) (v := (.int .i64 1)) rfl rfl (by kernel_rfl) (by kernel_rfl) (by kernel_rfl) (fun _ _ _ h => h) hC (by kernel_rfl) (fun w hSw => by obtain ⟨x0, x1, x2⟩ := hSw; go_simp) ?_
            try simp only [Act.put, List.setIfInBounds_toArray, List.set_cons_zero, List.set_cons_succ]
            refine held_take 34 (d := some 91) (v := (.bool false)) rfl rfl (by kernel_rfl) (by kernel_rfl) (by kernel_rfl) (fun _ _ _ h => h) hC (by kernel_rfl) (fun w hSw => by obtain ⟨x0, x1, x2⟩ := hSw; go_simp) ?_
            try simp only [Act.put, List.setIfInBounds_toArray, List.set_cons_zero, List.set_cons_succ]
            refine held_take 35 (d := some 92) (v := (.bool false)) rfl rfl (by kernel_rfl) (by kernel_rfl) (by kernel_rfl) (fun _ _ _ h => h) hC (by kernel_rfl) (fun w hSw => by obtain ⟨x0, x1, x2⟩ := hSw; go_simp) ?_
            try simp only [Act.put, List.setIfInBounds_toArray, List.set_cons_zero, List.set_cons_succ]
            refine held_take 36 (d := some 93) (v := (.bool false)) rfl rfl (by kernel_rfl) (by kernel_rfl) (by kernel_rfl) (fun _ _ _ h => h) hC (by kernel_rfl) (fun w hSw => by obtain ⟨x0, x1, x2⟩ := hSw; go_simp) ?_
            try simp only [Act.put, List.setIfInBounds_toArray, List.set_cons_zero, List.set_cons_succ]
            refine held_skip 37 (d := some 94) rfl rfl (by kernel_rfl) (by kernel_rfl) (by kernel_rfl) (fun _ _ _ h => h) hC (by kernel_rfl) ?_
            try simp only [Act.put, List.setIfInBounds_toArray, List.set_cons_zero, List.set_cons_succ]
            refine held_skip 38 (d := some 95) rfl rfl (by kernel_rfl) (by kernel_rfl) (by kernel_rfl) (fun _ _ _ h => h) hC (by kernel_rfl) ?_
            try simp only [Act.put, List.setIfInBounds_toArray, List.set_cons_zero, List.set_cons_succ]
            refine held_skip 39 (d := some 96) rfl rfl (by kernel_rfl) (by kernel_rfl) (by kernel_rfl) (fun _ _ _ h => h) hC (by kernel_rfl) ?_
            try simp only [Act.put, List.setIfInBounds_toArray, List.set_cons_zero, List.set_cons_succ]
            refine held_skip 40 (d := some 97) rfl rfl (by kernel_rfl) (by kernel_rfl) (by kernel_rfl) (fun _ _ _ h => h) hC (by kernel_rfl) ?_
            try simp only [Act.put, List.setIfInBounds_toArray, List.set_cons_zero, List.set_cons_succ]
            refine held_skip 41 (d := some 98) rfl rfl (by kernel_rfl) (by kernel_rfl) (by kernel_rfl) (fun _ _ _ h => h) hC (by kernel_rfl) ?_
            try simp only [Act.put, List.setIfInBounds_toArray, List.set_cons_zero, List.set_cons_succ]
            refine held_take 42 (d := some 99) (v := (.bool false)) rfl rfl (by kernel_rfl) (by kernel_rfl) (by kernel_rfl) (fun _ _ _ h => h) hC (by kernel_rfl) (fun w hSw => by obtain ⟨x0, x1, x2⟩ := hSw; go_simp) ?_
            try simp only [Act.put, List.setIfInBounds_toArray, List.set_cons_zero, List.set_cons_succ]
            refine held_take 43 (d := some 100) (v := (.bool false)) rfl rfl (by kernel_rfl) (by kernel_rfl) (by kernel_rfl) (fun _ _ _ h => h) hC (by kernel_rfl) (fun w hSw => by obtain ⟨x0, x1, x2⟩ := hSw; go_simp) ?_
            try simp only [Act.put, List.setIfInBounds_toArray, List.set_cons_zero, List.set_cons_succ]
            refine wpAnyH_done (by kernel_rfl) ?_ _
            go_wp2_with fail
            go_roundw
            case rel => exact ⟨j + 1, S', F', G', by omega, by go_num, hT5'.out, hS5'.out⟩
            case measure => simp [intOf]; omega
        · have hWn := Lib.hid hW
          have n0 : (y != 0) = true := by simpa using (isW_no hW).1
          have n1 : (y != 1) = true := by simpa using (isW_no hW).2
          clear hW
          have hBx := hX
          have hTw := hT1
          have b0 := hBx.d0
          have b1 := hBx.d1
          have b2 := hBx.d2
          have b3 := hBx.d3
          have b4 := hBx.d4
          have b5 := hBx.d5
          have hTd := hTw.ahead (below_drew _)
          have hBd := hBx.upd (Upd.ofBelow (F := fun _ => False) (below_drew _)) (fun h => h)
          have hDFG := Lib.hid (show ¬ (F D ∨ G D) from fun h => h.elim hDF hDG)
          have hdn40 : dn ≤ 40 := by omega
          have HPl := Lib.hid (play_any w1 p q S F G k y i t b da dn dc l X1.drew hTd HS.out hrd.out hdn40)
          clear hBx hTw hTd
          refine wp_region_any (by kernel_rfl) ?_
          change wpAny _ _ _ _ _ _ _ X1.drew
          refine any_take 0 (d := some 57) (v := (.pointer (some ⟨p, 0, none⟩))) rfl rfl (by kernel_rfl) (by kernel_rfl) (by kernel_rfl) (fun _ _ _ h => h) (by kernel_rfl) (fun w => by go_simp) ?_
          try simp only [Act.put, List.setIfInBounds_toArray, List.set_cons_zero, List.set_cons_succ]
          refine any_take 1 (d := some 58) (v := (.pointer (some ⟨q, 0, none⟩))) rfl rfl (by kernel_rfl) (by kernel_rfl) (by kernel_rfl) (fun _ _ _ h => h) (by kernel_rfl) (fun w => by go_simp) ?_
          try simp only [Act.put, List.setIfInBounds_toArray, List.set_cons_zero, List.set_cons_succ]
          refine any_one 2 rfl (by kernel_rfl) (fun K hK => ?_)
          go_simp
          refine hK _ _ ?_
          clear hK K
          try simp only [Act.put, List.setIfInBounds_toArray, List.set_cons_zero, List.set_cons_succ]
          refine any_one 3 rfl (by kernel_rfl) (fun K hK => ?_)
          go_simp
          go_at_call 22
          refine HPl.out.mono ?_
          rintro e w5 ⟨rfl, S', F', G', hT5, hS5, hU5⟩
          go_simp
          refine hK _ _ ?_
          clear hK K
          try simp only [Act.put, List.setIfInBounds_toArray, List.set_cons_zero, List.set_cons_succ]
          obtain ⟨a0, c0', a1, c1', q0, q1⟩ := hT5.net2.cells
          have L0 := Lib.hid (s_len w1.heap.size p S' F' 0 w5 hT5.net1)
          have L1 := Lib.hid (s_len w1.heap.size p S' F' 1 w5 hT5.net1)
          have Ly := Lib.hid (s_len w1.heap.size p S' F' y w5 hT5.net1)
          have hB5 := hBd.upd hU5 hDFG.out
          have z1 := hB5.d1
          have hT5' := Lib.hid hT5
          have hS5' := Lib.hid hS5
          clear hT5 hS5 hU5 hB5 hBd b0 b1 b2 b3 b4 b5
          refine wpAny_of_held (S := fun w' => w'.cell? ⟨q, 0, none⟩ = some (.slice a0 (rowS S' 0).length c0') ∧ w'.cell? ⟨q, 1, none⟩ = some (.slice a1 (rowS S' 1).length c1') ∧ w'.cell? ⟨D, 1, none⟩ = some (.int .i64 y)) _ _ _ _ ?_
          have hC : w5.cell? ⟨q, 0, none⟩ = some (.slice a0 (rowS S' 0).length c0') ∧ w5.cell? ⟨q, 1, none⟩ = some (.slice a1 (rowS S' 1).length c1') ∧ w5.cell? ⟨D, 1, none⟩ = some (.int .i64 y) := ⟨q0, q1, z1⟩
          clear q0 q1 z1
          refine held_take 4 (d := some 61) (v := (.bool false)) rfl rfl (by kernel_rfl) (by kernel_rfl) (by kernel_rfl) (fun _ _ _ h => h) hC (by kernel_rfl) (fun w hSw => by obtain ⟨x0, x1, x2⟩ := hSw; go_simp) ?_
          try simp only [Act.put, List.setIfInBounds_toArray, List.set_cons_zero, List.set_cons_succ]
          refine held_take 5 (d := some 62) (v := (.bool false)) rfl rfl (by kernel_rfl) (by kernel_rfl) (by kernel_rfl) (fun _ _ _ h => h) hC (by kernel_rfl) (fun w hSw => by obtain ⟨x0, x1, x2⟩ := hSw; go_simp) ?_
          try simp only [Act.put, List.setIfInBounds_toArray, List.set_cons_zero, List.set_cons_succ]
          refine held_take 6 (d := some 63) (v := (.pointer (some ⟨p, 0, none⟩))) rfl rfl (by kernel_rfl) (by kernel_rfl) (by kernel_rfl) (fun _ _ _ h => h) hC (by kernel_rfl) (fun w hSw => by obtain ⟨x0, x1, x2⟩ := hSw; go_simp) ?_
          try simp only [Act.put, List.setIfInBounds_toArray, List.set_cons_zero, List.set_cons_succ]
          refine held_take 8 (d := some 65) (v := (.pointer (some ⟨q, 0, none⟩))) rfl rfl (by kernel_rfl) (by kernel_rfl) (by kernel_rfl) (fun _ _ _ h => h) hC (by kernel_rfl) (fun w hSw => by obtain ⟨x0, x1, x2⟩ := hSw; go_simp) ?_
          try simp only [Act.put, List.setIfInBounds_toArray, List.set_cons_zero, List.set_cons_succ]
          refine held_take 9 (d := some 66) (v := (.pointer (some ⟨q, 0, none⟩))) rfl rfl (by kernel_rfl) (by kernel_rfl) (by kernel_rfl) (fun _ _ _ h => h) hC (by kernel_rfl) (fun w hSw => by obtain ⟨x0, x1, x2⟩ := hSw; go_simp) ?_
          try simp only [Act.put, List.setIfInBounds_toArray, List.set_cons_zero, List.set_cons_succ]
          refine held_take 10 (d := some 67) (v := (.pointer (some ⟨q, 0, none⟩))) rfl rfl (by kernel_rfl) (by kernel_rfl) (by kernel_rfl) (fun _ _ _ h => h) hC (by kernel_rfl) (fun w hSw => by obtain ⟨x0, x1, x2⟩ := hSw; go_simp) ?_
          try simp only [Act.put, List.setIfInBounds_toArray, List.set_cons_zero, List.set_cons_succ]
          refine held_take 11 (d := some 68) (v := (.pointer (some ⟨q, 0, none⟩))) rfl rfl (by kernel_rfl) (by kernel_rfl) (by kernel_rfl) (fun _ _ _ h => h) hC (by kernel_rfl) (fun w hSw => by obtain ⟨x0, x1, x2⟩ := hSw; go_simp) ?_
          try simp only [Act.put, List.setIfInBounds_toArray, List.set_cons_zero, List.set_cons_succ]
          refine held_take 12 (d := some 69) (v := (.slice a0 (rowS S' 0).length c0')) rfl rfl (by kernel_rfl) (by kernel_rfl) (by kernel_rfl) (fun _ _ _ h => h) hC (by kernel_rfl) (fun w hSw => by obtain ⟨x0, x1, x2⟩ := hSw; go_simp) ?_
          try simp only [Act.put, List.setIfInBounds_toArray, List.set_cons_zero, List.set_cons_succ]
          refine held_take 13 (d := some 70) (v := (.int .i64 (rowS S' 0).length)) rfl rfl (by kernel_rfl) (by kernel_rfl) (by kernel_rfl) (fun _ _ _ h => h) hC (by kernel_rfl) (fun w hSw => by obtain ⟨x0, x1, x2⟩ := hSw; go_simp) ?_
          try simp only [Act.put, List.setIfInBounds_toArray, List.set_cons_zero, List.set_cons_succ]
          refine held_one 7 rfl (by kernel_rfl) (fun K hK => ?_)
          go_simp
          go_at_call 14
          refine L0.out.mono ?_
          rintro e w6 ⟨rfl, rfl⟩
          rw [if_pos (show isW 0 = true from rfl)]
          go_simp
          refine hK _ _ hC ?_
          clear hK K
          try simp only [Act.put, List.setIfInBounds_toArray, List.set_cons_zero, List.set_cons_succ]
          refine held_take 14 (d := some 71) (v := (.bool false)) rfl rfl (by kernel_rfl) (by kernel_rfl) (by kernel_rfl) (fun _ _ _ h => h) hC (by kernel_rfl) (fun w hSw => by obtain ⟨x0, x1, x2⟩ := hSw; go_simp) ?_
          try simp only [Act.put, List.setIfInBounds_toArray, List.set_cons_zero, List.set_cons_succ]
          refine held_take 15 (d := some 72) (v := (.bool false)) rfl rfl (by kernel_rfl) (by kernel_rfl) (by kernel_rfl) (fun _ _ _ h => h) hC (by kernel_rfl) (fun w hSw => by obtain ⟨x0, x1, x2⟩ := hSw; go_simp) ?_
          try simp only [Act.put, List.setIfInBounds_toArray, List.set_cons_zero, List.set_cons_succ]
          refine held_take 16 (d := some 73) (v := (.bool false)) rfl rfl (by kernel_rfl) (by kernel_rfl) (by kernel_rfl) (fun _ _ _ h => h) hC (by kernel_rfl) (fun w hSw => by obtain ⟨x0, x1, x2⟩ := hSw; go_simp) ?_
          try simp only [Act.put, List.setIfInBounds_toArray, List.set_cons_zero, List.set_cons_succ]
          refine held_take 17 (d := some 74) (v := (.pointer (some ⟨p, 0, none⟩))) rfl rfl (by kernel_rfl) (by kernel_rfl) (by kernel_rfl) (fun _ _ _ h => h) hC (by kernel_rfl) (fun w hSw => by obtain ⟨x0, x1, x2⟩ := hSw; go_simp) ?_
          try simp only [Act.put, List.setIfInBounds_toArray, List.set_cons_zero, List.set_cons_succ]
          refine held_take 19 (d := some 76) (v := (.pointer (some ⟨q, 0, none⟩))) rfl rfl (by kernel_rfl) (by kernel_rfl) (by kernel_rfl) (fun _ _ _ h => h) hC (by kernel_rfl) (fun w hSw => by obtain ⟨x0, x1, x2⟩ := hSw; go_simp) ?_
          try simp only [Act.put, List.setIfInBounds_toArray, List.set_cons_zero, List.set_cons_succ]
          refine held_take 20 (d := some 77) (v := (.pointer (some ⟨q, 0, none⟩))) rfl rfl (by kernel_rfl) (by kernel_rfl) (by kernel_rfl) (fun _ _ _ h => h) hC (by kernel_rfl) (fun w hSw => by obtain ⟨x0, x1, x2⟩ := hSw; go_simp) ?_
          try simp only [Act.put, List.setIfInBounds_toArray, List.set_cons_zero, List.set_cons_succ]
          refine held_take 21 (d := some 78) (v := (.pointer (some ⟨q, 0, none⟩))) rfl rfl (by kernel_rfl) (by kernel_rfl) (by kernel_rfl) (fun _ _ _ h => h) hC (by kernel_rfl) (fun w hSw => by obtain ⟨x0, x1, x2⟩ := hSw; go_simp) ?_
          try simp only [Act.put, List.setIfInBounds_toArray, List.set_cons_zero, List.set_cons_succ]
          refine held_take 22 (d := some 79) (v := (.pointer (some ⟨q, 1, none⟩))) rfl rfl (by kernel_rfl) (by kernel_rfl) (by kernel_rfl) (fun _ _ _ h => h) hC (by kernel_rfl) (fun w hSw => by obtain ⟨x0, x1, x2⟩ := hSw; go_simp) ?_
          try simp only [Act.put, List.setIfInBounds_toArray, List.set_cons_zero, List.set_cons_succ]
          refine held_take 23 (d := some 80) (v := (.slice a1 (rowS S' 1).length c1')) rfl rfl (by kernel_rfl) (by kernel_rfl) (by kernel_rfl) (fun _ _ _ h => h) hC (by kernel_rfl) (fun w hSw => by obtain ⟨x0, x1, x2⟩ := hSw; go_simp) ?_
          try simp only [Act.put, List.setIfInBounds_toArray, List.set_cons_zero, List.set_cons_succ]
          refine held_take 24 (d := some 81) (v := (.int .i64 (rowS S' 1).length)) rfl rfl (by kernel_rfl) (by kernel_rfl) (by kernel_rfl) (fun _ _ _ h => h) hC (by kernel_rfl) (fun w hSw => by obtain ⟨x0, x1, x2⟩ := hSw; go_simp) ?_
          try simp only [Act.put, List.setIfInBounds_toArray, List.set_cons_zero, List.set_cons_succ]
          refine held_one 18 rfl (by kernel_rfl) (fun K hK => ?_)
          go_simp
          go_at_call 14
          refine L1.out.mono ?_
          rintro e w6 ⟨rfl, rfl⟩
          rw [if_pos (show isW 1 = true from rfl)]
          go_simp
          refine hK _ _ hC ?_
          clear hK K
          try simp only [Act.put, List.setIfInBounds_toArray, List.set_cons_zero, List.set_cons_succ]
          refine held_take 25 (d := some 82) (v := (.bool false)) rfl rfl (by kernel_rfl) (by kernel_rfl) (by kernel_rfl) (fun _ _ _ h => h) hC (by kernel_rfl) (fun w hSw => by obtain ⟨x0, x1, x2⟩ := hSw; go_simp) ?_
          try simp only [Act.put, List.setIfInBounds_toArray, List.set_cons_zero, List.set_cons_succ]
          refine held_take 26 (d := some 83) (v := (.bool false)) rfl rfl (by kernel_rfl) (by kernel_rfl) (by kernel_rfl) (fun _ _ _ h => h) hC (by kernel_rfl) (fun w hSw => by obtain ⟨x0, x1, x2⟩ := hSw; go_simp) ?_
          try simp only [Act.put, List.setIfInBounds_toArray, List.set_cons_zero, List.set_cons_succ]
          refine held_take 27 (d := some 84) (v := (.bool false)) rfl rfl (by kernel_rfl) (by kernel_rfl) (by kernel_rfl) (fun _ _ _ h => h) hC (by kernel_rfl) (fun w hSw => by obtain ⟨x0, x1, x2⟩ := hSw; go_simp) ?_
          try simp only [Act.put, List.setIfInBounds_toArray, List.set_cons_zero, List.set_cons_succ]
          refine held_take 28 (d := some 85) (v := (.pointer (some ⟨D, 1, none⟩))) rfl rfl (by kernel_rfl) (by kernel_rfl) (by kernel_rfl) (fun _ _ _ h => h) hC (by kernel_rfl) (fun w hSw => by obtain ⟨x0, x1, x2⟩ := hSw; go_simp) ?_
          try simp only [Act.put, List.setIfInBounds_toArray, List.set_cons_zero, List.set_cons_succ]
          refine held_take 29 (d := some 86) (v := (.int .i64 y)) rfl rfl (by kernel_rfl) (by kernel_rfl) (by kernel_rfl) (fun _ _ _ h => h) hC (by kernel_rfl) (fun w hSw => by obtain ⟨x0, x1, x2⟩ := hSw; go_simp) ?_
          try simp only [Act.put, List.setIfInBounds_toArray, List.set_cons_zero, List.set_cons_succ]
          refine held_take 30 (d := some 87) (v := (.bool true)) rfl rfl (by kernel_rfl) (by kernel_rfl) (by kernel_rfl) (fun _ _ _ h => h) hC (by kernel_rfl) (fun w hSw => by obtain ⟨x0, x1, x2⟩ := hSw; go_simp) ?_
          try simp only [Act.put, List.setIfInBounds_toArray, List.set_cons_zero, List.set_cons_succ]
          refine held_take 31 (d := some 88) (v := (.bool true)) rfl rfl (by kernel_rfl) (by kernel_rfl) (by kernel_rfl) (fun _ _ _ h => h) hC (by kernel_rfl) (fun w hSw => by obtain ⟨x0, x1, x2⟩ := hSw; go_simp) ?_
          try simp only [Act.put, List.setIfInBounds_toArray, List.set_cons_zero, List.set_cons_succ]
          refine held_take 32 (d := some 89) (v := (.pointer (some ⟨D, 1, none⟩))) rfl rfl (by kernel_rfl) (by kernel_rfl) (by kernel_rfl) (fun _ _ _ h => h) hC (by kernel_rfl) (fun w hSw => by obtain ⟨x0, x1, x2⟩ := hSw; go_simp) ?_
          try simp only [Act.put, List.setIfInBounds_toArray, List.set_cons_zero, List.set_cons_succ]
          refine held_take 33 (d := some 90) (v := (.int .i64 y)) rfl rfl (by kernel_rfl) (by kernel_rfl) (by kernel_rfl) (fun _ _ _ h => h) hC (by kernel_rfl) (fun w hSw => by obtain ⟨x0, x1, x2⟩ := hSw; go_simp) ?_
          try simp only [Act.put, List.setIfInBounds_toArray, List.set_cons_zero, List.set_cons_succ]
          refine held_take 34 (d := some 91) (v := (.bool true)) rfl rfl (by kernel_rfl) (by kernel_rfl) (by kernel_rfl) (fun _ _ _ h => h) hC (by kernel_rfl) (fun w hSw => by obtain ⟨x0, x1, x2⟩ := hSw; go_simp) ?_
          try simp only [Act.put, List.setIfInBounds_toArray, List.set_cons_zero, List.set_cons_succ]
          refine held_take 35 (d := some 92) (v := (.bool true)) rfl rfl (by kernel_rfl) (by kernel_rfl) (by kernel_rfl) (fun _ _ _ h => h) hC (by kernel_rfl) (fun w hSw => by obtain ⟨x0, x1, x2⟩ := hSw; go_simp) ?_
          try simp only [Act.put, List.setIfInBounds_toArray, List.set_cons_zero, List.set_cons_succ]
          refine held_take 36 (d := some 93) (v := (.bool true)) rfl rfl (by kernel_rfl) (by kernel_rfl) (by kernel_rfl) (fun _ _ _ h => h) hC (by kernel_rfl) (fun w hSw => by obtain ⟨x0, x1, x2⟩ := hSw; go_simp) ?_
          try simp only [Act.put, List.setIfInBounds_toArray, List.set_cons_zero, List.set_cons_succ]
          refine held_take 37 (d := some 94) (v := (.pointer (some ⟨p, 0, none⟩))) rfl rfl (by kernel_rfl) (by kernel_rfl) (by kernel_rfl) (fun _ _ _ h => h) hC (by kernel_rfl) (fun w hSw => by obtain ⟨x0, x1, x2⟩ := hSw; go_simp) ?_
          try simp only [Act.put, List.setIfInBounds_toArray, List.set_cons_zero, List.set_cons_succ]
          refine held_take 38 (d := some 95) (v := (.pointer (some ⟨D, 1, none⟩))) rfl rfl (by kernel_rfl) (by kernel_rfl) (by kernel_rfl) (fun _ _ _ h => h) hC (by kernel_rfl) (fun w hSw => by obtain ⟨x0, x1, x2⟩ := hSw; go_simp) ?_
          try simp only [Act.put, List.setIfInBounds_toArray, List.set_cons_zero, List.set_cons_succ]
          refine held_take 39 (d := some 96) (v := (.int .i64 y)) rfl rfl (by kernel_rfl) (by kernel_rfl) (by kernel_rfl) (fun _ _ _ h => h) hC (by kernel_rfl) (fun w hSw => by obtain ⟨x0, x1, x2⟩ := hSw; go_simp) ?_
          try simp only [Act.put, List.setIfInBounds_toArray, List.set_cons_zero, List.set_cons_succ]
          refine held_one 40 rfl (by kernel_rfl) (fun K hK => ?_)
          go_simp
          go_at_call 14
          refine Ly.out.mono ?_
          rintro e w6 ⟨rfl, rfl⟩
          rw [if_neg hWn.out]
          go_simp
          refine hK _ _ hC ?_
          clear hK K
          try simp only [Act.put, List.setIfInBounds_toArray, List.set_cons_zero, List.set_cons_succ]
          refine held_take 41 (d := some 98) (v := (.bool false)) rfl rfl (by kernel_rfl) (by kernel_rfl) (by kernel_rfl) (fun _ _ _ h => h) hC (by kernel_rfl) (fun w hSw => by obtain ⟨x0, x1, x2⟩ := hSw; go_simp) ?_
          try simp only [Act.put, List.setIfInBounds_toArray, List.set_cons_zero, List.set_cons_succ]
          refine held_take 42 (d := some 99) (v := (.bool false)) rfl rfl (by kernel_rfl) (by kernel_rfl) (by kernel_rfl) (fun _ _ _ h => h) hC (by kernel_rfl) (fun w hSw => by obtain ⟨x0, x1, x2⟩ := hSw; go_simp) ?_
          try simp only [Act.put, List.setIfInBounds_toArray, List.set_cons_zero, List.set_cons_succ]
          refine held_take 43 (d := some 100) (v := (.bool false)) rfl rfl (by kernel_rfl) (by kernel_rfl) (by kernel_rfl) (fun _ _ _ h => h) hC (by kernel_rfl) (fun w hSw => by obtain ⟨x0, x1, x2⟩ := hSw; go_simp) ?_
          try simp only [Act.put, List.setIfInBounds_toArray, List.set_cons_zero, List.set_cons_succ]
          refine wpAnyH_done (by kernel_rfl) ?_ _
          go_wp2_with fail
          go_roundw
          case rel => exact ⟨j + 1, S', F', G', by omega, by go_num, hT5'.out, hS5'.out⟩
          case measure => simp [intOf]; omega
    · have hge : ¬ ((j : Int) < (ds.length : Int)) := by omega
      clear hlt
      go_wp2_with fail
      go_loopw [10, 11, 12, 13, 14] (fun u10 u11 u12 u13 u14 wr => ∃ (k : Nat) (S : St) (F G : Nat → Prop), k ≤ 2 ∧ u10 = .int .i64 k ∧ Two w1 wr p q S S F G ∧ Small S ∧ (0 < k → rowS S 0 = []) ∧ (1 < k → rowS S 1 = [])) (fun u10 _ _ _ _ _ => 2 - (intOf u10).toNat)
      case atStart => exact ⟨0, S, F, G, by omega, rfl, hT, HS.out, fun h => by omega, fun h => by omega⟩
      case round =>
        clear hT HS
        obtain ⟨k, S, F, G, hk, rfl, hT, hS, h0, h1⟩ := hrel
        by_cases hk2 : k < 2
        · rcases (by omega : k = 0 ∨ k = 1) with rfl | rfl
          · have HP0 := Lib.hid h0
            clear h0 h1
            have hsz := Lib.hid hT.bel
            go_wp2_with fail
            go_loopg [11, 12, 13, 14] (rowS S 0).length (fun g u11 u12 u13 u14 wr => ∃ (S : St) (F G : Nat → Prop), g = (rowS S 0).length ∧ Two w1 wr p q S S F G ∧ Small S ∧ (0 < 0 → rowS S 0 = []))
            case atStart => exact ⟨S, F, G, rfl, hT, hS, HP0.out⟩
            case round =>
              clear hT hS HP0
              obtain ⟨S, F, G, hg, hT, hS, hp0⟩ := hrel
              have HG := Lib.hid hg
              have HP0 := Lib.hid hp0
              have HS := Lib.hid hS
              clear hg hp0 hS
              obtain ⟨a0, c0, a1, c1, q0, q1⟩ := hT.net2.cells
              by_cases hz : (rowS S 0).length = 0
              · have hz0 : ¬ ((0 : Int) < ((rowS S 0).length : Int)) := by omega
                have HE := Lib.hid (List.eq_nil_of_length_eq_zero hz)
                clear hz
                go_wp2_with fail
                go_roundw
                case rel => exact ⟨0 + 1, S, F, G, by omega, by go_num, hT, HS.out, fun h => HE.out, fun h => by omega⟩
                case measure => simp [intOf]
              · have hz0 : (0 : Int) < ((rowS S 0).length : Int) := by omega
                have hgc : getC S 0 0 = 0 := by unfold getC; rw [if_pos (show isW 0 = true from rfl), if_pos ⟨Int.le_refl _, hz0⟩]
                have HGC := Lib.hid hgc
                have HLEN := Lib.hid (show (rowS (takeS S 0 0) 0).length < (rowS S 0).length by
                  unfold takeS
                  rw [if_pos hgc, rowS_setS, List.length_eraseIdx]
                  split <;> omega)
                have HK0 := Lib.hid (show 0 < 0 → rowS (takeS S 0 0) 0 = [] from fun h => by
                  have := HP0.out h
                  unfold takeS
                  rw [if_pos hgc]
                  exact absurd h (by omega))
                clear hgc hz
                go_wp2_with fail
                refine (s_take w1.heap.size p _ _ 0 0 _ hT.net1).mono ?_
                rintro e w5 ⟨a5, n5, c5, rfl, hr5, hf5, hst⟩
                rw [HGC.out] at hr5 ⊢
                rw [if_pos rfl] at hr5
                obtain ⟨F5, hT5, hu5, hF5⟩ := hT.step1 hst
                clear hst
                go_wp2_with fail
                refine (r_take w1.heap.size q _ _ 0 0 _ hT5.net2 (Nat.le_trans (HS.out 0).1 (by decide))).mono ?_
                rintro e w6 ⟨a6, n6, c6, rfl, hr6, hf6, hst⟩
                rw [HGC.out] at hr6 ⊢
                rw [if_pos rfl] at hr6
                obtain ⟨G6, hT6, hu6, hG6⟩ := hT5.step2 hst
                have hr5' := hr5.upd hu6 (fun x hx hg => hT.far _ (hf5 x hx) hg)
                clear hst hr5
                go_wp2_with fail
                refine (same_any _ _ _ _ _ _ _ _ _ hr5' hr6).mono ?_
                rintro e w7 ⟨rfl, rfl⟩
                rw [decide_eq_true rfl]
                go_wp2_with fail
                go_roundg (rowS (takeS S 0 0) 0).length
                case rel => exact ⟨takeS S 0 0, F5, G6, rfl, hT6, HS.out.take 0 0, HK0.out⟩
                case measure => have h1 := HG.out; have h2 := HLEN.out; omega
          · have HP0 := Lib.hid h0
            clear h0 h1
            have hsz := Lib.hid hT.bel
            go_wp2_with fail
            go_loopg [11, 12, 13, 14] (rowS S 1).length (fun g u11 u12 u13 u14 wr => ∃ (S : St) (F G : Nat → Prop), g = (rowS S 1).length ∧ Two w1 wr p q S S F G ∧ Small S ∧ (0 < 1 → rowS S 0 = []))
            case atStart => exact ⟨S, F, G, rfl, hT, hS, HP0.out⟩
            case round =>
              clear hT hS HP0
              obtain ⟨S, F, G, hg, hT, hS, hp0⟩ := hrel
              have HG := Lib.hid hg
              have HP0 := Lib.hid hp0
              have HS := Lib.hid hS
              clear hg hp0 hS
              obtain ⟨a0, c0, a1, c1, q0, q1⟩ := hT.net2.cells
              by_cases hz : (rowS S 1).length = 0
              · have hz0 : ¬ ((0 : Int) < ((rowS S 1).length : Int)) := by omega
                have HE := Lib.hid (List.eq_nil_of_length_eq_zero hz)
                clear hz
                go_wp2_with fail
                go_roundw
                case rel => exact ⟨1 + 1, S, F, G, by omega, by go_num, hT, HS.out, fun h => HP0.out (by omega), fun h => HE.out⟩
                case measure => simp [intOf]
              · have hz0 : (0 : Int) < ((rowS S 1).length : Int) := by omega
                have hgc : getC S 1 0 = 0 := by unfold getC; rw [if_pos (show isW 1 = true from rfl), if_pos ⟨Int.le_refl _, hz0⟩]
                have HGC := Lib.hid hgc
                have HLEN := Lib.hid (show (rowS (takeS S 1 0) 1).length < (rowS S 1).length by
                  unfold takeS
                  rw [if_pos hgc, rowS_setS, List.length_eraseIdx]
                  split <;> omega)
                have HK0 := Lib.hid (show 0 < 1 → rowS (takeS S 1 0) 0 = [] from fun h => by
                  have := HP0.out h
                  unfold takeS
                  rw [if_pos hgc]
                  exact (rowS_other S 1 rfl _).trans this)
                clear hgc hz
                go_wp2_with fail
                refine (s_take w1.heap.size p _ _ 1 0 _ hT.net1).mono ?_
                rintro e w5 ⟨a5, n5, c5, rfl, hr5, hf5, hst⟩
                rw [HGC.out] at hr5 ⊢
                rw [if_pos rfl] at hr5
                obtain ⟨F5, hT5, hu5, hF5⟩ := hT.step1 hst
                clear hst
                go_wp2_with fail
                refine (r_take w1.heap.size q _ _ 1 0 _ hT5.net2 (Nat.le_trans (HS.out 1).1 (by decide))).mono ?_
                rintro e w6 ⟨a6, n6, c6, rfl, hr6, hf6, hst⟩
                rw [HGC.out] at hr6 ⊢
                rw [if_pos rfl] at hr6
                obtain ⟨G6, hT6, hu6, hG6⟩ := hT5.step2 hst
                have hr5' := hr5.upd hu6 (fun x hx hg => hT.far _ (hf5 x hx) hg)
                clear hst hr5
                go_wp2_with fail
                refine (same_any _ _ _ _ _ _ _ _ _ hr5' hr6).mono ?_
                rintro e w7 ⟨rfl, rfl⟩
                rw [decide_eq_true rfl]
                go_wp2_with fail
                go_roundg (rowS (takeS S 1 0) 1).length
                case rel => exact ⟨takeS S 1 0, F5, G6, rfl, hT6, HS.out.take 1 0, HK0.out⟩
                case measure => have h1 := HG.out; have h2 := HLEN.out; omega
        · obtain rfl : k = 2 := by omega
          have h0' := h0 (by omega)
          have h1' := h1 (by omega)
          have L0 := Lib.hid (s_len w1.heap.size p S F 0 wr hT.net1)
          have L1 := Lib.hid (s_len w1.heap.size p S F 1 wr hT.net1)
          have H0 := Lib.hid h0'
          have H1 := Lib.hid h1'
          clear h0 h1 h0' h1' hS
          go_wp2_with fail
          refine L0.out.mono ?_
          rintro e w6 ⟨rfl, rfl⟩
          rw [if_pos (show isW 0 = true from rfl), H0.out]
          go_wp2_with fail
          refine L1.out.mono ?_
          rintro e w6 ⟨rfl, rfl⟩
          rw [if_pos (show isW 1 = true from rfl), H1.out]
          go_wp2_with fail
          go_ret
          exact ⟨rfl, hb1.trans (hT.bel.mono hb1.size)⟩
end Go.Proofs.Ytnbikaiejeclnaa
