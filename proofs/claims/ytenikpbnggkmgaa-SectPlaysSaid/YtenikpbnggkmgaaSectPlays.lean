/- The walk of SectPlays. Conditions stand as premises. -/
import Derived.Test.YtenikpbnggkmgaaSectDo
import Derived.Test.YtenikpbnggkmgaaSectGaps
import Derived.Test.YtenikpbnggkmgaaManual
import Derived.Deep.CutRange
import Derived.Deep.RegionHeld3
import Derived.Deep.Cut
import Derived.Deep.CutBlock
import Derived.Outline
namespace Go.Proofs.Ytenikpbnggkmgaa
open Go.ChangeShapes Go.WideShapes Go.ChangeAt Go.RowKit
set_option linter.unusedVariables false
set_option linter.unusedSimpArgs false

theorem same_tt (a1 a2 : Option Addr) (n c1 c2 : Nat) (l : List Int) (w : World) (h1 : RdB w a1 n c1 l) (h2 : RdB w a2 n c2 l) :
    Calls Try.prog 13 #[.slice a1 n c1, .slice a2 n c2] w fun e w' => e = .returned (.bool true) ∧ w = w' := by
  have := same_any a1 a2 n c1 n c2 l l w h1 h2
  rwa [decide_eq_true rfl] at this
theorem dirty_100 {w : World} {base p : Nat} {b s : List Int} {F : Nat → Prop} (h : FileS w base p b s F) : (dirtyL b s).length ≤ 100000 := by
  have h1 := dirtyTo_le b s (nsec b s)
  have h2 := nsec_small h.lb h.ls
  unfold dirtyL
  omega

set_option maxRecDepth 100000 in
set_option maxHeartbeats 40000000 in
theorem sectplays_law (a : Option Addr) (n c : Nat) (ds : List SDoV) (w : World) (hr : RdSDo w a n c ds) :
    Calls Try.prog 6 #[.slice a n c] w fun e w' => e = .returned (.bool true) ∧ Below w.heap.size w w' := by
  obtain rfl : ds.length = n := hr.1
  have hcap := hr.2.1
  have h63 := hr.2.2.1
  unfold maxLen at h63
  by_cases h40 : (40 : Int) < (ds.length : Int)
  · go_enter Try.func6, Try.ntmps6
    go_wp2_with fail
    refine (sfirst_any _).mono ?_
    rintro e w1 ⟨rfl, hb1⟩
    go_wp2_with fail
    go_ret
    exact ⟨rfl, hb1⟩
  have h40' : (ds.length : Int) ≤ 40 := by omega
  clear h40
  go_enter Try.func6, Try.ntmps6
  go_wp2_with fail
  refine (sfirst_any _).mono ?_
  rintro e w1 ⟨rfl, hb1⟩
  go_wp2_with fail
  refine (sectnew _).mono ?_
  rintro e w2 ⟨rfl, hs2, hb2⟩
  have hs3 := (hs2.base hb1.size).below (below_alloc w2 (.cells #[.slice none 0 0, .slice none 0 0, .int .i64 0] 47))
  have hg3 := refsnew (w := w2) (T := 47) (z := 0) w.heap.size (Nat.le_trans hb1.size hb2.size)
  have hb3 : Below w.heap.size w (w2.alloc (.cells #[.slice none 0 0, .slice none 0 0, .int .i64 0] 47)) := (hb1.trans (hb2.mono hb1.size)).alloc (Nat.le_trans hb1.size hb2.size) _
  have hfar : ∀ j, j = w1.heap.size → ¬ j = w2.heap.size := fun j hj h => by have := (hs2.mem hj).2; omega
  have hT0 : TwoF w (w2.alloc (.cells #[.slice none 0 0, .slice none 0 0, .int .i64 0] 47)) w1.heap.size w2.heap.size [] [] (· = w1.heap.size) (· = w2.heap.size) := ⟨hs3, hg3, hfar, hb3⟩
  obtain ⟨p0, hp⟩ : ∃ p, w1.heap.size = p := ⟨_, rfl⟩
  obtain ⟨q0, hq⟩ : ∃ q, w2.heap.size = q := ⟨_, rfl⟩
  rw [hp, hq] at hT0
  rw [hp]
  have HQ0 := Lib.hid hq
  clear hs3 hg3 hb3 hfar hs2 hb2 hp hq
  go_wp2_with fail
  rw [HQ0.out]
  generalize w2.alloc (.cells #[.slice none 0 0, .slice none 0 0, .int .i64 0] 47) = w3 at *
  go_loopw [4, 5, 6] (fun u4 u5 u6 wr => ∃ (j p q : Nat) (B S : List Int) (F G : Nat → Prop), j ≤ ds.length ∧ u4 = .pointer (some ⟨p, 0, none⟩) ∧ u5 = .pointer (some ⟨q, 0, none⟩) ∧ u6 = .int .i64 j ∧ TwoF w wr p q B S F G) (fun _ _ u6 _ => ds.length - (intOf u6).toNat)
  case atStart => exact ⟨0, _, _, _, _, _, _, Nat.zero_le _, rfl, rfl, rfl, hT0⟩
  case round =>
    obtain ⟨j, p, q, B, S, F, G, hj, rfl, rfl, rfl, hT⟩ := hrel
    by_cases hlt : j < ds.length
    · obtain ⟨E, off, rfl, hd, hRb, hRk⟩ : ∃ E off, a = some ⟨E, off, none⟩ ∧ SDoAt wr E (off + j * 5) ds[j] ∧ RdB w ds[j].ba ds[j].bn ds[j].bc ds[j].bl ∧ Rd encBo w ds[j].ka ds[j].kn ds[j].kc ds[j].kl := by
        rcases hr.2.2.2 with h0 | ⟨E, off, ha, hd⟩
        · omega
        · exact ⟨E, off, ha, (hd j _ (List.getElem?_eq_getElem hlt)).mono hT.bel, (hd j _ (List.getElem?_eq_getElem hlt)).rb, (hd j _ (List.getElem?_eq_getElem hlt)).rk⟩
      generalize hdd : ds[j] = d at hd hRb hRk
      clear hdd
      obtain ⟨k, x, y, ba, bn, bc, bl, ka, kn, kc, kl⟩ := d
      have c0 := hd.d0
      have c1 := hd.d1
      have c2 := hd.d2
      have c3 := hd.d3
      have c4 := hd.d4
      have hbx : I64 x := hd.bq
      have hby : I64 y := hd.bm
      unfold I64 at hbx hby
      obtain ⟨hbx1, hbx2⟩ := hbx
      obtain ⟨hby1, hby2⟩ := hby
      have HRb := Lib.hid (show RdB w ba bn bc bl from hRb)
      have HRk := Lib.hid (show Rd encBo w ka kn kc kl from hRk)
      clear hd hRb hRk
      have hX := SBox.new wr 49 k x y ba bn bc ka kn kc
      have hT1 := hT.below (below_alloc wr (.cells #[.int .i64 k, .int .i64 x, .int .i64 y, .slice ba bn bc, .slice ka kn kc] 49))
      have hFr : (wr.alloc (.cells #[.int .i64 k, .int .i64 x, .int .i64 y, .slice ba bn bc, .slice ka kn kc] 49)).heap[wr.heap.size]? = some (.cells #[.int .i64 k, .int .i64 x, .int .i64 y, .slice ba bn bc, .slice ka kn kc] 49) := heap_alloc_new wr _
      have hDF : ¬ F wr.heap.size := fun h => by have := (hT.f.mem h).2; omega
      have hDG : ¬ G wr.heap.size := fun h => by have := (hT.g.mem h).2; omega
      have hDw := hT.bel.size
      have ij0 : (0 : Int) ≤ (j : Int) := by omega
      have ijk : (j : Int) < (ds.length : Int) := by omega
      by_cases h15 : (1500 : Int) < (bn : Int)
      · have HBl := Lib.hid hT1.bel
        clear hX hT1 hFr hT
        go_wp2_with fail
        go_ret
        exact ⟨rfl, HBl.out⟩
      have h15' : (bn : Int) ≤ 1500 := by omega
      clear h15
      by_cases h100 : (100 : Int) < (kn : Int)
      · have HBl := Lib.hid hT1.bel
        clear hX hT1 hFr hT
        go_wp2_with fail
        go_ret
        exact ⟨rfl, HBl.out⟩
      have h100' : (kn : Int) ≤ 100 := by omega
      clear h100
      have HT := Lib.hid hT1
      have HX := Lib.hid hX
      clear hT hFr
      go_upto_block 2 with fail
      generalize wr.alloc (.cells #[.int .i64 k, .int .i64 x, .int .i64 y, .slice ba bn bc, .slice ka kn kc] 49) = wD at *
      obtain ⟨D, hD⟩ : ∃ D, wr.heap.size = D := ⟨_, rfl⟩
      rw [hD] at HX hDF hDG hDw
      try rw [hD] at *
      clear hD
      go_cut [4, 5] from 46 to 86 (fun s4 s5 wx => ∃ (p' q' : Nat) (B' S' : List Int) (F' G' : Nat → Prop), s4 = .pointer (some ⟨p', 0, none⟩) ∧ s5 = .pointer (some ⟨q', 0, none⟩) ∧ TwoF w wx p' q' B' S' F' G' ∧ SBox wx D k x y ba bn bc ka kn kc)
      case first =>
        by_cases hk012 : k = 0 ∨ k = 1 ∨ k = 2
        · have hrb := (HRb.out.mono HT.out.bel).drewd
          have HW1 := Lib.hid (sectwrite_any _ _ _ _ _ x _ _ _ bl wD.drew (HT.out.below (below_drew wD)).f hrb ((HT.out.below (below_drew wD)).f.apart HRb.out) ⟨hbx1, hbx2⟩ (by omega))
          have HTd := Lib.hid (HT.out.below (below_drew wD))
          have kd := (HX.out.below (below_drew wD)).d1
          have bd := (HX.out.below (below_drew wD)).d3
          have hqD : ¬ D = q := fun e => hDG (e ▸ HT.out.g.own)
          clear hrb
          rcases hk012 with rfl | rfl | rfl
          all_goals
            go_wp2_with fail
            go_region_held3 (fun w' : World => w'.cell? ⟨D, 1, none⟩ = some (.int .i64 x) ∧ w'.cell? ⟨D, 3, none⟩ = some (.slice ba bn bc)) (first | exact ⟨kd, bd⟩ | exact ⟨kd2, bd2⟩ | exact ⟨kd3, bd3⟩) ((first | ((with_reducible refine HW1.out.mono ?_); rintro e w4 ⟨rfl, hst⟩; obtain ⟨hg4, hb4, hu4⟩ := HTd.out.mid hst; have kd2 := hu4.cell kd hDF; have bd2 := hu4.cell bd hDF) | ((with_reducible refine (refwrite_any _ _ _ _ _ x _ _ _ bl w4 hg4 (HRb.out.mono hb4) ⟨hbx1, hbx2⟩ (by omega)).mono ?_); rintro e w5 ⟨rfl, hst2⟩; obtain ⟨F5, G5, hT5, hU5⟩ := HTd.out.step hst hst2; have hX5 := (HX.out.below (below_drew wD)).upd hU5 (fun h => h.elim hDF hDG); have kd3 := hX5.d1; have bd3 := hX5.d3)))
            have HT5 := Lib.hid hT5
            have HX5 := Lib.hid hX5
            clear hst hst2 hg4 hb4 hu4 kd2 bd2 kd3 bd3 hT5 hX5 hU5
            go_wp2_with fail
            go_meet
            exact ⟨p, q, _, _, F5, G5, rfl, rfl, HT5.out, HX5.out⟩
        · have n0 : (k == 0) = false := by rw [beq_eq_false_iff_ne]; omega
          have n1 : (k == 1) = false := by rw [beq_eq_false_iff_ne]; omega
          have n2 : (k == 2) = false := by rw [beq_eq_false_iff_ne]; omega
          clear hk012
          by_cases h3 : k = 3
          · subst h3
            clear n0 n1 n2
            go_wp2_with fail
            refine (sectsync _ _ _ _ _ _ HT.out.f).mono ?_
            rintro e w4 ⟨rfl, hst⟩
            obtain ⟨hg4, hb4, hu4⟩ := HT.out.mid hst
            go_wp2_with fail
            refine (refsync _ _ _ _ _ _ hg4).mono ?_
            rintro e w5 ⟨rfl, hst2⟩
            obtain ⟨F5, G5, hT5, hU5⟩ := HT.out.step hst hst2
            have HX5 := Lib.hid (HX.out.upd hU5 (fun h => h.elim hDF hDG))
            have HT5 := Lib.hid hT5
            clear hst hst2 hg4 hb4 hu4 hT5 hU5
            go_wp2_with fail
            go_meet
            exact ⟨p, q, _, _, F5, G5, rfl, rfl, HT5.out, HX5.out⟩
          · have n3 : (k == 3) = false := by rw [beq_eq_false_iff_ne]; omega
            by_cases h4 : k = 4
            · subst h4
              clear n0 n1 n2 n3 h3
              have bd := HX.out.d4
              go_wp2_with fail
              refine (sectcrash _ _ _ _ _ _ _ _ kl _ HT.out.f (HRk.out.mono HT.out.bel) (by omega)).mono ?_
              rintro e w4 ⟨rfl, hst⟩
              obtain ⟨hg4, hb4, hu4⟩ := HT.out.mid hst
              have bd2 := hu4.cell bd hDF
              go_wp2_with fail
              refine (refcrash _ _ _ _ _ _ _ _ kl _ hg4 (HRk.out.mono hb4) (by omega)).mono ?_
              rintro e w5 ⟨rfl, hst2⟩
              rw [← crash_same] at hst2
              obtain ⟨F5, G5, hT5, hU5⟩ := HT.out.step hst hst2
              have HX5 := Lib.hid (HX.out.upd hU5 (fun h => h.elim hDF hDG))
              have HT5 := Lib.hid hT5
              clear hst hst2 hg4 hb4 hu4 hT5 hU5
              go_wp2_with fail
              go_meet
              exact ⟨p, q, _, _, F5, G5, rfl, rfl, HT5.out, HX5.out⟩
            · have n4 : (k == 4) = false := by rw [beq_eq_false_iff_ne]; omega
              by_cases h5 : k = 5
              · subst h5
                clear n0 n1 n2 n3 n4 h3 h4
                go_wp2_with fail
                refine (sectcopy _ _ _ _ _ _ HT.out.f).mono ?_
                rintro e w4 ⟨p', F', rfl, hf4, hb4⟩
                go_wp2_with fail
                refine (refcopy _ _ _ _ _ _ (HT.out.g.below hb4)).mono ?_
                rintro e w5 ⟨q', G', rfl, hg5, hb5, hG5⟩
                have HT5 := Lib.hid (HT.out.copied hf4 hb4 hg5 hb5 hG5)
                have HX5 := Lib.hid ((HX.out.below hb4).below hb5)
                clear hf4 hb4 hg5 hb5 hG5
                go_wp2_with fail
                go_meet
                exact ⟨p', q', _, _, F', G', rfl, rfl, HT5.out, HX5.out⟩
              · have n5 : (k == 5) = false := by rw [beq_eq_false_iff_ne]; omega
                clear h3 h4 h5
                go_wp2_with fail
                go_meet
                exact ⟨p, q, _, _, F, G, rfl, rfl, HT.out, HX.out⟩
      case rest =>
        clear HT HX hDF hDG hX hT1
        obtain ⟨p, q, B, S, F, G, rfl, rfl, hT, hX⟩ := hcut
        have d1 := hX.d1
        have d2 := hX.d2
        have HT := Lib.hid hT
        have HX := Lib.hid hX
        clear hT hX c0 c1 c2 c3 c4
        go_wp2_with fail
        refine (sectread_any _ _ _ _ _ x y _ HT.out.f ⟨hbx1, hbx2⟩ ⟨hby1, hby2⟩).mono ?_
        rintro e w4 ⟨xa, xc, rfl, ho4, hb4⟩
        have d3 := (HX.out.below hb4).d1
        have d4 := (HX.out.below hb4).d2
        have HT4 := Lib.hid (HT.out.below hb4)
        go_wp2_with fail
        refine (refread_any _ _ _ _ _ x y _ HT4.out.g ⟨hbx1, hbx2⟩ ⟨hby1, hby2⟩).mono ?_
        rintro e wz ⟨ya, yc, rfl, ho5, hb5⟩
        have hx4 := ho4.mono hb5
        have HTz := Lib.hid ((HT4.out.below hb5).below (below_drew wz))
        generalize freadL B x y = X at *
        generalize freadC B x y = C at *
        have L0 := Lib.hid (same_tt _ _ _ _ _ X wz.drew hx4.rd.drewd ho5.rd.drewd)
        have L1 := Lib.hid (sectlen _ _ _ _ _ wz.drew HTz.out.f)
        have L2 := Lib.hid (sectall _ _ _ _ _ wz.drew HTz.out.f)
        obtain ⟨na, nc, sa, sc, z0, z1, hN, hS⟩ := HTz.out.g.cells
        have HNow := Lib.hid hN
        have HSafe := Lib.hid hS
        have hC : wz.drew.cell? ⟨q, 0, none⟩ = some (.slice na B.length nc) ∧ wz.drew.cell? ⟨q, 1, none⟩ = some (.slice sa S.length sc) := ⟨z0, z1⟩
        have hqlt := (HTz.out.g.mem HTz.out.g.own).2
        clear hN hS z0 z1 ho4 hb4 ho5 hb5 hx4 d1 d2 d3 d4 HT4 HT HX
        go_wp2_with fail
        refine wp_region_any (by kernel_rfl) ?_
        change wpAny _ _ _ _ _ _ _ wz.drew
        refine wpAny_of_held (S := fun w' => w'.cell? ⟨q, 0, none⟩ = some (.slice na B.length nc) ∧ w'.cell? ⟨q, 1, none⟩ = some (.slice sa S.length sc)) _ _ _ _ ?_
        refine held_take 0 (d := some 105) (v := (.slice xa X.length xc)) rfl rfl (by kernel_rfl) (by kernel_rfl) (by kernel_rfl) (fun _ _ _ h => h) hC (by kernel_rfl) (fun w hSw => by obtain ⟨x0, x1⟩ := hSw; go_simp) ?_
        try simp only [Act.put, List.setIfInBounds_toArray, List.set_cons_zero, List.set_cons_succ]
        refine held_take 1 (d := some 106) (v := (.slice ya X.length yc)) rfl rfl (by kernel_rfl) (by kernel_rfl) (by kernel_rfl) (fun _ _ _ h => h) hC (by kernel_rfl) (fun w hSw => by obtain ⟨x0, x1⟩ := hSw; go_simp) ?_
        try simp only [Act.put, List.setIfInBounds_toArray, List.set_cons_zero, List.set_cons_succ]
        refine held_one 2 rfl (by kernel_rfl) (fun K hK => ?_)
        go_simp
        go_at_call 13
        refine L0.out.mono ?_
        rintro e w6 ⟨rfl, rfl⟩
        go_simp
        refine hK _ _ hC ?_
        clear hK K
        try simp only [Act.put, List.setIfInBounds_toArray, List.set_cons_zero, List.set_cons_succ]
        refine held_take 3 (d := some 108) (v := (.bool false)) rfl rfl (by kernel_rfl) (by kernel_rfl) (by kernel_rfl) (fun _ _ _ h => h) hC (by kernel_rfl) (fun w hSw => by obtain ⟨x0, x1⟩ := hSw; go_simp) ?_
        try simp only [Act.put, List.setIfInBounds_toArray, List.set_cons_zero, List.set_cons_succ]
        refine held_take 4 (d := some 109) (v := (.bool false)) rfl rfl (by kernel_rfl) (by kernel_rfl) (by kernel_rfl) (fun _ _ _ h => h) hC (by kernel_rfl) (fun w hSw => by obtain ⟨x0, x1⟩ := hSw; go_simp) ?_
        try simp only [Act.put, List.setIfInBounds_toArray, List.set_cons_zero, List.set_cons_succ]
        refine held_take 5 (d := some 110) (v := (.int .i64 C)) rfl rfl (by kernel_rfl) (by kernel_rfl) (by kernel_rfl) (fun _ _ _ h => h) hC (by kernel_rfl) (fun w hSw => by obtain ⟨x0, x1⟩ := hSw; go_simp) ?_
        try simp only [Act.put, List.setIfInBounds_toArray, List.set_cons_zero, List.set_cons_succ]
        refine held_take 6 (d := some 111) (v := (.int .i64 C)) rfl rfl (by kernel_rfl) (by kernel_rfl) (by kernel_rfl) (fun _ _ _ h => h) hC (by kernel_rfl) (fun w hSw => by obtain ⟨x0, x1⟩ := hSw; go_simp) ?_
        try simp only [Act.put, List.setIfInBounds_toArray, List.set_cons_zero, List.set_cons_succ]
        refine held_take 7 (d := some 112) (v := (.bool false)) rfl rfl (by kernel_rfl) (by kernel_rfl) (by kernel_rfl) (fun _ _ _ h => h) hC (by kernel_rfl) (fun w hSw => by obtain ⟨x0, x1⟩ := hSw; go_simp) ?_
        try simp only [Act.put, List.setIfInBounds_toArray, List.set_cons_zero, List.set_cons_succ]
        refine held_take 8 (d := some 113) (v := (.bool false)) rfl rfl (by kernel_rfl) (by kernel_rfl) (by kernel_rfl) (fun _ _ _ h => h) hC (by kernel_rfl) (fun w hSw => by obtain ⟨x0, x1⟩ := hSw; go_simp) ?_
        try simp only [Act.put, List.setIfInBounds_toArray, List.set_cons_zero, List.set_cons_succ]
        refine held_take 9 (d := some 114) (v := (.bool false)) rfl rfl (by kernel_rfl) (by kernel_rfl) (by kernel_rfl) (fun _ _ _ h => h) hC (by kernel_rfl) (fun w hSw => by obtain ⟨x0, x1⟩ := hSw; go_simp) ?_
        try simp only [Act.put, List.setIfInBounds_toArray, List.set_cons_zero, List.set_cons_succ]
        refine held_take 10 (d := some 115) (v := (.pointer (some ⟨p, 0, none⟩))) rfl rfl (by kernel_rfl) (by kernel_rfl) (by kernel_rfl) (fun _ _ _ h => h) hC (by kernel_rfl) (fun w hSw => by obtain ⟨x0, x1⟩ := hSw; go_simp) ?_
        try simp only [Act.put, List.setIfInBounds_toArray, List.set_cons_zero, List.set_cons_succ]
        refine held_take 12 (d := some 117) (v := (.pointer (some ⟨q, 0, none⟩))) rfl rfl (by kernel_rfl) (by kernel_rfl) (by kernel_rfl) (fun _ _ _ h => h) hC (by kernel_rfl) (fun w hSw => by obtain ⟨x0, x1⟩ := hSw; go_simp) ?_
        try simp only [Act.put, List.setIfInBounds_toArray, List.set_cons_zero, List.set_cons_succ]
        refine held_take 13 (d := some 118) (v := (.pointer (some ⟨q, 0, none⟩))) rfl rfl (by kernel_rfl) (by kernel_rfl) (by kernel_rfl) (fun _ _ _ h => h) hC (by kernel_rfl) (fun w hSw => by obtain ⟨x0, x1⟩ := hSw; go_simp) ?_
        try simp only [Act.put, List.setIfInBounds_toArray, List.set_cons_zero, List.set_cons_succ]
        refine held_take 14 (d := some 119) (v := (.pointer (some ⟨q, 0, none⟩))) rfl rfl (by kernel_rfl) (by kernel_rfl) (by kernel_rfl) (fun _ _ _ h => h) hC (by kernel_rfl) (fun w hSw => by obtain ⟨x0, x1⟩ := hSw; go_simp) ?_
        try simp only [Act.put, List.setIfInBounds_toArray, List.set_cons_zero, List.set_cons_succ]
        refine held_take 15 (d := some 120) (v := (.slice na B.length nc)) rfl rfl (by kernel_rfl) (by kernel_rfl) (by kernel_rfl) (fun _ _ _ h => h) hC (by kernel_rfl) (fun w hSw => by obtain ⟨x0, x1⟩ := hSw; go_simp) ?_
        try simp only [Act.put, List.setIfInBounds_toArray, List.set_cons_zero, List.set_cons_succ]
        refine held_take 16 (d := some 121) (v := (.int .i64 B.length)) rfl rfl (by kernel_rfl) (by kernel_rfl) (by kernel_rfl) (fun _ _ _ h => h) hC (by kernel_rfl) (fun w hSw => by obtain ⟨x0, x1⟩ := hSw; go_simp) ?_
        try simp only [Act.put, List.setIfInBounds_toArray, List.set_cons_zero, List.set_cons_succ]
        refine held_one 11 rfl (by kernel_rfl) (fun K hK => ?_)
        go_simp
        go_at_call 11
        refine L1.out.mono ?_
        rintro e w6 ⟨rfl, rfl⟩
        go_simp
        refine hK _ _ hC ?_
        clear hK K
        try simp only [Act.put, List.setIfInBounds_toArray, List.set_cons_zero, List.set_cons_succ]
        refine held_take 17 (d := some 122) (v := (.bool false)) rfl rfl (by kernel_rfl) (by kernel_rfl) (by kernel_rfl) (fun _ _ _ h => h) hC (by kernel_rfl) (fun w hSw => by obtain ⟨x0, x1⟩ := hSw; go_simp) ?_
        try simp only [Act.put, List.setIfInBounds_toArray, List.set_cons_zero, List.set_cons_succ]
        refine held_take 18 (d := some 123) (v := (.bool false)) rfl rfl (by kernel_rfl) (by kernel_rfl) (by kernel_rfl) (fun _ _ _ h => h) hC (by kernel_rfl) (fun w hSw => by obtain ⟨x0, x1⟩ := hSw; go_simp) ?_
        try simp only [Act.put, List.setIfInBounds_toArray, List.set_cons_zero, List.set_cons_succ]
        refine held_take 19 (d := some 124) (v := (.bool false)) rfl rfl (by kernel_rfl) (by kernel_rfl) (by kernel_rfl) (fun _ _ _ h => h) hC (by kernel_rfl) (fun w hSw => by obtain ⟨x0, x1⟩ := hSw; go_simp) ?_
        try simp only [Act.put, List.setIfInBounds_toArray, List.set_cons_zero, List.set_cons_succ]
        refine held_take 20 (d := some 125) (v := (.pointer (some ⟨p, 0, none⟩))) rfl rfl (by kernel_rfl) (by kernel_rfl) (by kernel_rfl) (fun _ _ _ h => h) hC (by kernel_rfl) (fun w hSw => by obtain ⟨x0, x1⟩ := hSw; go_simp) ?_
        try simp only [Act.put, List.setIfInBounds_toArray, List.set_cons_zero, List.set_cons_succ]
        refine held_take 22 (d := some 127) (v := (.pointer (some ⟨q, 0, none⟩))) rfl rfl (by kernel_rfl) (by kernel_rfl) (by kernel_rfl) (fun _ _ _ h => h) hC (by kernel_rfl) (fun w hSw => by obtain ⟨x0, x1⟩ := hSw; go_simp) ?_
        try simp only [Act.put, List.setIfInBounds_toArray, List.set_cons_zero, List.set_cons_succ]
        refine held_take 23 (d := some 128) (v := (.pointer (some ⟨q, 0, none⟩))) rfl rfl (by kernel_rfl) (by kernel_rfl) (by kernel_rfl) (fun _ _ _ h => h) hC (by kernel_rfl) (fun w hSw => by obtain ⟨x0, x1⟩ := hSw; go_simp) ?_
        try simp only [Act.put, List.setIfInBounds_toArray, List.set_cons_zero, List.set_cons_succ]
        refine held_take 24 (d := some 129) (v := (.pointer (some ⟨q, 0, none⟩))) rfl rfl (by kernel_rfl) (by kernel_rfl) (by kernel_rfl) (fun _ _ _ h => h) hC (by kernel_rfl) (fun w hSw => by obtain ⟨x0, x1⟩ := hSw; go_simp) ?_
        try simp only [Act.put, List.setIfInBounds_toArray, List.set_cons_zero, List.set_cons_succ]
        refine held_take 25 (d := some 130) (v := (.slice na B.length nc)) rfl rfl (by kernel_rfl) (by kernel_rfl) (by kernel_rfl) (fun _ _ _ h => h) hC (by kernel_rfl) (fun w hSw => by obtain ⟨x0, x1⟩ := hSw; go_simp) ?_
        try simp only [Act.put, List.setIfInBounds_toArray, List.set_cons_zero, List.set_cons_succ]
        refine held_one 21 rfl (by kernel_rfl) (fun K hK => ?_)
        go_simp
        go_at_call 12
        refine L2.out.mono ?_
        rintro e w6 ⟨ua, uc, rfl, ho6, hb6⟩
        have hT6 := HTz.out.below hb6
        have hC := (show w6.cell? ⟨q, 0, none⟩ = some (.slice na B.length nc) ∧ w6.cell? ⟨q, 1, none⟩ = some (.slice sa S.length sc) from ⟨bcell hb6 hqlt hC.1, bcell hb6 hqlt hC.2⟩)
        have hqlt6 := Nat.lt_of_lt_of_le hqlt hb6.size
        have L3 := Lib.hid (same_tt _ _ _ _ _ B w6 ho6.rd (HNow.out.mono hb6))
        have HT6 := Lib.hid hT6
        have HB6 := Lib.hid hb6
        clear hT6 hb6 ho6
        go_simp
        refine hK _ _ hC ?_
        clear hK K
        try simp only [Act.put, List.setIfInBounds_toArray, List.set_cons_zero, List.set_cons_succ]
        refine held_one 26 rfl (by kernel_rfl) (fun K hK => ?_)
        go_simp
        go_at_call 13
        refine L3.out.mono ?_
        rintro e w7 ⟨rfl, rfl⟩
        go_simp
        refine hK _ _ hC ?_
        clear hK K
        try simp only [Act.put, List.setIfInBounds_toArray, List.set_cons_zero, List.set_cons_succ]
        refine held_take 27 (d := some 132) (v := (.bool false)) rfl rfl (by kernel_rfl) (by kernel_rfl) (by kernel_rfl) (fun _ _ _ h => h) hC (by kernel_rfl) (fun w hSw => by obtain ⟨x0, x1⟩ := hSw; go_simp) ?_
        try simp only [Act.put, List.setIfInBounds_toArray, List.set_cons_zero, List.set_cons_succ]
        refine held_take 28 (d := some 133) (v := (.bool false)) rfl rfl (by kernel_rfl) (by kernel_rfl) (by kernel_rfl) (fun _ _ _ h => h) hC (by kernel_rfl) (fun w hSw => by obtain ⟨x0, x1⟩ := hSw; go_simp) ?_
        try simp only [Act.put, List.setIfInBounds_toArray, List.set_cons_zero, List.set_cons_succ]
        refine held_take 29 (d := some 134) (v := (.bool false)) rfl rfl (by kernel_rfl) (by kernel_rfl) (by kernel_rfl) (fun _ _ _ h => h) hC (by kernel_rfl) (fun w hSw => by obtain ⟨x0, x1⟩ := hSw; go_simp) ?_
        try simp only [Act.put, List.setIfInBounds_toArray, List.set_cons_zero, List.set_cons_succ]
        refine held_take 30 (d := some 135) (v := (.pointer (some ⟨p, 0, none⟩))) rfl rfl (by kernel_rfl) (by kernel_rfl) (by kernel_rfl) (fun _ _ _ h => h) hC (by kernel_rfl) (fun w hSw => by obtain ⟨x0, x1⟩ := hSw; go_simp) ?_
        try simp only [Act.put, List.setIfInBounds_toArray, List.set_cons_zero, List.set_cons_succ]
        refine held_take 32 (d := some 137) (v := (.pointer (some ⟨q, 0, none⟩))) rfl rfl (by kernel_rfl) (by kernel_rfl) (by kernel_rfl) (fun _ _ _ h => h) hC (by kernel_rfl) (fun w hSw => by obtain ⟨x0, x1⟩ := hSw; go_simp) ?_
        try simp only [Act.put, List.setIfInBounds_toArray, List.set_cons_zero, List.set_cons_succ]
        refine held_take 33 (d := some 138) (v := (.pointer (some ⟨q, 0, none⟩))) rfl rfl (by kernel_rfl) (by kernel_rfl) (by kernel_rfl) (fun _ _ _ h => h) hC (by kernel_rfl) (fun w hSw => by obtain ⟨x0, x1⟩ := hSw; go_simp) ?_
        try simp only [Act.put, List.setIfInBounds_toArray, List.set_cons_zero, List.set_cons_succ]
        refine held_take 34 (d := some 139) (v := (.pointer (some ⟨q, 1, none⟩))) rfl rfl (by kernel_rfl) (by kernel_rfl) (by kernel_rfl) (fun _ _ _ h => h) hC (by kernel_rfl) (fun w hSw => by obtain ⟨x0, x1⟩ := hSw; go_simp) ?_
        try simp only [Act.put, List.setIfInBounds_toArray, List.set_cons_zero, List.set_cons_succ]
        refine held_take 35 (d := some 140) (v := (.slice sa S.length sc)) rfl rfl (by kernel_rfl) (by kernel_rfl) (by kernel_rfl) (fun _ _ _ h => h) hC (by kernel_rfl) (fun w hSw => by obtain ⟨x0, x1⟩ := hSw; go_simp) ?_
        try simp only [Act.put, List.setIfInBounds_toArray, List.set_cons_zero, List.set_cons_succ]
        refine held_one 31 rfl (by kernel_rfl) (fun K hK => ?_)
        go_simp
        go_at_call 15
        refine (sectsafe _ _ _ _ _ _ HT6.out.f).mono ?_
        rintro e w8 ⟨va, vc, rfl, ho8, hb8⟩
        have hC := (show w8.cell? ⟨q, 0, none⟩ = some (.slice na B.length nc) ∧ w8.cell? ⟨q, 1, none⟩ = some (.slice sa S.length sc) from ⟨bcell hb8 hqlt6 hC.1, bcell hb8 hqlt6 hC.2⟩)
        have hqlt8 := Nat.lt_of_lt_of_le hqlt6 hb8.size
        have L4 := Lib.hid (same_tt _ _ _ _ _ S w8 ho8.rd ((HSafe.out.mono HB6.out).mono hb8))
        have HT8 := Lib.hid (HT6.out.below hb8)
        clear hb8 ho8
        go_simp
        refine hK _ _ hC ?_
        clear hK K
        try simp only [Act.put, List.setIfInBounds_toArray, List.set_cons_zero, List.set_cons_succ]
        refine held_one 36 rfl (by kernel_rfl) (fun K hK => ?_)
        go_simp
        go_at_call 13
        refine L4.out.mono ?_
        rintro e w9 ⟨rfl, rfl⟩
        go_simp
        refine hK _ _ hC ?_
        clear hK K
        try simp only [Act.put, List.setIfInBounds_toArray, List.set_cons_zero, List.set_cons_succ]
        refine held_take 37 (d := some 142) (v := (.bool false)) rfl rfl (by kernel_rfl) (by kernel_rfl) (by kernel_rfl) (fun _ _ _ h => h) hC (by kernel_rfl) (fun w hSw => by obtain ⟨x0, x1⟩ := hSw; go_simp) ?_
        try simp only [Act.put, List.setIfInBounds_toArray, List.set_cons_zero, List.set_cons_succ]
        refine held_take 38 (d := some 143) (v := (.bool false)) rfl rfl (by kernel_rfl) (by kernel_rfl) (by kernel_rfl) (fun _ _ _ h => h) hC (by kernel_rfl) (fun w hSw => by obtain ⟨x0, x1⟩ := hSw; go_simp) ?_
        try simp only [Act.put, List.setIfInBounds_toArray, List.set_cons_zero, List.set_cons_succ]
        refine held_take 39 (d := some 144) (v := (.bool false)) rfl rfl (by kernel_rfl) (by kernel_rfl) (by kernel_rfl) (fun _ _ _ h => h) hC (by kernel_rfl) (fun w hSw => by obtain ⟨x0, x1⟩ := hSw; go_simp) ?_
        try simp only [Act.put, List.setIfInBounds_toArray, List.set_cons_zero, List.set_cons_succ]
        refine held_take 40 (d := some 145) (v := (.pointer (some ⟨p, 0, none⟩))) rfl rfl (by kernel_rfl) (by kernel_rfl) (by kernel_rfl) (fun _ _ _ h => h) hC (by kernel_rfl) (fun w hSw => by obtain ⟨x0, x1⟩ := hSw; go_simp) ?_
        try simp only [Act.put, List.setIfInBounds_toArray, List.set_cons_zero, List.set_cons_succ]
        refine held_take 42 (d := some 147) (v := (.pointer (some ⟨q, 0, none⟩))) rfl rfl (by kernel_rfl) (by kernel_rfl) (by kernel_rfl) (fun _ _ _ h => h) hC (by kernel_rfl) (fun w hSw => by obtain ⟨x0, x1⟩ := hSw; go_simp) ?_
        try simp only [Act.put, List.setIfInBounds_toArray, List.set_cons_zero, List.set_cons_succ]
        refine held_one 41 rfl (by kernel_rfl) (fun K hK => ?_)
        go_simp
        go_at_call 16
        refine (sectdirty _ _ _ _ _ _ HT8.out.f).mono ?_
        rintro e w10 ⟨d1, e1, rfl, ho10, hb10⟩
        have hC := (show w10.cell? ⟨q, 0, none⟩ = some (.slice na B.length nc) ∧ w10.cell? ⟨q, 1, none⟩ = some (.slice sa S.length sc) from ⟨bcell hb10 hqlt8 hC.1, bcell hb10 hqlt8 hC.2⟩)
        have hqlt10 := Nat.lt_of_lt_of_le hqlt8 hb10.size
        have HT10 := Lib.hid (HT8.out.below hb10)
        have HO10 := Lib.hid ho10
        clear hb10 ho10
        go_simp
        refine hK _ _ hC ?_
        clear hK K
        try simp only [Act.put, List.setIfInBounds_toArray, List.set_cons_zero, List.set_cons_succ]
        refine held_one 43 rfl (by kernel_rfl) (fun K hK => ?_)
        go_simp
        go_at_call 27
        refine (refdirty _ _ _ _ _ _ HT10.out.g).mono ?_
        rintro e w11 ⟨d2, e2, rfl, ho11, hb11⟩
        have hC := (show w11.cell? ⟨q, 0, none⟩ = some (.slice na B.length nc) ∧ w11.cell? ⟨q, 1, none⟩ = some (.slice sa S.length sc) from ⟨bcell hb11 hqlt10 hC.1, bcell hb11 hqlt10 hC.2⟩)
        have hqlt11 := Nat.lt_of_lt_of_le hqlt10 hb11.size
        have HT11 := Lib.hid (HT10.out.below hb11)
        have L5 := Lib.hid (sameints_any _ _ _ _ _ _ _ w11 (HO10.out.mono hb11).rd ho11.rd (dirty_100 HT10.out.f))
        clear hb11 ho11
        go_simp
        refine hK _ _ hC ?_
        clear hK K
        try simp only [Act.put, List.setIfInBounds_toArray, List.set_cons_zero, List.set_cons_succ]
        refine held_one 44 rfl (by kernel_rfl) (fun K hK => ?_)
        go_simp
        go_at_call 26
        refine L5.out.mono ?_
        rintro e w12 ⟨rfl, hb12⟩
        have hC := (show w12.cell? ⟨q, 0, none⟩ = some (.slice na B.length nc) ∧ w12.cell? ⟨q, 1, none⟩ = some (.slice sa S.length sc) from ⟨bcell hb12 hqlt11 hC.1, bcell hb12 hqlt11 hC.2⟩)
        have HT12 := Lib.hid (HT11.out.below hb12)
        clear hb12
        go_simp
        refine hK _ _ hC ?_
        clear hK K
        try simp only [Act.put, List.setIfInBounds_toArray, List.set_cons_zero, List.set_cons_succ]
        refine held_take 45 (d := some 150) (v := (.bool false)) rfl rfl (by kernel_rfl) (by kernel_rfl) (by kernel_rfl) (fun _ _ _ h => h) hC (by kernel_rfl) (fun w hSw => by obtain ⟨x0, x1⟩ := hSw; go_simp) ?_
        try simp only [Act.put, List.setIfInBounds_toArray, List.set_cons_zero, List.set_cons_succ]
        refine held_take 46 (d := some 151) (v := (.bool false)) rfl rfl (by kernel_rfl) (by kernel_rfl) (by kernel_rfl) (fun _ _ _ h => h) hC (by kernel_rfl) (fun w hSw => by obtain ⟨x0, x1⟩ := hSw; go_simp) ?_
        try simp only [Act.put, List.setIfInBounds_toArray, List.set_cons_zero, List.set_cons_succ]
        refine wpAnyH_done (by kernel_rfl) ?_ _
        go_wp2_with fail
        go_roundw
        case rel => exact ⟨j + 1, p, q, B, S, _, _, by omega, rfl, rfl, by go_num, HT12.out⟩
        case measure => simp [intOf]; omega
    · obtain rfl : j = ds.length := by omega
      go_wp2_with fail
      go_ret
      exact ⟨rfl, hT.bel⟩
end Go.Proofs.Ytenikpbnggkmgaa
