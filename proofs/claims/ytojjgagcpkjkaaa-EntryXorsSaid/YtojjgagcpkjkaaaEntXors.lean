/- The walk of EntryXors. Conditions stand as premises. -/
import Derived.Test.YtojjgagcpkjkaaaEntXorN
import Derived.Test.YtojjgagcpkjkaaaUpd
import Derived.Deep.CutBlock
namespace Go.Proofs.Ytojjgagcpkjkaaa
open Go.ChangeShapes Go.WideShapes Go.ChangeAt Go.RowKit
set_option linter.unusedVariables false

abbrev Vs := List (Option Addr × Nat × Nat)
/-- Each slice reads as its list. -/
def AllRd (w : World) (vs : Vs) (ls : List (List Int)) : Prop := vs.length = ls.length ∧ ∀ (i : Nat) (v : Option Addr × Nat × Nat) (l : List Int), vs[i]? = some v → ls[i]? = some l → RdB w v.1 v.2.1 v.2.2 l
theorem AllRd.snoc {w : World} {vs : Vs} {ls : List (List Int)} {v : Option Addr × Nat × Nat} {l : List Int} (h : AllRd w vs ls) (hl : RdB w v.1 v.2.1 v.2.2 l) : AllRd w (vs ++ [v]) (ls ++ [l]) :=
  ⟨by simp [h.1], snoc_all h.1 h.2 hl⟩
theorem AllRd.rd {w w' : World} {vs : Vs} {ls : List (List Int)} (h : AllRd w vs ls) {base : Nat} {a : Option Addr} {n c : Nat} (ho : Own encS 23 w' base a n c vs) (hb : Below w.heap.size w w') : RdBB w' a n c ls :=
  ⟨vs, ho.rd, h.1, fun i v l hv hl => (h.2 i v l hv hl).mono hb⟩
theorem Rd.two {α : Type} (enc : α → Value) (e : TypeId) (w : World) (x y : α) : Rd enc (w.alloc (.cells #[enc x, enc y] e)) (some ⟨w.heap.size, 0, none⟩) 2 2 [x, y] :=
  (Own.lit (base := 0) (e := e) [x, y] #[enc x, enc y] 2 rfl rfl (Nat.zero_le _) (by unfold maxLen; omega)).rd

set_option maxRecDepth 100000 in
set_option maxHeartbeats 1000000 in
theorem entryxors_law (a : Option Addr) (n c : Nat) (ls : List (List Int)) (a2 : Option Addr) (n2 c2 : Nat) (p : List Int) (w0 : World) (hr0 : RdBB w0 a n c ls) (hp0 : RdB w0 a2 n2 c2 p) :
    Calls Try.prog 3 #[.slice a n c, .slice a2 n2 c2] w0 fun e w' => e = .returned (.bool true) ∧ Below w0.heap.size w0 w' := by
  obtain rfl : ls.length = n := hr0.len
  obtain rfl : p.length = n2 := hp0.len
  have hlen : ls.length ≤ 9223372036854775807 := by obtain ⟨vs, hrd, _⟩ := hr0; have h1 := hrd.2.1; have h2 := hrd.2.2.1; unfold maxLen at h2; omega
  have hlen2 : p.length ≤ 9223372036854775807 := by have h1 := hp0.2.2.1; have h2 := hp0.2.2.2.1; unfold maxLen at h2; omega
  have HR0 := Lib.hid hr0
  have HP0 := Lib.hid hp0
  clear hr0 hp0
  by_cases hbig : 20 < ls.length
  · have hbig' : (20 : Int) < (ls.length : Int) := by omega
    go_enter Try.func3, Try.ntmps3
    go_wp2_with fail
    refine (first_any _).mono ?_
    rintro e w1 ⟨rfl, hb1⟩
    go_wp2_with fail
    go_ret
    exact ⟨rfl, hb1⟩
  by_cases hbig2 : 200 < p.length
  · have hbig' : (200 : Int) < (p.length : Int) := by omega
    have hd1 : decide (20 < (ls.length : Int)) = false := by simp; omega
    go_enter Try.func3, Try.ntmps3
    go_wp2_with fail
    refine (first_any _).mono ?_
    rintro e w1 ⟨rfl, hb1⟩
    go_wp2_with fail
    go_ret
    exact ⟨rfl, hb1⟩
  have hd1 : decide (20 < (ls.length : Int)) = false := by simp; omega
  have hd2 : decide (200 < (p.length : Int)) = false := by simp; omega
  have hn20 : ls.length ≤ 20 := by omega
  have hp200 : p.length ≤ 200 := by omega
  clear hbig hbig2
  go_enter Try.func3, Try.ntmps3
  go_wp2_with fail
  refine (first_any _).mono ?_
  rintro e w ⟨rfl, hb1⟩
  have HR := Lib.hid (HR0.out.mono hb1)
  have HP := Lib.hid (HP0.out.mono hb1)
  have HB0 := Lib.hid hb1
  clear hb1 HR0 HP0
  go_wp2_with fail
  go_loopw [6, 7, 8] (fun b t d wr => ∃ (j : Nat) (I : Int) (ab at' : Option Addr) (cb ct : Nat) (vb vt : Vs), j ≤ ls.length ∧ I = (ls.length : Int) - 1 - (j : Int) ∧ b = .slice ab j cb ∧ t = .slice at' (2 * j) ct ∧ d = .int .i64 I ∧ Own encS 23 wr w.heap.size ab j cb vb ∧ AllRd w vb (backL ls j) ∧ Own encS 23 wr w.heap.size at' (2 * j) ct vt ∧ AllRd w vt (twiceL ls j) ∧ (∀ k ∈ blk ab, k ∉ blk at') ∧ Below w.heap.size w wr ∧ (∀ l ∈ backL ls j, l.length ≤ 200)) (fun b _ _ _ => ls.length - lenS b)
  case atStart => exact ⟨0, _, none, none, 0, 0, [], [], by omega, by omega, rfl, rfl, rfl, Own.nil _ _ _ _, ⟨rfl, fun i v l hv => (by simp at hv)⟩, Own.nil _ _ _ _, ⟨rfl, fun i v l hv => (by simp at hv)⟩, fun k hk => (by cases hk), Below.refl _ _, fun l hl => (by simp [backL] at hl)⟩
  case round =>
    obtain ⟨j, I, ab, at', cb, ct, vb, vt, hj, hI, rfl, rfl, rfl, hob, hab, hot, hat, hdis, hB, hsm⟩ := hrel
    have HJ := Lib.hid hI
    have HOB := Lib.hid hob
    have HAB := Lib.hid hab
    have HOT := Lib.hid hot
    have HAT := Lib.hid hat
    have HDIS := Lib.hid hdis
    have HB := Lib.hid hB
    have HSM := Lib.hid hsm
    clear hob hab hot hat hdis hB hsm
    by_cases hI0 : 0 ≤ I
    · obtain ⟨q, rfl⟩ : ∃ q : Nat, I = (q : Int) := ⟨I.toNat, by omega⟩
      have hq : q + j + 1 = ls.length := by omega
      have hql : (q : Int) < (ls.length : Int) := by omega
      have hqx : q ≤ 20 := by omega
      obtain ⟨vs, h1, h2, h3⟩ := HR.out
      obtain ⟨b, off, rfl, hbk, hcs⟩ := h1.at (by omega)
      obtain ⟨⟨a1, n1, c1⟩, he⟩ : ∃ e, vs[q]? = some e := ⟨_, List.getElem?_eq_getElem (by omega)⟩
      obtain ⟨l, hl⟩ : ∃ l, ls[q]? = some l := ⟨_, List.getElem?_eq_getElem (by omega)⟩
      have hcell0 : w.cell? ⟨b, off + q, none⟩ = some (.slice a1 n1 c1) := hcs q _ he
      have hcell := bcell HB.out hbk hcell0
      have hr1 : RdB w a1 n1 c1 l := h3 q _ _ he hl
      obtain rfl : l.length = n1 := hr1.len
      have hll : l.length ≤ 9223372036854775807 := by have h1 := hr1.2.2.1; have h2 := hr1.2.2.2.1; unfold maxLen at h2; omega
      have HL := Lib.hid hl
      have HR1 := Lib.hid hr1
      have HQ := Lib.hid hq
      have HC0 := Lib.hid hcell0
      clear h1 h2 h3 hcs he hl hr1 hq hcell0 hI
      by_cases hl2 : 200 < l.length
      · have hl2' : (200 : Int) < (l.length : Int) := by omega
        go_wp2_with fail
        go_ret
        exact ⟨rfl, HB0.out.trans (HB.out.mono HB0.out.size)⟩
      · have hl2' : ¬ (200 : Int) < (l.length : Int) := by omega
        have ho1 := HOB.out
        have hsz := HB.out.size
        go_upto_region 13 with (at_builtin; go_must (refine wpList_appAt rfl rfl Try.oneBB rfl rfl (ho1.alloc _) (Rd.one encS _ _ (a1, l.length, c1)) (fun _ => rfl) (by omega) (by omega) (by simp; omega) ?_); intro ab2 cb2 w2 ho2 hu2 hat2)
        have hU1 : ∀ k ∈ blk ab, w.heap.size ≤ k ∧ k < wr.heap.size := fun k hk => by obtain ⟨x, hx, rfl⟩ := mem_blk.1 hk; exact HOB.out.lt x hx
        have hU2 : ∀ k ∈ blk at', w.heap.size ≤ k ∧ k < wr.heap.size := fun k hk => by obtain ⟨x, hx, rfl⟩ := mem_blk.1 hk; exact HOT.out.lt x hx
        have hBw2 : Below w.heap.size w w2 := (HB.out.alloc hsz _).trans (hu2.below (by simp; omega) (fun k hk => (hU1 k hk).1))
        have hoT2 : Own encS 23 w2 w.heap.size at' (2 * j) ct vt := (HOT.out.alloc _).upd hu2 (fun x hx hk => HDIS.out _ hk (mem_blk.2 ⟨x, hx, rfl⟩))
        have hd2' : ∀ k ∈ blk ab2, k ∉ blk at' := fun k hk hk2 => by
          rcases hat2 k hk with h | h
          · exact HDIS.out k h hk2
          · have := hU2 k hk2; simp at h; omega
        have hcell2 := bcell hBw2 hbk HC0.out
        have hs2 := hBw2.size
        have HO2 := Lib.hid ho2
        have HD2 := Lib.hid hd2'
        have HU2 := Lib.hid hU2
        have HBW2 := Lib.hid hBw2
        have hl20 : ls.length ≤ 20 := hn20
        clear ho2 hd2' hU1 hU2 hu2 hat2 ho1 hcell
        have hB3 : Below w2.heap.size w2 (w2.drew.alloc (.cells #[.slice a1 l.length c1, .slice a1 l.length c1] 23)) := (below_drew w2).alloc (Nat.le_refl _) _
        have hoT3 := hoT2.mono hB3
        have hr3 : Rd encS (w2.drew.alloc (.cells #[.slice a1 l.length c1, .slice a1 l.length c1] 23)) (some ⟨w2.heap.size, 0, none⟩) 2 2 [(a1, l.length, c1), (a1, l.length, c1)] := Rd.two encS 23 w2.drew (a1, l.length, c1) (a1, l.length, c1)
        have hf1 : (2 * j + 2) * 24 ≤ 140737488355328 := by omega
        have hf2 : 2 * j + 2 ≤ 140737488355328 := by omega
        have hz3 := Nat.le_trans hs2 hB3.size
        have HB3 := Lib.hid hB3
        have HT3 := Lib.hid hoT3
        have HR3 := Lib.hid hr3
        clear hB3 hoT2 hoT3 hr3 hBw2
        go_region_law (refine step_appAt rfl rfl Try.oneBB rfl rfl HT3.out HR3.out (fun _ => rfl) hf1 hf2 hz3 ?_; intro at4 ct4 w4 ho4 hu4 hat4)
        all_goals
          have hBw4 := HBW2.out.trans ((HB3.out.mono hs2).trans (hu4.below hz3 (fun k hk => (HU2.out k hk).1)))
          have hob4 := (HO2.out.mono HB3.out).upd hu4 (fun x hx hk => HD2.out _ (mem_blk.2 ⟨x, hx, rfl⟩) hk)
          have hlt2 : ∀ k ∈ blk ab2, k < w2.heap.size := fun k hk => by obtain ⟨x, hx, rfl⟩ := mem_blk.1 hk; exact (HO2.out.lt x hx).2
          have hd4 : ∀ k ∈ blk ab2, k ∉ blk at4 := fun k hk hk2 => by
            rcases hat4 k hk2 with h | h
            · exact HD2.out k hk h
            · have h1 := hlt2 k hk; simp at h; omega
          have HBW4 := Lib.hid hBw4
          have HOB4 := Lib.hid hob4
          have HD4 := Lib.hid hd4
          have HOT4 := Lib.hid ho4
          clear hBw4 hob4 hd4 ho4 hu4 hat4 hlt2 hcell2 hs2
          go_wp2_with fail
          go_roundw
          case rel =>
            refine ⟨j + 1, _, ab2, at4, cb2, ct4, _, _, (by have := HQ.out; omega), ?_, rfl, rfl, rfl, HOB4.out, ?_, HOT4.out, ?_, HD4.out, HBW4.out, ?_⟩
            · have := HQ.out; omega
            · rw [backL_succ ls j q l HQ.out HL.out]; exact HAB.out.snoc HR1.out
            · rw [twiceL_succ ls j q l HQ.out HL.out, show twiceL ls j ++ [l, l] = twiceL ls j ++ [l] ++ [l] by simp, show vt ++ [(a1, l.length, c1), (a1, l.length, c1)] = vt ++ [(a1, l.length, c1)] ++ [(a1, l.length, c1)] by simp]
              exact (HAT.out.snoc HR1.out).snoc HR1.out
            · rw [backL_succ ls j q l HQ.out HL.out]
              intro x hx
              rcases List.mem_append.1 hx with h | h
              · exact HSM.out x h
              · have := List.mem_singleton.1 h; subst this; omega
          case measure => show ls.length - (j + 1) < ls.length - j; have := HQ.out; omega
    · have hI0' : ¬ (0 : Int) ≤ I := hI0
      obtain rfl : j = ls.length := by omega
      have hoB := HOB.out
      have hoT := HOT.out
      have hrB := Lib.hid (HAB.out.rd HOB.out HB.out)
      have hrT := Lib.hid (HAT.out.rd HOT.out HB.out)
      have hwp := HP.out.mono HB.out
      have h1 := RdBB.one 23 hwp
      obtain ⟨X, hX⟩ : ∃ X, xorI ls ls.length = X := ⟨_, rfl⟩
      obtain ⟨Y, hY⟩ : ∃ Y, xorI [p] [p].length = Y := ⟨_, rfl⟩
      have HX := Lib.hid hX
      have HY := Lib.hid hY
      clear hX hY hwp hoB hoT
      go_wp2_with fail
      refine (xor_any _ _ _ [p] _ h1 (by omega) (by intro x hx; simp at hx; subst hx; omega)).mono ?_
      rintro e w3 ⟨rfl, hb3⟩
      have hB3 := Lib.hid ((below_alloc wr (.cells #[.slice a2 p.length c2] 23)).trans (hb3.mono (by simp)))
      rw [HY.out]
      clear hb3 h1
      have hm1 : ∀ x ∈ ls, x.length ≤ 100000 := fun x hx => by
        have := HSM.out x (by rw [backL_all]; exact List.mem_reverse.2 hx); omega
      have HM1 := Lib.hid hm1
      have hx0 := xorI_bd ls ls.length
      rw [HX.out] at hx0
      obtain ⟨x0, x1⟩ := hx0
      have hy0 := xorI_bd [p] [p].length
      rw [HY.out] at hy0
      obtain ⟨y0, y1⟩ := hy0
      clear hm1
      have hA3 := (HR.out.mono HB.out).mono (hB3.out)
      go_wp2_with fail
      refine (xor_any _ _ _ ls _ hA3 (by omega) HM1.out).mono ?_
      rintro e w4 ⟨rfl, hb4⟩
      rw [HX.out]
      have hB4 := Lib.hid (hB3.out.trans (hb4.mono hB3.out.size))
      clear hb4 hA3
      have hA4 := hrB.out.mono hB4.out
      go_wp2_with fail
      refine (xor_any _ _ _ (backL ls ls.length) _ hA4 (by omega) (fun x hx => by have := HSM.out x hx; omega)).mono ?_
      rintro e w5 ⟨rfl, hb5⟩
      rw [backL_all, law_back, HX.out]
      have hB5 := Lib.hid (hB4.out.trans (hb5.mono hB4.out.size))
      clear hb5 hA4
      have hA5 := hrT.out.mono hB5.out
      go_wp2_with fail
      refine (xor_any _ _ _ (twiceL ls ls.length) _ hA5 (by omega) (fun x hx => by
        unfold twiceL at hx
        obtain ⟨y, hy, hxy⟩ := List.mem_flatMap.1 hx
        have := HSM.out y hy
        simp at hxy; subst hxy; omega)).mono ?_
      rintro e w6 ⟨rfl, hb6⟩
      rw [law_twice]
      have hB6 := Lib.hid (hB5.out.trans (hb6.mono hB5.out.size))
      clear hb6 hA5
      have hfin : w.heap.size ≤ w6.heap.size := Nat.le_trans HB.out.size hB6.out.size
      have hob6 := HOB.out.mono hB6.out
      go_wp2_with (at_builtin; go_must (refine wpList_appOwnG rfl rfl Try.oneBB rfl rfl (hob6.alloc _) (Rd.one encS _ _ (a2, p.length, c2)) (fun _ => rfl) (by omega) (by omega) (by simp; omega) ?_); intro a7 c7 w7 ho7 hb7 _ _)
      have hBa := (HB.out.trans (hB6.out.mono HB.out.size)).alloc hfin (.cells #[.slice a2 p.length c2] 23)
      have hB7 := Lib.hid (hBa.trans hb7)
      have hA7 := (HAB.out.snoc (v := (a2, p.length, c2)) HP.out).rd ho7 hB7.out
      rw [backL_all] at hA7
      clear hb7 hBa ho7 hob6
      refine (xor_any _ _ _ (ls.reverse ++ [p]) _ hA7 (by omega) (fun x hx => by
        rcases List.mem_append.1 hx with h | h
        · exact HM1.out x (List.mem_reverse.1 h)
        · have := List.mem_singleton.1 h; subst this; omega)).mono ?_
      rintro e w8 ⟨rfl, hb8⟩
      rw [law_more, HX.out, HY.out]
      have hB8 := Lib.hid (hB7.out.trans (hb8.mono hB7.out.size))
      clear hb8 hA7
      have hA8 := HR.out.mono hB8.out
      obtain ⟨Z, hZ⟩ : ∃ Z, bits .xor .u64 X Y = Z := ⟨_, rfl⟩
      have HZ := Lib.hid hZ
      rw [hZ]
      clear hZ
      go_wp2_with fail
      refine (xor_any _ _ _ ls _ hA8 (by omega) HM1.out).mono ?_
      rintro e w9 ⟨rfl, hb9⟩
      rw [HX.out]
      have hB9 := Lib.hid (HB0.out.trans ((hB8.out.trans (hb9.mono hB8.out.size)).mono HB0.out.size))
      clear hb9 hA8
      go_wp2_with fail
      go_ret
      exact ⟨by show Ending.returned (Value.bool (Z == bits .xor .u64 X Y)) = _; rw [HZ.out]; simp, hB9.out⟩
end Go.Proofs.Ytojjgagcpkjkaaa
