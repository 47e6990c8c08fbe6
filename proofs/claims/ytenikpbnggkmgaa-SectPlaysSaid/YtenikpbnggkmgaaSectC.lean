/- What slices.Contains, Crash of sect.File compute. Conditions stand as premises. -/
import Derived.Test.YtenikpbnggkmgaaSectD
namespace Go.Proofs.Ytenikpbnggkmgaa
open Go.ChangeShapes Go.WideShapes Go.ChangeAt Go.RowKit
set_option linter.unusedVariables false

/-- The answer of Index. -/
def IdxN (l : List Nat) (x : Nat) (w : World) (e : Ending) (w' : World) : Prop := ∃ r : Int, e = .returned (.int .i64 r) ∧ (0 ≤ r ↔ x ∈ l) ∧ w = w'

set_option maxHeartbeats 1000000 in
theorem index_any (a : Option Addr) (n c x : Nat) (l : List Nat) (w : World) (hr : Rd encN w a n c l) (hn : n ≤ 1000000) (hx : x ≤ 1000000) :
    Calls Try.prog 34 #[.slice a n c, .int .i64 x] w (IdxN l x w) := by
  obtain rfl : l.length = n := hr.1
  have hcap := hr.2.1
  have HC := Lib.hid (fun k (hk : k < l.length) => cellAt hr k hk)
  clear hr
  go_enter Try.func34, Try.ntmps34
  go_wp2_with fail
  go_loop [8] (fun i => ∃ k : Nat, k ≤ l.length ∧ i = .int .i64 k ∧ x ∉ l.take k) (fun i => l.length - (intOf i).toNat)
  case atStart => exact ⟨0, Nat.zero_le _, rfl, by simp⟩
  case round =>
    obtain ⟨k, hk, rfl, hno⟩ := hrel
    have HNo := Lib.hid hno
    clear hno
    by_cases hlt : k < l.length
    · obtain ⟨b, off, rfl, hcell⟩ := HC.out k hlt
      have hlt2 : (k : Int) < l.length := by omega
      obtain ⟨y, hy⟩ : ∃ y, l[k] = y := ⟨_, rfl⟩
      rw [hy] at hcell
      have HY := Lib.hid hy
      clear hy
      unfold encN at hcell
      by_cases hxy : x = y
      · have q : ((x : Int) == (y : Int)) = true := by rw [hxy]; simp
        have HXY := Lib.hid hxy
        clear hxy
        go_wp2
        go_ret
        exact ⟨k, rfl, ⟨fun _ => by rw [HXY.out, ← HY.out]; exact List.getElem_mem hlt, fun _ => by omega⟩, rfl⟩
      · have q : ((x : Int) == (y : Int)) = false := by rw [beq_eq_false_iff_ne]; omega
        have HXY := Lib.hid hxy
        clear hxy
        go_wp2
        go_round
        case rel =>
          refine ⟨k + 1, by omega, by go_num, ?_⟩
          rw [List.take_succ_eq_append_getElem hlt, HY.out]
          intro hm
          rcases List.mem_append.1 hm with hm | hm
          · exact HNo.out hm
          · exact HXY.out (List.mem_singleton.1 hm)
        case measure => simp [intOf]; omega
    · obtain rfl : k = l.length := by omega
      go_wp2
      go_ret
      exact ⟨-1, rfl, ⟨fun h => absurd h (by decide), fun h => by have := HNo.out; rw [List.take_length] at this; exact absurd h this⟩, rfl⟩

theorem contains_any (a : Option Addr) (n c x : Nat) (l : List Nat) (w : World) (hr : Rd encN w a n c l) (hn : n ≤ 1000000) (hx : x ≤ 1000000) :
    Calls Try.prog 32 #[.slice a n c, .int .i64 x] w fun e w' => e = .returned (.bool (decide (x ∈ l))) ∧ w = w' := by
  have H := Lib.hid (index_any a n c x l w hr hn hx)
  clear hr
  go_enter Try.func32, Try.ntmps32
  go_wp2_with fail
  refine H.out.mono ?_
  rintro e w' ⟨r, rfl, hr, rfl⟩
  have HR := Lib.hid hr
  clear hr
  go_wp2_with fail
  go_ret
  exact ⟨ret_bool (decide_eq_decide.2 HR.out), rfl⟩

/-- A sector, its address under a name. -/
theorem sector_ex (a : Option Addr) (n c i : Nat) (l : List Int) (hl : l.length = n) (hi : i ≤ 10000) (hn : n ≤ 140737488351232) :
    ∃ A C, (∀ w, RdB w a n c l → RdB w A (sec l i).length C (sec l i)) ∧ ∀ w, RdB w a n c l → Calls Try.prog 31 #[.slice a n c, .int .i64 i] w fun e w' => e = .returned (.slice A (sec l i).length C) ∧ w = w' := by
  have e : min (min (512 * i) n + 512) n - min (512 * i) n = (sec l i).length := by rw [sec_len]; omega
  refine ⟨cutA a c (min (512 * i) n), c - min (512 * i) n, fun w hr => ?_, fun w hr => ?_⟩
  · rw [← e]; exact secAt_rd hr i
  · rw [← e]; exact sector_any a n c i l w hr hi hn

theorem FileStep.behind {w w1 w2 : World} {base p : Nat} {b2 s2 : List Int} {F F1 : Nat → Prop} (hu : Upd F w w1) (hF : ∀ j, F1 j → F j ∨ w.heap.size ≤ j) (k : FileStep w1 base p F1 b2 s2 w2) : FileStep w base p F b2 s2 w2 := by
  obtain ⟨F2, k1, k2, k3⟩ := k
  refine ⟨F2, k1, hu.trans k2 (fun j hj hh => (hF j hh).elim id (fun h' => by omega)), fun j hj => ?_⟩
  rcases k3 j hj with h' | h'
  · exact hF j h'
  · exact .inr (Nat.le_trans hu.size h')

def encBo (b : Bool) : Value := .bool b

set_option maxRecDepth 100000 in
set_option maxHeartbeats 4000000 in
theorem sectcrash (base p : Nat) (b s : List Int) (F : Nat → Prop) (ka : Option Addr) (kn kc : Nat) (keep : List Bool) (w : World) (h : FileS w base p b s F) (hk : Rd encBo w ka kn kc keep) (hkn : kn ≤ 1000000) :
    Calls Try.prog 18 #[.pointer (some ⟨p, 0, none⟩), .slice ka kn kc] w fun e w' => e = .returned (.tuple #[]) ∧ FileStep w base p F (crashI b s keep) (crashI b s keep) w' := by
  obtain rfl : keep.length = kn := hk.1
  have HD := Lib.hid (sectdirty base p b s F w h)
  have HSec := Lib.hid (fun w' (hb : Below w.heap.size w w') => sectors_any base p b s F w' (h.below hb))
  obtain ⟨a, n, c, a', n', c', h1, h2⟩ := h
  have hns := nsec_small h1.lb h1.ls
  have hdl : (dirtyL b s).length ≤ 64 := Nat.le_trans (dirtyTo_le b s _) hns
  have H := Lib.hid h1
  have HF := Lib.hid h2
  have HK := Lib.hid hk
  have hkc := hk.2.1
  clear h1 h2 hk
  go_enter Try.func18, Try.ntmps18
  go_wp2_with fail
  refine HD.out.mono ?_
  rintro e w1 ⟨da, dc, rfl, hod, hb1⟩
  obtain ⟨d, hd⟩ : ∃ d, dirtyL b s = d := ⟨_, rfl⟩
  have HDL := Lib.hid hd
  rw [hd] at hod hdl ⊢
  have hdc := hod.rd.2.1
  have HOD := Lib.hid hod
  clear hd hod HD
  go_wp2_with fail
  go_loopw [4, 13] (fun o i wr => ∃ (k : Nat) (a3 : Option Addr) (c3 : Nat), k ≤ d.length ∧ i = .int .i64 k ∧ o = .slice a3 (lostTo d keep k).length c3 ∧ Own encN 3 wr w1.heap.size a3 (lostTo d keep k).length c3 (lostTo d keep k) ∧ Below w1.heap.size w1 wr) (fun _ i _ => d.length - (intOf i).toNat)
  case atStart => exact ⟨0, none, 0, Nat.zero_le _, rfl, rfl, Own.nil _ _ _ _, Below.refl _ _⟩
  case round =>
    obtain ⟨k, a3, c3, hk, rfl, rfl, ho, hB⟩ := hrel
    have hsz := hB.size
    have hll : (lostTo d keep k).length ≤ k := by
      unfold lostTo
      rw [List.length_map]
      have := List.length_filter_le (fun i => !(keep[i]?.getD false)) (List.range k)
      simpa using this
    by_cases hlt : k < d.length
    · obtain ⟨g, off, rfl, hcell⟩ := cellAt (HOD.out.rd.mono hB) k hlt
      unfold encN at hcell
      have hlt2 : (k : Int) < d.length := by omega
      obtain ⟨y, hy⟩ : ∃ y, d[k] = y := ⟨_, rfl⟩
      have HY := Lib.hid (show d[k]?.getD 0 = y by rw [List.getElem?_eq_getElem hlt, hy]; rfl)
      rw [hy] at hcell
      clear hy
      by_cases hkl : k < keep.length
      · obtain ⟨kb, koff, rfl, hkcell⟩ := cellAt (HK.out.mono (hb1.trans (hB.mono hb1.size))) k hkl
        unfold encBo at hkcell
        have q1 : decide ((keep.length : Int) ≤ (k : Int)) = false := by simp; omega
        have q2 : (k : Int) < keep.length := by omega
        have hkk : keep[k]?.getD false = keep[k] := by rw [List.getElem?_eq_getElem hkl]; rfl
        cases hv : keep[k]
        · rw [hv] at hkcell hkk
          have HKK := Lib.hid hkk
          clear hkk hv
          go_wp2_with (at_builtin; go_must (refine wpList_appOwn rfl rfl Try.oneI rfl rfl (ho.alloc _) (Rd.one encN _ _ y) (fun _ => rfl) (by omega) (by omega) (by simp; omega) ?_); intro a5 c5 w5 ho5 hb5 _ _)
          go_roundw
          case rel =>
            have e : lostTo d keep (k + 1) = lostTo d keep k ++ [y] := by rw [lostTo_succ, if_neg (by rw [HKK.out]; decide), HY.out]
            have e2 : (lostTo d keep (k + 1)).length = (lostTo d keep k).length + 1 := by rw [e]; simp
            exact ⟨k + 1, a5, c5, by omega, by go_num, by rw [e2], by rw [e2, e]; exact ho5, hB.trans (((Below.refl _ wr).alloc hsz _).trans hb5)⟩
          case measure => simp [intOf]; omega
        · rw [hv] at hkcell hkk
          have HKK := Lib.hid hkk
          clear hkk hv
          go_wp2_with fail
          go_roundw
          case rel =>
            have e : lostTo d keep (k + 1) = lostTo d keep k := by rw [lostTo_succ, if_pos HKK.out]
            exact ⟨k + 1, a3, c3, by omega, by go_num, by rw [e], by rw [e]; exact ho, hB⟩
          case measure => simp [intOf]; omega
      · have q1 : decide ((keep.length : Int) ≤ (k : Int)) = true := by simp; omega
        have HKK := Lib.hid (show keep[k]?.getD false = false by rw [List.getElem?_eq_none (by omega)]; rfl)
        go_wp2_with (at_builtin; go_must (refine wpList_appOwn rfl rfl Try.oneI rfl rfl (ho.alloc _) (Rd.one encN _ _ y) (fun _ => rfl) (by omega) (by omega) (by simp; omega) ?_); intro a5 c5 w5 ho5 hb5 _ _)
        go_roundw
        case rel =>
          have e : lostTo d keep (k + 1) = lostTo d keep k ++ [y] := by rw [lostTo_succ, if_neg (by rw [HKK.out]; decide), HY.out]
          have e2 : (lostTo d keep (k + 1)).length = (lostTo d keep k).length + 1 := by rw [e]; simp
          exact ⟨k + 1, a5, c5, by omega, by go_num, by rw [e2], by rw [e2, e]; exact ho5, hB.trans (((Below.refl _ wr).alloc hsz _).trans hb5)⟩
        case measure => simp [intOf]; omega
    · obtain rfl : k = d.length := by omega
      have hB1 := hb1.trans (hB.mono hb1.size)
      obtain ⟨L, hL⟩ : ∃ L, lostTo d keep d.length = L := ⟨_, rfl⟩
      have HL := Lib.hid (show lostL b s keep = L by unfold lostL; rw [HDL.out, hL])
      rw [hL] at ho hll ⊢
      have HSr := Lib.hid (HSec.out wr hB1)
      clear hL HSec
      go_wp2_with fail
      refine HSr.out.mono ?_
      rintro e w3 ⟨rfl, hb3⟩
      have hB3 := hB1.trans (hb3.mono hB1.size)
      have hlo := Lib.hid (ho.rd.mono hb3)
      have hz3 := hB3.size
      obtain ⟨m, hm⟩ : ∃ m, nsec b s = m := ⟨_, rfl⟩
      have HM := Lib.hid hm
      rw [hm] at hns ⊢
      obtain ⟨ch, hch⟩ : ∃ ch, chI b s keep = ch := ⟨_, rfl⟩
      have HCH := Lib.hid (show crashI b s keep = crashTo ch m by unfold crashI; rw [hch, hm])
      have HC2 := Lib.hid (fun k => show ch k = if k ∈ L then sec s k else sec b k by rw [← hch]; unfold chI; rw [HL.out])
      have HCL := Lib.hid (fun k => crashTo_len ch (fun k => by rw [← hch]; exact chI_len b s keep k) k)
      have HCI := Lib.hid (fun k => crashTo_isB ch (fun k => by rw [← hch]; exact chI_isB H.out.x.1 H.out.y.1 keep k) k)
      have HCN := Lib.hid (fun k => show (ch k).length ≤ 512 by rw [← hch]; exact chI_len b s keep k)
      have hnb : n ≤ 32768 := by have := H.out.lb; have := H.out.x.len; omega
      have hnb2 : n' ≤ 32768 := by have := H.out.ls; have := H.out.y.len; omega
      clear hm hch ho hb3 hB HSr
      go_wp2_with fail
      go_loopw [7, 36] (fun o i wr => ∃ (k : Nat) (a4 : Option Addr) (c4 : Nat), k ≤ m ∧ i = .int .i64 k ∧ o = .slice a4 (crashTo ch k).length c4 ∧ Own (Value.int .u8) 5 wr w3.heap.size a4 (crashTo ch k).length c4 (crashTo ch k) ∧ Below w3.heap.size w3 wr) (fun _ i _ => m - (intOf i).toNat)
      case atStart => exact ⟨0, none, 0, Nat.zero_le _, rfl, rfl, Own.nil _ _ _ _, Below.refl _ _⟩
      case round =>
        obtain ⟨k, a4, c4, hk, rfl, rfl, ho, hB⟩ := hrel
        have hzx := hB.size
        have hB5 := hB3.trans (hB.mono hz3)
        have g0 := (H.out.below hB5).c0
        have g1 := (H.out.below hB5).c1
        have f0 := (H.out.below hB5).f0
        have hcl := HCL.out k
        by_cases hlt : k < m
        · obtain ⟨A, C, hA1, hA2⟩ := sector_ex a n c k b H.out.x.len (by omega) (by omega)
          have HA1 := Lib.hid hA1
          have HA2 := Lib.hid (hA2 wr (H.out.below hB5).x.rd)
          have HX0 := Lib.hid (HC2.out k)
          have HXL := HCN.out k
          have hcon := contains_any a3 _ c3 k L wr (hlo.out.mono hB) (by omega) (by omega)
          have HZ := Lib.hid (show (k : Int) * 512 - ((crashTo ch k).length : Int) = ((512 * k - (crashTo ch k).length : Nat) : Int) by omega)
          clear hA1 hA2
          by_cases hq : k ∈ L
          · rw [decide_eq_true hq] at hcon
            have HCon := Lib.hid hcon
            have HX := Lib.hid (HX0.out.trans (if_pos hq))
            obtain ⟨A2, C2, hA3, hA4⟩ := sector_ex a' n' c' k s H.out.y.len (by omega) (by omega)
            have HA3 := Lib.hid hA3
            have HA4 := Lib.hid (hA4 wr (H.out.below hB5).y.rd)
            clear hcon hq hA3 hA4 HX0
            generalize sec b k = xb at *
            generalize sec s k = x at *
            go_wp2_with fail
            refine HA2.out.mono ?_
            rintro e w6 ⟨rfl, rfl⟩
            go_wp2_with fail
            refine HCon.out.mono ?_
            rintro e w6 ⟨rfl, rfl⟩
            go_wp2_with fail
            refine HA4.out.mono ?_
            rintro e w6 ⟨rfl, rfl⟩
            by_cases hx : x = []
            · subst hx
              go_wp2_with fail
              go_roundw
              case rel =>
                have e : crashTo ch (k + 1) = crashTo ch k := by rw [crashTo, if_pos HX.out]
                exact ⟨k + 1, a4, c4, by omega, by go_num, by rw [e], by rw [e]; exact ho, hB⟩
              case measure => simp [intOf]; omega
            · have hx0 : (0 : Int) < (x.length : Int) := by have := List.length_pos_iff.2 hx; omega
              have hx5 : x.length ≤ 512 := by rw [HX.out] at HXL; exact HXL
              have HXN := Lib.hid hx
              clear hx HXL
              go_upto_region 16 with (at_builtin; go_must (refine wpList_appZeros (0 : Int) rfl rfl Try.underlying3 Try.oneB Try.zeroB rfl rfl rfl rfl HZ.out ho (by omega) (by omega) (by omega) ?_); intro a5 c5 w5 ho5 hb5 _ _)
              have hb5' := hB5.trans (hb5.mono hz3)
              have hr5 := (HA3.out w5 (H.out.below hb5').y.rd).2
              have hz5 := hb5.size
              rw [Nat.add_sub_of_le hcl] at ho5
              go_wp2_with (at_builtin; go_must (refine wpList_appOwn rfl rfl Try.oneB rfl rfl ho5 hr5 (fun _ => rfl) (by omega) (by omega) (by omega) ?_); intro a6 c6 w6 ho6 hb6 _ _)
              go_roundw
              case rel =>
                have e : crashTo ch (k + 1) = crashTo ch k ++ List.replicate (512 * k - (crashTo ch k).length) 0 ++ x := by rw [crashTo, if_neg (by rw [HX.out]; exact HXN.out), HX.out]; rfl
                have e2 : (crashTo ch (k + 1)).length = 512 * k + x.length := by rw [e]; simp; omega
                exact ⟨k + 1, a6, c6, by omega, by go_num, by rw [e2], by rw [e2, e]; exact ho6, (hB.trans hb5).trans hb6⟩
              case measure => simp [intOf]; omega
          · rw [decide_eq_false hq] at hcon
            have HCon := Lib.hid hcon
            have HX := Lib.hid (HX0.out.trans (if_neg hq))
            clear hcon hq HX0
            generalize sec b k = x at *
            go_wp2_with fail
            refine HA2.out.mono ?_
            rintro e w6 ⟨rfl, rfl⟩
            go_wp2_with fail
            refine HCon.out.mono ?_
            rintro e w6 ⟨rfl, rfl⟩
            by_cases hx : x = []
            · subst hx
              go_wp2_with fail
              go_roundw
              case rel =>
                have e : crashTo ch (k + 1) = crashTo ch k := by rw [crashTo, if_pos HX.out]
                exact ⟨k + 1, a4, c4, by omega, by go_num, by rw [e], by rw [e]; exact ho, hB⟩
              case measure => simp [intOf]; omega
            · have hx0 : (0 : Int) < (x.length : Int) := by have := List.length_pos_iff.2 hx; omega
              have hx5 : x.length ≤ 512 := by rw [HX.out] at HXL; exact HXL
              have HXN := Lib.hid hx
              clear hx HXL
              go_upto_region 16 with (at_builtin; go_must (refine wpList_appZeros (0 : Int) rfl rfl Try.underlying3 Try.oneB Try.zeroB rfl rfl rfl rfl HZ.out ho (by omega) (by omega) (by omega) ?_); intro a5 c5 w5 ho5 hb5 _ _)
              have hb5' := hB5.trans (hb5.mono hz3)
              have hr5 := (HA1.out w5 (H.out.below hb5').x.rd).2
              have hz5 := hb5.size
              rw [Nat.add_sub_of_le hcl] at ho5
              go_wp2_with (at_builtin; go_must (refine wpList_appOwn rfl rfl Try.oneB rfl rfl ho5 hr5 (fun _ => rfl) (by omega) (by omega) (by omega) ?_); intro a6 c6 w6 ho6 hb6 _ _)
              go_roundw
              case rel =>
                have e : crashTo ch (k + 1) = crashTo ch k ++ List.replicate (512 * k - (crashTo ch k).length) 0 ++ x := by rw [crashTo, if_neg (by rw [HX.out]; exact HXN.out), HX.out]; rfl
                have e2 : (crashTo ch (k + 1)).length = 512 * k + x.length := by rw [e]; simp; omega
                exact ⟨k + 1, a6, c6, by omega, by go_num, by rw [e2], by rw [e2, e]; exact ho6, (hB.trans hb5).trans hb6⟩
              case measure => simp [intOf]; omega
        · obtain rfl : k = m := by omega
          have hT := H.out.turn0 (Upd.ofBelow hB5) ⟨HCI.out k, ho.base (Nat.le_trans (Nat.le_trans H.out.le (Nat.le_of_lt H.out.lt)) hz3)⟩ (fun j hj => .inr (by
            obtain ⟨z, hz, rfl⟩ := mem_blk.1 hj
            exact Nat.le_trans hz3 (ho.lt z hz).1)) (by rw [← HCH.out]; have := crashI_max b s keep; have := H.out.lb; have := H.out.ls; omega)
          have HT := Lib.hid hT
          clear hT ho
          go_wp2_with fail
          refine (sectsync base p _ s _ _ ⟨_, _, _, _, _, _, HT.out.1, fun j => Iff.rfl⟩).mono ?_
          rintro e w9 ⟨rfl, hst⟩
          have HST := Lib.hid hst
          clear hst
          go_wp2_with fail
          go_end0
          exact ⟨rfl, by rw [HCH.out]; exact FileStep.behind (HT.out.2.1.mono (fun j _ hj => (HF.out j).2 hj)) (fun j hj => (HT.out.2.2 j hj).imp (HF.out j).2 id) HST.out⟩
end Go.Proofs.Ytenikpbnggkmgaa
