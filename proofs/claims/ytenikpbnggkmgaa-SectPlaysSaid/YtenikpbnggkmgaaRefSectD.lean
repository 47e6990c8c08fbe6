/- What Dirty, Crash of the document's file compute. Conditions stand as premises. -/
import Derived.Test.YtenikpbnggkmgaaRefSectR
namespace Go.Proofs.Ytenikpbnggkmgaa
open Go.ChangeShapes Go.WideShapes Go.ChangeAt Go.RowKit
set_option linter.unusedVariables false
set_option linter.unusedSimpArgs false

theorem bstr_ne {a b : List Int} (ha : IsB a) (hb : IsB b) : ((bstr a).toList != (bstr b).toList) = !decide (a = b) := by
  rw [bne, bstr_same ha hb]
theorem keptTo_stop {d : List Nat} {keep : List Bool} {k i : Nat} (h : keep.length ≤ i) : ∀ n, keptTo d keep k (i + n) = keptTo d keep k i := by
  intro n
  induction n with
  | zero => rfl
  | succ n ih =>
    rw [← Nat.add_assoc, keptTo_succ, ih, List.getElem?_eq_none (l := keep) (by omega)]
    simp

set_option maxHeartbeats 4000000 in
theorem refdirty (base p : Nat) (b s : List Int) (G : Nat → Prop) (w : World) (h : RefS w base p b s G) :
    Calls Try.prog 27 #[.pointer (some ⟨p, 0, none⟩)] w (NewN w.heap.size w (dirtyL b s)) := by
  obtain ⟨a, c, a', c', e0, e1, r0, r1⟩ := h.cells
  have hlt := (h.mem h.own).2
  have hlb := h.lens.1
  have hls := h.lens.2
  have hns := nsec_small hlb hls
  have H0 := Lib.hid r0
  have H1 := Lib.hid r1
  have E0 := Lib.hid e0
  have E1 := Lib.hid e1
  clear h r0 r1 e0 e1
  obtain ⟨m, hm⟩ : ∃ m, nsec b s = m := ⟨_, rfl⟩
  have HM := Lib.hid hm
  have hMk : ∀ k, k < m ↔ (k * 512 < b.length ∨ k * 512 < s.length) := by intro k; rw [← hm]; unfold nsec; omega
  have HMk := Lib.hid hMk
  rw [hm] at hns
  clear hm hMk
  by_cases hbs : (b.length : Int) < (s.length : Int)
  all_goals
    try have hbs : (s.length : Int) ≤ (b.length : Int) := by omega
    go_enter Try.func27, Try.ntmps27
    go_wp2_with fail
    go_loopw [3, 4] (fun o i wr => ∃ (k : Nat) (a3 : Option Addr) (c3 : Nat), k ≤ m ∧ i = .int .i64 k ∧ o = .slice a3 (dirtyTo b s k).length c3 ∧ Own encN 3 wr w.heap.size a3 (dirtyTo b s k).length c3 (dirtyTo b s k) ∧ Below w.heap.size w wr) (fun _ i _ => m - (intOf i).toNat)
    case atStart => exact ⟨0, none, 0, Nat.zero_le _, rfl, rfl, Own.nil _ _ _ _, Below.refl _ _⟩
    case round =>
      obtain ⟨k, a3, c3, hk, rfl, rfl, ho, hB⟩ := hrel
      have hsz := hB.size
      have hdl := dirtyTo_le b s k
      have g0 := bcell hB hlt E0.out
      have g1 := bcell hB hlt E1.out
      by_cases hltk : k < m
      · have hcond := (HMk.out k).1 hltk
        first
          | (have qq : decide ((k : Int) * 512 < (s.length : Int)) = true := by simp; omega)
          | (have qq : decide ((k : Int) * 512 < (b.length : Int)) = true := by simp; omega)
        clear hcond
        go_wp2_with fail
        go_quiet (fail)
        have hB2 := bel_drewN hB nq
        have ho2 := ho.mono (Below.drewN' wr nq)
        have hz2 : w.heap.size ≤ (wr.drewN nq).heap.size := hsz
        generalize wr.drewN nq = wz at *
        clear g0 g1 hB ho
        have g0 := bcell hB2 hlt E0.out
        have g1 := bcell hB2 hlt E1.out
        have S0 := Lib.hid (fun (q : Nat) => show Calls Try.prog 33 #[.slice a b.length c, .int .i64 k] (wz.drewN q) (fun e w' => e = .returned (.string (bstr (sec b k))) ∧ w' = wz.drewN q) from (part_any a _ c k b (wz.drewN q) ((H0.out.mono hB2).drewN q) (by omega) (by omega)).mono (fun e w' h => ⟨h.1, h.2.symm⟩))
        have S1 := Lib.hid (fun (q : Nat) => show Calls Try.prog 33 #[.slice a' s.length c', .int .i64 k] (wz.drewN q) (fun e w' => e = .returned (.string (bstr (sec s k))) ∧ w' = wz.drewN q) from (part_any a' _ c' k s (wz.drewN q) ((H1.out.mono hB2).drewN q) (by omega) (by omega)).mono (fun e w' h => ⟨h.1, h.2.symm⟩))
        have hne := bstr_same (sec_isB H0.out.1 k) (sec_isB H1.out.1 k)
        rw [show decide (sec b k = sec s k) = !secNe b s k by simp [secNe]] at hne
        cases hq : secNe b s k
        · rw [hq] at hne
          simp only [Bool.not_false, Bool.not_true] at hne
          have Q := Lib.hid hq
          clear hq
          generalize bstr (sec b k) = t1 at *
          generalize bstr (sec s k) = t2 at *
          go_wp2_with fail
          go_quiet (first | (with_reducible exact Calls.quiet_of_same (S0.out _)) | (with_reducible exact Calls.quiet_of_same (S1.out _)))
          go_wp2_with fail
          go_roundw
          case rel => exact ⟨k + 1, a3, c3, by omega, by go_num, by rw [dirtyTo_succ, if_neg (by rw [Q.out]; decide)], by rw [dirtyTo_succ, if_neg (by rw [Q.out]; decide)]; exact ho2.mono (Below.drewN' _ _), bel_drewN hB2 _⟩
          case measure => simp [intOf]; omega
        · rw [hq] at hne
          simp only [Bool.not_false, Bool.not_true] at hne
          have Q := Lib.hid hq
          clear hq
          generalize bstr (sec b k) = t1 at *
          generalize bstr (sec s k) = t2 at *
          go_wp2_with fail
          go_quiet (first | (with_reducible exact Calls.quiet_of_same (S0.out _)) | (with_reducible exact Calls.quiet_of_same (S1.out _)))
          have ho3 := ho2.mono (Below.drewN' wz nq)
          have hB3 := bel_drewN hB2 nq
          have hz3 : w.heap.size ≤ (wz.drewN nq).heap.size := hz2
          generalize wz.drewN nq = wy at *
          go_wp2_with (at_builtin; go_must (refine wpList_appOwn rfl rfl Try.oneI rfl rfl (ho3.alloc _) (Rd.one encN _ _ k) (fun _ => rfl) (by omega) (by omega) (by simp; omega) ?_); intro a5 c5 w5 ho5 hb5 _ _)
          go_roundw
          case rel =>
            have e : dirtyTo b s (k + 1) = dirtyTo b s k ++ [k] := by rw [dirtyTo_succ, if_pos Q.out]
            have e2 : (dirtyTo b s (k + 1)).length = (dirtyTo b s k).length + 1 := by rw [e]; simp
            exact ⟨k + 1, a5, c5, by omega, by go_num, by rw [e2], by rw [e2, e]; exact ho5, hB3.trans (((Below.refl _ wy).alloc hz3 _).trans hb5)⟩
          case measure => simp [intOf]; omega
      · have hcond : ¬ (k * 512 < b.length ∨ k * 512 < s.length) := fun h => hltk ((HMk.out k).2 h)
        obtain rfl : k = m := by omega
        have qq : decide ((k : Int) * 512 < (s.length : Int)) = false := by simp; omega
        have qq2 : decide ((k : Int) * 512 < (b.length : Int)) = false := by simp; omega
        clear hcond
        go_wp2_with fail
        go_quiet (fail)
        go_wp2_with fail
        go_ret
        exact ⟨a3, c3, by rw [dirtyL, HM.out]; rfl, by rw [dirtyL, HM.out]; exact ho.mono (Below.drewN' _ _), bel_drewN hB _⟩

/-- Those sectors that are chosen, so far. -/
def chTo (b s : List Int) (d : List Nat) (keep : List Bool) (k i : Nat) : List Int := if keptTo d keep k i then sec b k else sec s k

/-- The document's file, both slices turned to one. -/
theorem RefAt.turn01 {w w1 : World} {base p : Nat} {a : Option Addr} {n c : Nat} {b : List Int} {a' : Option Addr} {n' c' : Nat} {s : List Int} {z : Int} (h : RefAt w base p a n c b a' n' c' s z)
    {a1 : Option Addr} {n1 c1 : Nat} {b1 : List Int} (hB : Below w.heap.size w w1) (ho : OwnB 5 w1 w.heap.size a1 n1 c1 b1) (hb : b1.length ≤ 32768) :
    RefAt ((w1.setCell ⟨p, 0, none⟩ (.slice a1 n1 c1)).setCell ⟨p, 1, none⟩ (.slice a1 n1 c1)) base p a1 n1 c1 b1 a1 n1 c1 b1 z ∧ Upd (· = p) w ((w1.setCell ⟨p, 0, none⟩ (.slice a1 n1 c1)).setCell ⟨p, 1, none⟩ (.slice a1 n1 c1)) ∧ ∀ j ∈ p :: (blk a1 ++ blk a1), j ∈ p :: (blk a ++ blk a') ∨ w.heap.size ≤ j := by
  obtain ⟨g1, g2, g3⟩ := h.turn0 hB ho hb
  refine ⟨g1.sync, g2.trans (Upd.setCell _ _ _ rfl) (fun j _ hj => hj.symm), fun j hj => ?_⟩
  rcases List.mem_cons.1 hj with rfl | hj
  · exact .inl List.mem_cons_self
  · have hj1 : j ∈ blk a1 := by rcases List.mem_append.1 hj with h | h <;> exact h
    obtain ⟨z, hz, rfl⟩ := mem_blk.1 hj1
    exact .inr (ho.2.lt z hz).1

set_option maxRecDepth 100000 in
set_option maxHeartbeats 8000000 in
theorem refcrash (base p : Nat) (b s : List Int) (G : Nat → Prop) (ka : Option Addr) (kn kc : Nat) (keep : List Bool) (w : World) (h : RefS w base p b s G) (hk : Rd encBo w ka kn kc keep) (hkn : kn ≤ 1000000) :
    Calls Try.prog 23 #[.pointer (some ⟨p, 0, none⟩), .slice ka kn kc] w fun e w' => e = .returned (.tuple #[]) ∧ RefStep w base p G (crashR b s keep) (crashR b s keep) w' := by
  obtain rfl : keep.length = kn := hk.1
  have HD := Lib.hid (refdirty base p b s G w h)
  obtain ⟨a, n, c, a', n', c', z, h1, h2⟩ := h
  obtain rfl : b.length = n := h1.x.len
  obtain rfl : s.length = n' := h1.y.len
  have hlt := h1.lt
  have hlb := h1.lb
  have hls := h1.ls
  have hns := nsec_small hlb hls
  have hdl : (dirtyL b s).length ≤ 64 := Nat.le_trans (dirtyTo_le b s _) hns
  have H := Lib.hid h1
  have HG := Lib.hid h2
  have HK := Lib.hid hk
  have hkc := hk.2.1
  clear h1 h2 hk
  obtain ⟨m, hm⟩ : ∃ m, nsec b s = m := ⟨_, rfl⟩
  have hMk : ∀ k, k < m ↔ (k * 512 < b.length ∨ k * 512 < s.length) := by intro k; rw [← hm]; unfold nsec; omega
  have HMk := Lib.hid hMk
  obtain ⟨ch, hch⟩ : ∃ ch, chR b s keep = ch := ⟨_, rfl⟩
  obtain ⟨d, hd⟩ : ∃ d, dirtyL b s = d := ⟨_, rfl⟩
  have HCH := Lib.hid (show crashR b s keep = crashTo ch m by unfold crashR; rw [hch, hm])
  have HC2 := Lib.hid (fun k => show ch k = chTo b s d keep k d.length by rw [← hch, ← hd]; rfl)
  have HCN := Lib.hid (fun k => show (ch k).length ≤ 512 by rw [← hch, ← ch_same]; exact chI_len b s keep k)
  have HCI := Lib.hid (fun k => show IsB (ch k) by rw [← hch, ← ch_same]; exact chI_isB H.out.x.1 H.out.y.1 keep k)
  have HCM := Lib.hid (show (crashTo ch m).length ≤ 32768 by rw [← HCH.out, ← crash_same]; have := crashI_max b s keep; omega)
  rw [hm] at hns
  rw [hd] at hdl HD
  clear hm hMk hch hd
  by_cases hbs : (b.length : Int) < (s.length : Int)
  all_goals
    try have hbs : (s.length : Int) ≤ (b.length : Int) := by omega
    go_enter Try.func23, Try.ntmps23
    go_wp2_with fail
    refine HD.out.mono ?_
    rintro e w1 ⟨da, dc, rfl, hod, hb1⟩
    have hdc := hod.rd.2.1
    have HOD := Lib.hid hod
    have hz1 := hb1.size
    clear hod
    go_wp2_with fail
    go_loopw [5, 6] (fun o i wr => ∃ (k : Nat) (a3 : Option Addr) (c3 : Nat), k ≤ m ∧ i = .int .i64 k ∧ o = .slice a3 (crashTo ch k).length c3 ∧ Own (Value.int .u8) 5 wr w1.heap.size a3 (crashTo ch k).length c3 (crashTo ch k) ∧ Below w1.heap.size w1 wr) (fun _ i _ => m - (intOf i).toNat)
    case atStart => exact ⟨0, none, 0, Nat.zero_le _, rfl, rfl, Own.nil _ _ _ _, Below.refl _ _⟩
    case round =>
      obtain ⟨k, a3, c3, hk, rfl, rfl, ho, hB⟩ := hrel
      have hsz := hB.size
      have hcl := crashTo_len ch HCN.out k
      have hB0 := hb1.trans (hB.mono hz1)
      have g0 := bcell hB0 hlt H.out.c0
      have g1 := bcell hB0 hlt H.out.c1
      by_cases hltk : k < m
      · have hcond := (HMk.out k).1 hltk
        first
          | (have qq : decide ((k : Int) * 512 < (s.length : Int)) = true := by simp; omega)
          | (have qq : decide ((k : Int) * 512 < (b.length : Int)) = true := by simp; omega)
        clear hcond
        go_wp2_with fail
        go_quiet (fail)
        have hB2 := bel_drewN hB nq
        have ho2 := ho.mono (Below.drewN' wr nq)
        have hz2 : w1.heap.size ≤ (wr.drewN nq).heap.size := hsz
        generalize wr.drewN nq = wz at *
        clear g0 g1 hB ho hB0
        have hB3 := hb1.trans (hB2.mono hz1)
        have g0 := bcell hB3 hlt H.out.c0
        have g1 := bcell hB3 hlt H.out.c1
        have S0 := Lib.hid (part_any a _ c k b wz (H.out.x.rd.mono hB3) (by omega) (by omega))
        have S1 := Lib.hid (part_any a' _ c' k s wz (H.out.y.rd.mono hB3) (by omega) (by omega))
        have HO2 := Lib.hid ho2
        have hc30 := ho2.rd.2.1
        clear ho2
        go_wp2_with fail
        refine S1.out.mono ?_
        rintro e w' ⟨rfl, rfl⟩
        go_wp2_with fail
        go_loop [7, 8] (fun t i => ∃ (j : Nat), j ≤ d.length ∧ i = .int .i64 j ∧ t = .string (bstr (chTo b s d keep k j))) (fun _ i => d.length - (intOf i).toNat)
        case atStart => exact ⟨0, Nat.zero_le _, rfl, rfl⟩
        case round =>
          obtain ⟨j, hj, rfl, rfl⟩ := hrel
          by_cases hjd : j < d.length
          · have j1 : decide ((j : Int) < (d.length : Int)) = true := by simp; omega
            have j1' : decide (j < d.length) = true := by simp; omega
            have j3 : (j : Int) < (d.length : Int) := by omega
            by_cases hjk : j < keep.length
            · have j2 : decide ((j : Int) < (keep.length : Int)) = true := by simp; omega
              have j2' : decide (j < keep.length) = true := by simp; omega
              have j4 : (j : Int) < (keep.length : Int) := by omega
              obtain ⟨db, doff, hda, hdcell⟩ := cellAt (HOD.out.rd.mono hB2) j hjd
              unfold encN at hdcell
              obtain ⟨kb, koff, hka, hkcell⟩ := cellAt (HK.out.mono hB3) j hjk
              unfold encBo at hkcell
              have hkk : keep[j]?.getD false = keep[j] := by rw [List.getElem?_eq_getElem hjk]; rfl
              have hdd : d[j]?.getD 0 = d[j] := by rw [List.getElem?_eq_getElem hjd]; rfl
              obtain ⟨y, hy⟩ : ∃ y, d[j] = y := ⟨_, rfl⟩
              rw [hy] at hdcell hdd
              subst hda
              subst hka
              have HDD := Lib.hid hdd
              clear hdd hy
              by_cases hyk : y = k
              · have k1 : ((y : Int) == (k : Int)) = true := by rw [hyk]; simp
                have HYK := Lib.hid hyk
                clear hyk
                cases hv : keep[j]
                · rw [hv] at hkcell hkk
                  have E := Lib.hid (show chTo b s d keep k (j + 1) = chTo b s d keep k j by unfold chTo; rw [keptTo_succ, hkk]; simp)
                  clear hv hkk
                  go_wp2_with fail
                  go_round
                  case rel => exact ⟨j + 1, by omega, by go_num, by rw [E.out]⟩
                  case measure => simp [intOf]; omega
                · rw [hv] at hkcell hkk
                  have E := Lib.hid (show chTo b s d keep k (j + 1) = sec b k by unfold chTo; rw [keptTo_succ, hkk, HDD.out, HYK.out]; simp)
                  clear hv hkk
                  go_wp2_with fail
                  refine S0.out.mono ?_
                  rintro e w' ⟨rfl, rfl⟩
                  go_wp2_with fail
                  go_round
                  case rel => exact ⟨j + 1, by omega, by go_num, by rw [E.out]⟩
                  case measure => simp [intOf]; omega
              · have k1 : ((y : Int) == (k : Int)) = false := by rw [beq_eq_false_iff_ne]; omega
                have E := Lib.hid (show chTo b s d keep k (j + 1) = chTo b s d keep k j by unfold chTo; rw [keptTo_succ, HDD.out]; simp [hyk])
                clear hyk
                go_wp2_with fail
                go_round
                case rel => exact ⟨j + 1, by omega, by go_num, by rw [E.out]⟩
                case measure => simp [intOf]; omega
            · have j2 : decide ((j : Int) < (keep.length : Int)) = false := by simp; omega
              have j2' : decide (j < keep.length) = false := by simp; omega
              have hX : chTo b s d keep k j = ch k := by
                rw [HC2.out]
                unfold chTo
                have := keptTo_stop (d := d) (keep := keep) (k := k) (i := j) (by omega) (d.length - j)
                rw [show j + (d.length - j) = d.length by omega] at this
                rw [this]
              have HX := Lib.hid hX
              clear hX
              have HXI := HCI.out k
              have HXN := HCN.out k
              rw [HX.out]
              obtain ⟨x, hx⟩ : ∃ x, ch k = x := ⟨_, rfl⟩
              rw [hx] at HXI HXN ⊢
              have HCX := Lib.hid hx
              have HXI2 := Lib.hid HXI
              clear hx HX HXI
              by_cases hxe : x = []
              · have he : (bstr x).toList.isEmpty = true := by rw [hxe, bstr_toList]; rfl
                have he2 : ((bstr x).toList == []) = true := by rw [hxe, bstr_toList]; rfl
                have HXE := Lib.hid hxe
                clear hxe
                go_wp2_with fail
                go_roundw
                case rel =>
                  have e : crashTo ch (k + 1) = crashTo ch k := by rw [crashTo, if_pos (by rw [HCX.out]; exact HXE.out)]
                  exact ⟨k + 1, a3, c3, by omega, by go_num, by rw [e], by rw [e]; exact HO2.out, hB2⟩
                case measure => simp [intOf]; omega
              · have he : (bstr x).toList.isEmpty = false := by rw [bstr_toList]; simpa using hxe
                have he2 : ((bstr x).toList == []) = false := by rw [bstr_toList]; simpa using hxe
                have HXE := Lib.hid hxe
                clear hxe
                go_wp2_with fail
                go_loopw [5] (fun o wr => ∃ (q : Nat) (a5 : Option Addr) (c5 : Nat), (crashTo ch k).length + q ≤ 512 * k ∧ o = .slice a5 ((crashTo ch k).length + q) c5 ∧ Own (Value.int .u8) 5 wr w1.heap.size a5 ((crashTo ch k).length + q) c5 (crashTo ch k ++ List.replicate q 0) ∧ Below w1.heap.size w1 wr) (fun o _ => 512 * k - lenOf o)
                case atStart => exact ⟨0, a3, c3, by omega, rfl, by simpa using HO2.out, hB2⟩
                case round =>
                  obtain ⟨q, a5, c5, hq, rfl, ho5, hB5⟩ := hrel
                  have hz5 := hB5.size
                  by_cases hq2 : (crashTo ch k).length + q < 512 * k
                  · have q1 : ((crashTo ch k).length : Int) + (q : Int) < (k : Int) * 512 := by omega
                    go_wp2_with (at_builtin; go_must (refine wpList_appOwn rfl rfl Try.oneB rfl rfl (ho5.alloc _) (Rd.one (Value.int .u8) _ _ 0) (fun _ => rfl) (by omega) (by omega) (by simp; omega) ?_); intro a6 c6 w6 ho6 hb6 _ _)
                    go_roundw
                    case rel => exact ⟨q + 1, a6, c6, by omega, rfl, by rw [List.replicate_succ', ← List.append_assoc]; exact ho6, hB5.trans (((Below.refl _ wr).alloc hz5 _).trans hb6)⟩
                    case measure => simp [lenOf]; omega
                  · have q1 : (k : Int) * 512 ≤ ((crashTo ch k).length : Int) + (q : Int) := by omega
                    have hpad : crashTo ch k ++ List.replicate q 0 = padTo (crashTo ch k) (512 * k) := by unfold padTo; congr 2; omega
                    have HPad := Lib.hid hpad
                    clear hpad
                    go_wp2_with (at_builtin; go_must (refine wpList_appStr rfl rfl Try.underlying9 Try.oneB Try.zeroB rfl rfl HXI2.out ho5 (by omega) (by omega) ?_); intro a6 c6 w6 ho6 hb6)
                    go_roundw
                    case rel =>
                      have e : crashTo ch (k + 1) = crashTo ch k ++ List.replicate q 0 ++ x := by rw [crashTo, if_neg (by rw [HCX.out]; exact HXE.out), HCX.out, HPad.out]
                      have e2 : (crashTo ch (k + 1)).length = (crashTo ch k).length + q + x.length := by rw [e]; simp; omega
                      exact ⟨k + 1, a6, c6, by omega, by go_num, by rw [e2], by rw [e2, e]; exact ho6, hB5.trans hb6⟩
                    case measure => simp [intOf]; omega
          · obtain rfl : j = d.length := by omega
            have hX : chTo b s d keep k d.length = ch k := (HC2.out k).symm
            have HX := Lib.hid hX
            clear hX
            have HXI := HCI.out k
            have HXN := HCN.out k
            rw [HX.out]
            obtain ⟨x, hx⟩ : ∃ x, ch k = x := ⟨_, rfl⟩
            rw [hx] at HXI HXN ⊢
            have HCX := Lib.hid hx
            have HXI2 := Lib.hid HXI
            clear hx HX HXI
            by_cases hxe : x = []
            · have he : (bstr x).toList.isEmpty = true := by rw [hxe, bstr_toList]; rfl
              have he2 : ((bstr x).toList == []) = true := by rw [hxe, bstr_toList]; rfl
              have HXE := Lib.hid hxe
              clear hxe
              go_wp2_with fail
              go_roundw
              case rel =>
                have e : crashTo ch (k + 1) = crashTo ch k := by rw [crashTo, if_pos (by rw [HCX.out]; exact HXE.out)]
                exact ⟨k + 1, a3, c3, by omega, by go_num, by rw [e], by rw [e]; exact HO2.out, hB2⟩
              case measure => simp [intOf]; omega
            · have he : (bstr x).toList.isEmpty = false := by rw [bstr_toList]; simpa using hxe
              have he2 : ((bstr x).toList == []) = false := by rw [bstr_toList]; simpa using hxe
              have HXE := Lib.hid hxe
              clear hxe
              go_wp2_with fail
              go_loopw [5] (fun o wr => ∃ (q : Nat) (a5 : Option Addr) (c5 : Nat), (crashTo ch k).length + q ≤ 512 * k ∧ o = .slice a5 ((crashTo ch k).length + q) c5 ∧ Own (Value.int .u8) 5 wr w1.heap.size a5 ((crashTo ch k).length + q) c5 (crashTo ch k ++ List.replicate q 0) ∧ Below w1.heap.size w1 wr) (fun o _ => 512 * k - lenOf o)
              case atStart => exact ⟨0, a3, c3, by omega, rfl, by simpa using HO2.out, hB2⟩
              case round =>
                obtain ⟨q, a5, c5, hq, rfl, ho5, hB5⟩ := hrel
                have hz5 := hB5.size
                by_cases hq2 : (crashTo ch k).length + q < 512 * k
                · have q1 : ((crashTo ch k).length : Int) + (q : Int) < (k : Int) * 512 := by omega
                  go_wp2_with (at_builtin; go_must (refine wpList_appOwn rfl rfl Try.oneB rfl rfl (ho5.alloc _) (Rd.one (Value.int .u8) _ _ 0) (fun _ => rfl) (by omega) (by omega) (by simp; omega) ?_); intro a6 c6 w6 ho6 hb6 _ _)
                  go_roundw
                  case rel => exact ⟨q + 1, a6, c6, by omega, rfl, by rw [List.replicate_succ', ← List.append_assoc]; exact ho6, hB5.trans (((Below.refl _ wr).alloc hz5 _).trans hb6)⟩
                  case measure => simp [lenOf]; omega
                · have q1 : (k : Int) * 512 ≤ ((crashTo ch k).length : Int) + (q : Int) := by omega
                  have hpad : crashTo ch k ++ List.replicate q 0 = padTo (crashTo ch k) (512 * k) := by unfold padTo; congr 2; omega
                  have HPad := Lib.hid hpad
                  clear hpad
                  go_wp2_with (at_builtin; go_must (refine wpList_appStr rfl rfl Try.underlying9 Try.oneB Try.zeroB rfl rfl HXI2.out ho5 (by omega) (by omega) ?_); intro a6 c6 w6 ho6 hb6)
                  go_roundw
                  case rel =>
                    have e : crashTo ch (k + 1) = crashTo ch k ++ List.replicate q 0 ++ x := by rw [crashTo, if_neg (by rw [HCX.out]; exact HXE.out), HCX.out, HPad.out]
                    have e2 : (crashTo ch (k + 1)).length = (crashTo ch k).length + q + x.length := by rw [e]; simp; omega
                    exact ⟨k + 1, a6, c6, by omega, by go_num, by rw [e2], by rw [e2, e]; exact ho6, hB5.trans hb6⟩
                  case measure => simp [intOf]; omega
      · have hcond : ¬ (k * 512 < b.length ∨ k * 512 < s.length) := fun h => hltk ((HMk.out k).2 h)
        obtain rfl : k = m := by omega
        have qq : decide ((k : Int) * 512 < (s.length : Int)) = false := by simp; omega
        have qq2 : decide ((k : Int) * 512 < (b.length : Int)) = false := by simp; omega
        clear hcond
        have HO := Lib.hid ho
        have HBB := Lib.hid hB0
        clear ho hB0
        go_wp2_with fail
        go_quiet (fail)
        have hB2 := bel_drewN HBB.out nq
        have ho2 := HO.out.mono (Below.drewN' wr nq)
        have hz2 : w1.heap.size ≤ (wr.drewN nq).heap.size := hsz
        generalize wr.drewN nq = wz at *
        clear g0 g1 hB HBB
        have d0 := bcell hB2 hlt H.out.c0
        have d1 := bcell hB2 hlt H.out.c1
        have f0 := bfree hB2 hlt H.out.f0
        have f1 := bfree hB2 hlt H.out.f1
        have hT := H.out.turn01 hB2 ⟨crashTo_isB ch HCI.out k, ho2.base hz1⟩ HCM.out
        have HT := Lib.hid hT
        clear hT ho2
        go_wp2_with fail
        go_end0
        exact ⟨rfl, _, ⟨_, _, _, _, _, _, _, by rw [HCH.out]; exact HT.out.1, fun j => Iff.rfl⟩, HT.out.2.1, fun j hj => (HT.out.2.2 j hj).imp (HG.out j).2 id⟩
end Go.Proofs.Ytenikpbnggkmgaa
