/- What Dirty, Crash, Copy of sect.File compute. Conditions stand as premises. -/
import Derived.Test.YtenikpbnggkmgaaSectR
import Derived.Deep.RegionHeld3
namespace Go.Proofs.Ytenikpbnggkmgaa
open Go.ChangeShapes Go.WideShapes Go.ChangeAt Go.RowKit
set_option linter.unusedVariables false

theorem Try.intInfo : (Try.prog.info? 3).map (fun i => (i.zero, i.size, i.bytes)) = some (some (.int .i64 0), 1, 8) := by kernel_rfl
theorem Try.oneI : OneInfo Try.prog 32 3 8 := by
  obtain ⟨i, hi, h0, h1, h2⟩ := info_parts Try.intInfo
  exact ⟨Try.underlying32, i, _, hi, h0, h1, h2, rfl⟩
/-- A number of a list as a value. -/
def encN (n : Nat) : Value := .int .i64 n

theorem dirtyTo_le (b s : List Int) (k : Nat) : (dirtyTo b s k).length ≤ k := by
  unfold dirtyTo
  have := List.length_filter_le (fun i => secNe b s i) (List.range k)
  simpa using this
theorem nsec_small {b s : List Int} (hb : b.length ≤ 32768) (hs : s.length ≤ 32768) : nsec b s ≤ 64 := by unfold nsec; omega

/-- The answer of Dirty. -/
def NewN (base : Nat) (w : World) (l : List Nat) (e : Ending) (w' : World) : Prop := ∃ a cap, e = .returned (.slice a l.length cap) ∧ Own encN 3 w' base a l.length cap l ∧ Below base w w'

theorem FileAt.below {w w' : World} {base p : Nat} {a : Option Addr} {n c : Nat} {b : List Int} {a' : Option Addr} {n' c' : Nat} {s : List Int} (h : FileAt w base p a n c b a' n' c' s) (hb : Below w.heap.size w w') : FileAt w' base p a n c b a' n' c' s :=
  h.upd (F := fun _ => False) (Upd.ofBelow hb) (fun _ _ h => h)

set_option maxHeartbeats 1000000 in
theorem sectdirty (base p : Nat) (b s : List Int) (F : Nat → Prop) (w : World) (h : FileS w base p b s F) :
    Calls Try.prog 16 #[.pointer (some ⟨p, 0, none⟩)] w (NewN w.heap.size w (dirtyL b s)) := by
  have HS := Lib.hid (sectors_any base p b s F w h)
  obtain ⟨a, n, c, a', n', c', h1, h2⟩ := h
  have hns := nsec_small h1.lb h1.ls
  have hnb : n ≤ 140737488351232 := by have := h1.lb; have := h1.x.len; omega
  have hns2 : n' ≤ 140737488351232 := by have := h1.ls; have := h1.y.len; omega
  have H := Lib.hid h1
  clear h1 h2
  go_enter Try.func16, Try.ntmps16
  go_wp2_with fail
  refine HS.out.mono ?_
  rintro e w1 ⟨rfl, hb1⟩
  obtain ⟨m, hm⟩ : ∃ m, nsec b s = m := ⟨_, rfl⟩
  have HM := Lib.hid hm
  rw [hm] at hns ⊢
  clear hm HS
  go_wp2_with fail
  go_loopw [3, 7, 4] (fun o i _ wr => ∃ (k : Nat) (a3 : Option Addr) (c3 : Nat), k ≤ m ∧ i = .int .i64 k ∧ o = .slice a3 (dirtyTo b s k).length c3 ∧ Own encN 3 wr w.heap.size a3 (dirtyTo b s k).length c3 (dirtyTo b s k) ∧ Below w.heap.size w wr) (fun _ i _ _ => m - (intOf i).toNat)
  case atStart => exact ⟨0, none, 0, Nat.zero_le _, rfl, rfl, Own.nil _ _ _ _, hb1⟩
  case round =>
    obtain ⟨k, a3, c3, hk, rfl, rfl, ho, hB⟩ := hrel
    have hsz := hB.size
    have hdl := dirtyTo_le b s k
    by_cases hlt : k < m
    · have g0 := (H.out.below hB).c0
      have g1 := (H.out.below hB).c1
      have S0 := Lib.hid (fun (q : Nat) => show Calls Try.prog 31 #[.slice a n c, .int .i64 k] (wr.drewN q) (fun e w' => e = .returned (secAt a n c k) ∧ w' = wr.drewN q) from (sector_any a n c k b (wr.drewN q) ((H.out.below (bel_drewN hB q)).x.rd) (by omega) hnb).mono (fun e w' h => ⟨h.1, h.2.symm⟩))
      have S1 := Lib.hid (fun (q : Nat) => show Calls Try.prog 31 #[.slice a' n' c', .int .i64 k] (wr.drewN q) (fun e w' => e = .returned (secAt a' n' c' k) ∧ w' = wr.drewN q) from (sector_any a' n' c' k s (wr.drewN q) ((H.out.below (bel_drewN hB q)).y.rd) (by omega) hns2).mono (fun e w' h => ⟨h.1, h.2.symm⟩))
      have hE := fun (q : Nat) => show Calls Try.prog 30 #[secAt a n c k, secAt a' n' c' k] (wr.drewN q) (fun e w' => e = .returned (.bool (!secNe b s k)) ∧ w' = wr.drewN q) from (equal_any _ _ _ _ _ _ _ _ (wr.drewN q) (secAt_rd ((H.out.below (bel_drewN hB q)).x.rd) k) (secAt_rd ((H.out.below (bel_drewN hB q)).y.rd) k)).mono (fun e w' h => ⟨by rw [h.1]; simp [secNe], h.2.symm⟩)
      cases hq : secNe b s k
      · rw [hq] at hE
        have E := Lib.hid hE
        have Q := Lib.hid hq
        clear hE hq
        go_wp2_with fail
        go_quiet (first | (with_reducible exact Calls.quiet_of_same (S0.out _)) | (with_reducible exact Calls.quiet_of_same (S1.out _)) | (with_reducible exact Calls.quiet_of_same (E.out _)))
        go_wp2_with fail
        go_roundw
        case rel => exact ⟨k + 1, a3, c3, by omega, by go_num, by rw [dirtyTo_succ, if_neg (by rw [Q.out]; decide)], by rw [dirtyTo_succ, if_neg (by rw [Q.out]; decide)]; exact ho.mono (Below.drewN' _ _), bel_drewN hB _⟩
        case measure => simp [intOf]; omega
      · rw [hq] at hE
        have E := Lib.hid hE
        have Q := Lib.hid hq
        clear hE hq
        go_wp2_with fail
        go_quiet (first | (with_reducible exact Calls.quiet_of_same (S0.out _)) | (with_reducible exact Calls.quiet_of_same (S1.out _)) | (with_reducible exact Calls.quiet_of_same (E.out _)))
        have ho2 := ho.mono (Below.drewN' wr nq)
        go_wp2_with (at_builtin; go_must (refine wpList_appOwn rfl rfl Try.oneI rfl rfl (ho2.alloc _) (Rd.one encN _ _ k) (fun _ => rfl) (by omega) (by omega) (by simp; omega) ?_); intro a5 c5 w5 ho5 hb5 _ _)
        go_roundw
        case rel =>
          have e : dirtyTo b s (k + 1) = dirtyTo b s k ++ [k] := by rw [dirtyTo_succ, if_pos Q.out]
          have e2 : (dirtyTo b s (k + 1)).length = (dirtyTo b s k).length + 1 := by rw [e]; simp
          exact ⟨k + 1, a5, c5, by omega, by go_num, by rw [e2], by rw [e2, e]; exact ho5, (bel_drewN hB nq).trans (((Below.refl _ (wr.drewN nq)).alloc hsz _).trans hb5)⟩
        case measure => simp [intOf]; omega
    · obtain rfl : k = m := by omega
      go_wp2_with fail
      go_ret
      exact ⟨a3, c3, by rw [dirtyL, HM.out]; rfl, by rw [dirtyL, HM.out]; exact ho, hB⟩
end Go.Proofs.Ytenikpbnggkmgaa
