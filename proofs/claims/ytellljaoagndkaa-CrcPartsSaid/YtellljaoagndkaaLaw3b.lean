/- The walk of CrcParts: it comes to true and leaves what was there. No condition. -/
import Derived.Test.YtellljaoagndkaaLaw3
namespace Go.Proofs.Ytellljaoagndkaa
open Go.ChangeShapes Go.WideShapes Go.ChangeAt Go.RowKit
set_option linter.unusedVariables false

set_option maxRecDepth 100000 in
set_option maxHeartbeats 8000000 in
theorem law_parts (a : Option Addr) (n c : Nat) (l : List Int) (a2 : Option Addr) (n2 c2 : Nat) (zs : List Int) (w : World) (hr : RdB w a n c l) (hr2 : Rd (Value.int .i64) w a2 n2 c2 zs) :
    Calls Try.prog 3 #[.slice a n c, .slice a2 n2 c2] w fun e w' => e = .returned (.bool true) ∧ Below w.heap.size w w' := by
  have hlen : n ≤ 9223372036854775807 := by have h1 := hr.2.2.1; have h2 := hr.2.2.2.1; unfold maxLen at h2; omega
  have hlen2 : n2 ≤ 9223372036854775807 := by have h1 := hr2.2.1; have h2 := hr2.2.2.1; unfold maxLen at h2; omega
  obtain rfl : l.length = n := hr.len
  by_cases hbig : 400 < l.length
  · go_enter Try.func3, Try.ntmps3
    go_wp2_with fail
    refine (first_any _).mono ?_
    rintro e w1 ⟨rfl, hb1⟩
    go_wp2_with fail
    go_ret
    exact ⟨rfl, hb1⟩
  by_cases hbig2 : 20 < n2
  · go_enter Try.func3, Try.ntmps3
    go_wp2_with fail
    refine (first_any _).mono ?_
    rintro e w1 ⟨rfl, hb1⟩
    go_wp2_with fail
    go_ret
    exact ⟨rfl, hb1⟩
  have hd1 : decide (400 < (l.length : Int)) = false := by simp; omega
  have hd2 : decide (20 < (n2 : Int)) = false := by simp; omega
  have HZ := Lib.hid hr2.1
  have hcap := hr.2.2.1
  go_enter Try.func3, Try.ntmps3
  go_wp2_with fail
  refine (first_any _).mono ?_
  rintro e w1 ⟨rfl, hb1⟩
  go_wp2_with fail
  go_loopw [6, 7, 8, 9] (fun v6 v7 v8 v9 wr => ∃ (k f : Nat) (a' : Option Addr) (c' : Nat) (ls : List (List Int)), k ≤ n2 ∧ f ≤ l.length ∧ v9 = .int .i64 k ∧ v8 = .int .i64 f ∧ v6 = .int .u32 (moreI 0 (l.take f)) ∧ v7 = .slice a' k c' ∧ OwnOld w wr w.heap.size a' k c' ls ∧ ls.flatten = l.take f ∧ Below w.heap.size w wr)
    (fun _ _ _ i _ => n2 - (intOf i).toNat)
  case atStart => exact ⟨0, 0, none, 0, [], Nat.zero_le _, Nat.zero_le _, rfl, rfl, by rw [List.take_zero, moreI_nil 0 (by omega)], rfl, OwnOld.nil _ _ _, by simp, hb1⟩
  case round =>
    obtain ⟨k, f, a', c', ls, hk, hf, rfl, rfl, rfl, rfl, ho, hfl, hB⟩ := hrel
    have hsz := hB.size
    have HFL := Lib.hid hfl
    clear hfl
    have hrw := hr.mono hB
    by_cases hlt : k < n2
    · obtain ⟨b, off, rfl, hc⟩ := cellAt (hr2.mono hB) k (by have := HZ.out; omega)
      obtain ⟨z, hz⟩ : ∃ z, zs[k]'(by have := HZ.out; omega) = z := ⟨_, rfl⟩
      rw [hz] at hc
      obtain ⟨K, hK, hK2⟩ := mod_nat z ((l.length : Int) - f + 1) (by omega)
      have HK := Lib.hid hK
      clear hK hz
      go_wp2_with fail
      refine (number_nat _ _ K HK.out (by omega) (by omega) _).mono ?_
      rintro e w2 ⟨rfl, rfl⟩
      obtain ⟨vs, ho1, ho2, ho3⟩ := ho
      have hmb := moreI_bd 0 (l.take f)
      have hme := Lib.hid (moreI_append 0 (l.take f) ((l.drop f).take K) (hr.1.take _))
      have Htk : Hid (l.take f ++ (l.drop f).take K = l.take (f + K)) := Lib.hid (by rw [List.take_add])
      go_wp2_with (first | (with_reducible refine wpList_cut rfl rfl Try.oneB rfl rfl rfl hr4w.raw (by omega) (by omega) (by omega) ?_; intro a5 hr5 hs5) | (at_builtin; go_must (refine wpList_appOwn rfl rfl Try.oneBB rfl rfl (ho1.alloc _) (Rd.one encS _ _ (a3, _, _)) (fun _ => rfl) (by omega) (by omega) (by simp; omega) ?_); intro a4 c4 w4 ho4 hb4 _ _; have hr4w := hr.mono (hB.trans (((Below.refl _ _).alloc hsz _).trans hb4))) | (with_reducible refine wpList_cut rfl rfl Try.oneB rfl rfl rfl hrw.raw (by omega) (by omega) (by omega) ?_; intro a3 hr3 hs3))
      have e0 : ((f : Int) + (K : Int)).toNat - ((f : Int)).toNat = K := by omega
      have e1 : ((f : Int)).toNat = f := by omega
      have e2 : f + K - f = K := by omega
      rw [e0, e1] at hr5
      have ha3 := hs3 w hr.raw
      rw [e0, e1] at ha3
      rw [e2] at ho4 ⊢
      refine (more_any _ _ _ _ ((l.drop f).take K) hmb _ (RdB.of ((hr.1.drop _).take _) hr5) (by omega)).mono ?_
      rintro e w5 ⟨rfl, rfl⟩
      rw [hme.out, Htk.out]
      have Hlen : Hid (ls.length = k) := Lib.hid (by have := ho1.1; omega)
      go_wp2_with fail
      go_roundw
      case rel =>
        refine ⟨k + 1, f + K, a4, c4, ls ++ [(l.drop f).take K], by omega, by omega, by go_num, by go_num, rfl, rfl, ⟨_, ho4, by simp; omega, snoc_all ho2 ho3 (RdB.of ((hr.1.drop _).take _) ha3)⟩, ?_, hB.trans (((Below.refl _ _).alloc hsz _).trans hb4)⟩
        rw [List.flatten_append, HFL.out, List.flatten_cons, List.flatten_nil, List.append_nil, Htk.out]
      case measure => simp [intOf]; omega
    · obtain ⟨vs, ho1, ho2, ho3⟩ := ho
      go_wp2_with (first | (at_builtin; go_must (refine wpList_appOwn rfl rfl Try.oneBB rfl rfl (ho1.alloc _) (Rd.one encS _ _ (a3, _, _)) (fun _ => rfl) (by omega) (by omega) (by simp; omega) ?_); intro a4 c4 w4 ho4 hb4 _ _; have hr4w := hr.mono (hB.trans (((Below.refl _ _).alloc hsz _).trans hb4))) | (with_reducible refine wpList_cutL rfl rfl Try.oneB rfl rfl hrw.raw (by omega) (by omega) ?_; intro a3 hr3 hs3))
      have e1 : ((f : Int)).toNat = f := by omega
      have ha3 := hs3 w hr.raw
      rw [e1] at ha3
      have hB4 := hB.trans (((Below.refl _ _).alloc hsz _).trans hb4)
      have hz4 := hB4.size
      have Hlen : Hid (ls.length = k) := Lib.hid (by have := ho1.1; omega)
      have hbb : OwnOld w w4 w.heap.size a4 (k + 1) c4 (ls ++ [l.drop f]) := ⟨_, ho4, by simp; omega, snoc_all ho2 ho3 (RdB.of (hr.1.drop _) ha3)⟩
      have hrd := hbb.rd hB4
      have hall : (ls ++ [l.drop f]).flatten = l := by
        rw [List.flatten_append, HFL.out, List.flatten_cons, List.flatten_nil, List.append_nil, List.take_append_drop]
      have Hsum : Hid (sumI (ls ++ [l.drop f]) = moreI 0 l) := Lib.hid (by rw [sumI_flat _ hrd.isB, hall])
      have hsh : ∀ x ∈ ls ++ [l.drop f], x.length ≤ l.length := fun x hx => by
        have := mem_flatten_length hx
        rw [hall] at this
        exact this
      refine (sum_any _ _ _ (ls ++ [l.drop f]) _ hrd (by omega) (fun x hx => by have := hsh x hx; omega)).mono ?_
      rintro e w5 ⟨rfl, rfl⟩
      rw [Hsum.out]
      have h1 := RdBB.one (w := w4) 22 hr4w
      go_wp2_with fail
      refine (sum_any _ _ _ [l] _ h1 (by omega) (by intro x hx; simp at hx; subst hx; omega)).mono ?_
      rintro e w5 ⟨rfl, rfl⟩
      rw [sumI_one]
      have hr5 := hr4w.mono ((Below.refl w4.heap.size w4).alloc (Nat.le_refl _) (.cells #[.slice a l.length c] 22))
      have hmb := moreI_bd 0 (l.take f)
      have Hm : Hid (moreI (moreI 0 (l.take f)) (l.drop f) = moreI 0 l) := Lib.hid (by rw [moreI_append 0 _ _ (hr.1.take _), List.take_append_drop])
      go_wp2_with (with_reducible refine wpList_cutLG rfl rfl Try.oneB rfl rfl hr5.raw (by omega) (by omega) ?_; intro a6 hr6 hs6)
      rw [e1] at hr6
      refine (more_any _ _ _ _ (l.drop f) hmb _ (RdB.of (hr.1.drop _) hr6) (by omega)).mono ?_
      rintro e w6 ⟨rfl, rfl⟩
      rw [Hm.out]
      have h2 := RdBB.one 22 hr5
      simp only [World.size_alloc] at h2
      go_wp2_with fail
      refine (sum_any _ _ _ [l] _ h2 (by omega) (by intro x hx; simp at hx; subst hx; omega)).mono ?_
      rintro e w7 ⟨rfl, rfl⟩
      rw [sumI_one]
      go_wp2
      go_ret
      exact ⟨ret_bool (by simp), (hB4.alloc hz4 _).alloc (by simp; omega) _⟩

end Go.Proofs.Ytellljaoagndkaa
