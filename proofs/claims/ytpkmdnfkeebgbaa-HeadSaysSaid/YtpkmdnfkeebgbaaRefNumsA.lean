/- What the document's own Nums and Put (layer 7) compute. Conditions stand as premises. -/
import Derived.Test.YtpkmdnfkeebgbaaPutN
import Derived.Test.YtpkmdnfkeebgbaaRows2
import Derived.Test.YtpkmdnfkeebgbaaRefLow
namespace Go.Proofs.Ytpkmdnfkeebgbaa
open Go.ChangeShapes Go.WideShapes Go.ChangeAt Go.RowKit
set_option linter.unusedVariables false

theorem nums_any (a2 : Option Addr) (n2 c2 : Nat) (vs : List Int) (w : World) (hr2 : Rd (Value.int .u64) w a2 n2 c2 vs) (hv : ∀ v ∈ vs, 0 ≤ v ∧ v ≤ 18446744073709551615) (hlen2 : n2 ≤ 1000) :
    Calls Try.prog 28 #[.slice a2 n2 c2] w (NewB w.heap.size w (numsL vs)) := by
  obtain rfl : vs.length = n2 := hr2.1
  go_enter Try.func28, Try.ntmps28
  go_wp2_with fail
  go_loopw [3, 4] (fun s i wr => ∃ (k : Nat) (a' : Option Addr) (c' : Nat), k ≤ vs.length ∧ i = .int .i64 k ∧ s = .slice a' (8 * k) c' ∧ OwnB 5 wr w.heap.size a' (8 * k) c' (numsL (vs.take k)) ∧ Below w.heap.size w wr) (fun _ i _ => vs.length - (intOf i).toNat)
  case atStart => exact ⟨0, none, 0, Nat.zero_le _, rfl, rfl, ⟨IsB.nil, Own.nil _ _ _ _⟩, Below.refl _ _⟩
  case round =>
    obtain ⟨k, a', c', hk, rfl, rfl, ho, hB⟩ := hrel
    have hsz := hB.size
    by_cases hlt : k < vs.length
    · obtain ⟨b, off, rfl, hc⟩ := cellAt (hr2.mono hB) k hlt
      have hb := hv vs[k] (List.getElem_mem hlt)
      have HS := Lib.hid (numsL_snoc vs k hlt)
      generalize hz : vs[k] = z at hc hb HS
      clear hz
      go_wp2_with fail
      refine (low_any z 8 _ hb (by omega)).mono ?_
      rintro e w2 ⟨a3, c3, rfl, ho3, hb3⟩
      have ho2 := ho.mono hb3
      have hsz3 := hb3.size
      rw [digs_length] at ho3 ⊢
      go_wp2_with (at_builtin; go_must (refine wpList_appOwn rfl rfl Try.oneB rfl rfl ho2.2 ho3.rd.raw (fun _ => rfl) (by omega) (by omega) (by omega) ?_); intro a4 c4 w4 ho4 hb4 _ _)
      go_roundw
      case rel =>
        rw [← HS.out] at ho4
        exact ⟨k + 1, a4, c4, by omega, by go_num, rfl, ⟨numsL_isB _, ho4⟩, (hB.trans (hb3.mono hsz)).trans hb4⟩
      case measure => simp [intOf]; omega
    · obtain rfl : k = vs.length := by omega
      rw [List.take_length] at ho
      go_wp2
      go_ret
      have hl4 : (numsL vs).length = 8 * vs.length := numsL_length vs
      rw [← hl4] at ho ⊢
      exact ⟨a', c', rfl, ho, hB⟩

def lenV : Value → Nat
  | .slice _ n _ => n
  | _ => 0

set_option maxHeartbeats 1000000 in
theorem refput_obj (a : Option Addr) (n c : Nat) (kind : Int) (l : List Int) (w : World) (hr : RdB w a n c l) (hlen : n ≤ 140737488350000) :
    Calls Try.prog 58 #[.int .i64 kind, .slice a n c] w (NewB w.heap.size w (putO kind l)) := by
  obtain rfl : l.length = n := hr.len
  by_cases h1 : kind < 1
  · rw [putO, if_neg (by omega)]
    go_enter Try.func58, Try.ntmps58
    go_wp2
    go_ret
    exact ⟨none, 0, rfl, ⟨IsB.nil, Own.nil _ _ _ _⟩, Below.refl _ _⟩
  by_cases h2 : 7 < kind
  · rw [putO, if_neg (by omega)]
    go_enter Try.func58, Try.ntmps58
    go_wp2
    go_ret
    exact ⟨none, 0, rfl, ⟨IsB.nil, Own.nil _ _ _ _⟩, Below.refl _ _⟩
  rw [putO, if_pos (by omega)]
  have hd1 : decide (kind < 1) = false := by simp; omega
  have hd2 : decide (7 < kind) = false := by simp; omega
  have hm : kind % 256 = kind := Int.emod_eq_of_lt (by omega) (by omega)
  go_enter Try.func58, Try.ntmps58
  go_wp2_with fail
  have ho1 : Own (Value.int .u8) 5 (w.alloc (.cells #[.int .u8 kind, .int .u8 0, .int .u8 0, .int .u8 0, .int .u8 0, .int .u8 0, .int .u8 0, .int .u8 0] 5)) w.heap.size (some ⟨w.heap.size, 0, none⟩) 8 8 (kind :: List.replicate 7 0) := Own.lit (kind :: List.replicate 7 0) _ 8 rfl rfl (Nat.le_refl _) (by decide)
  have hB1 := (Below.refl w.heap.size w).alloc (Nat.le_refl _) (.cells #[.int .u8 kind, .int .u8 0, .int .u8 0, .int .u8 0, .int .u8 0, .int .u8 0, .int .u8 0, .int .u8 0] 5)
  have hz1 : (w.alloc (.cells #[.int .u8 kind, .int .u8 0, .int .u8 0, .int .u8 0, .int .u8 0, .int .u8 0, .int .u8 0, .int .u8 0] 5)).heap.size = w.heap.size + 1 := by simp
  generalize (w.alloc (.cells #[.int .u8 kind, .int .u8 0, .int .u8 0, .int .u8 0, .int .u8 0, .int .u8 0, .int .u8 0, .int .u8 0] 5)) = w1 at ho1 hB1 hz1 ⊢
  rw [← hz1]
  refine (nums_any _ _ _ [16 + (l.length : Int)] _ (Rd.one (Value.int .u64) 27 w1 (16 + (l.length : Int))) (by intro v hv; simp at hv; omega) (by omega)).mono ?_
  rintro e w2 ⟨a2, c2, rfl, ho2, hb2⟩
  have hn1 : numsL [16 + (l.length : Int)] = digs 8 (16 + (l.length : Int)) := by simp [numsL]
  rw [hn1, digs_length] at ho2
  rw [hn1, digs_length]
  have hb2' := ((Below.refl w1.heap.size w1).alloc (Nat.le_refl _) (.cells #[.int .u64 (16 + (l.length : Int))] 27)).trans (hb2.mono (by simp))
  have hB2 := hB1.trans (hb2'.mono (by omega))
  have hz2 := hB2.size
  have ho1b := ho1.mono hb2'
  go_wp2_with (first | (at_builtin; refine wpList_appOwn rfl rfl Try.oneB rfl rfl ho3 hr3.raw (fun _ => rfl) (by omega) (by omega) (by omega) ?_; intro a4 c4 w4 ho4 hb4 _ _) | (at_builtin; go_must (refine wpList_appOwn rfl rfl Try.oneB rfl rfl ho1b ho2.rd.raw (fun _ => rfl) (by omega) (by omega) (by omega) ?_); intro a3 c3 w3 ho3 hb3 _ _; have hr3 := hr.mono (hB2.trans hb3); have hz3 := hb3.size))
  have hB4 := (hB2.trans hb3).trans hb4
  have e0 : kind :: List.replicate 7 0 ++ digs 8 (16 + (l.length : Int)) ++ l = kind :: (List.replicate 7 0 ++ (digs 8 (16 + (l.length : Int)) ++ l)) := by simp
  rw [e0] at ho4
  generalize hP : (8 - l.length % 8) % 8 = P
  generalize hX : kind :: (List.replicate 7 0 ++ (digs 8 (16 + (l.length : Int)) ++ l)) = X at ho4
  have HX := Lib.hid hX
  have HP := Lib.hid hP
  clear hX e0
  go_loopw [5] (fun s wr => ∃ (k : Nat) (a' : Option Addr) (c' : Nat), k ≤ P ∧ s = .slice a' (16 + l.length + k) c' ∧ Own (Value.int .u8) 5 wr w.heap.size a' (16 + l.length + k) c' (X ++ List.replicate k 0) ∧ Below w.heap.size w wr) (fun s _ => 16 + l.length + P - lenV s)
  case atStart => exact ⟨0, a4, c4, Nat.zero_le _, rfl, by simpa using ho4, hB4⟩
  case round =>
    obtain ⟨k, a', c', hk, rfl, ho, hB⟩ := hrel
    have hsz := hB.size
    by_cases hlt : k < P
    · have hd : ((16 + (l.length : Int) + (k : Int)) % 8 != 0) = true := by rw [bne_iff_ne]; omega
      go_wp2_with (at_builtin; go_must (refine wpList_appOwn rfl rfl Try.oneB rfl rfl (ho.alloc _) (Rd.one _ _ _ _) (fun _ => rfl) (by omega) (by omega) (by simp; omega) ?_); intro a5 c5 w5 ho5 hb5 _ _)
      go_roundw
      case rel => exact ⟨k + 1, a5, c5, by omega, rfl, by rw [List.append_assoc, ← List.replicate_succ'] at ho5; exact ho5, hB.trans (((Below.refl _ _).alloc hsz _).trans hb5)⟩
      case measure => simp [lenV]; omega
    · obtain rfl : k = P := by omega
      have hd : ((16 + (l.length : Int) + (k : Int)) % 8 != 0) = false := by rw [bne_eq_false_iff_eq]; omega
      go_wp2
      go_ret
      have hll := objL_length kind l
      rw [HP.out] at hll
      have e1 : X ++ List.replicate k 0 = objL kind l := by rw [← HX.out, ← HP.out]; simp [objL]
      rw [e1] at ho
      rw [← hll] at ho ⊢
      exact ⟨a', c', rfl, ⟨objL_isB (by omega) hr.1, ho⟩, hB⟩
end Go.Proofs.Ytpkmdnfkeebgbaa
