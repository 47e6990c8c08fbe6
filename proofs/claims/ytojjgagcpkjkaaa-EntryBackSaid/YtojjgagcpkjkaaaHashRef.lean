/- What the document's word, turn compute; its Lookup at one input. Conditions stand as premises. Printed by gen_hashref.py. -/
import Derived.Test.YtojjgagcpkjkaaaHashLook
namespace Go.Proofs.Ytojjgagcpkjkaaa
open Go.ChangeShapes Go.WideShapes Go.ChangeAt Go.RowKit
set_option linter.unusedVariables false

theorem turn_lit (x : Int) (k : Nat) (K : Int) (hK : K = (k : Int)) (h0 : 0 ≤ x) (h1 : x ≤ 4294967295) (hk : 0 < k) (hk2 : k < 32) (w : World) :
    Calls Try.prog 40 #[.int .u32 x, .int .u64 K] w fun e w' => e = .returned (.int .u32 (rotF x k)) ∧ w = w' := by
  subst hK
  go_enter Try.func40, Try.ntmps40
  go_wp2
  go_ret
  exact ⟨rfl, rfl⟩

def wordI (l : List Int) (p : Nat) : Nat → Int
  | 0 => 0
  | j + 1 => if p + (3 - j) < l.length then bits .or .u32 (wordI l p j * 256 % 4294967296) (l.getD (p + (3 - j)) 0) else wordI l p j * 256 % 4294967296
theorem or32_bd (a b : Int) : 0 ≤ bits .or .u32 a b ∧ bits .or .u32 a b ≤ 4294967295 := by
  have h : bits .or .u32 a b = IntKind.u32.wrap ((BitVec.ofInt 32 a ||| BitVec.ofInt 32 b).toNat : Int) := rfl
  rw [h]; exact wrap32_bd _
theorem wordI_bd (l : List Int) (p j : Nat) : 0 ≤ wordI l p j ∧ wordI l p j ≤ 4294967295 := by
  cases j with
  | zero => simp [wordI]
  | succ j =>
    rw [wordI]
    split
    · exact or32_bd _ _
    · exact mod_bd _

set_option maxHeartbeats 600000 in
theorem word_any (a : Option Addr) (n c : Nat) (l : List Int) (p : Nat) (P : Int) (hP : P = (p : Int)) (hp : p ≤ 100000) (w : World) (hr : RdB w a n c l) (hn : n ≤ 100000) :
    Calls Try.prog 39 #[.slice a n c, .int .i64 P] w fun e w' => e = .returned (.int .u32 (wordI l p 4)) ∧ w = w' := by
  subst hP
  obtain rfl : l.length = n := hr.len
  have HR := Lib.hid hr
  clear hr
  go_enter Try.func39, Try.ntmps39
  go_wp2_with fail
  go_loopw [5, 6] (fun b d wr => ∃ j : Nat, j ≤ 4 ∧ b = .int .u32 (wordI l p j) ∧ d = .int .i64 (3 - (j : Int)) ∧ wr = w) (fun _ d _ => (match d with | .int _ x => (x + 1).toNat | _ => 0))
  case atStart => exact ⟨0, by omega, rfl, rfl, rfl⟩
  case round =>
    obtain ⟨j, hj, rfl, rfl, rfl⟩ := hrel
    obtain ⟨v0, v1⟩ := wordI_bd l p j
    obtain ⟨v, hv⟩ : ∃ v, wordI l p j = v := ⟨_, rfl⟩
    have HV := Lib.hid hv
    rw [hv] at v0 v1 ⊢
    clear hv
    by_cases hlt : j < 4
    · obtain ⟨i, hi⟩ : ∃ i : Nat, 3 - j = i := ⟨_, rfl⟩
      have hi2 : (3 : Int) - (j : Int) = (i : Int) := by omega
      rw [hi2]
      have hi0 : (0 : Int) ≤ (i : Int) := by omega
      have hpi : (p : Int) + (i : Int) ≤ 200000 := by omega
      by_cases hin : p + i < l.length
      · have hin' : (p : Int) + (i : Int) < (l.length : Int) := by omega
        obtain ⟨u, hu⟩ : ∃ u : Int, l.getD (p + i) 0 = u := ⟨_, rfl⟩
        obtain ⟨b, off, rfl, hbk, hcs⟩ := HR.out.2.at (by omega)
        have hel : l[p + i]? = some u := by rw [← hu, List.getD_eq_getElem?_getD, List.getElem?_eq_getElem hin]; rfl
        have hcell := hcs (p + i) u hel
        have hub := HR.out.1 u (List.mem_of_getElem? hel)
        have hq0 : (0 : Int) ≤ (p : Int) + (i : Int) := by omega
        have hcell' : wr.cell? ⟨b, off + ((p : Int) + (i : Int)).toNat, none⟩ = some (.int .u8 u) := by rw [show ((p : Int) + (i : Int)).toNat = p + i by omega]; exact hcell
        have HU := Lib.hid hu
        have HI := Lib.hid hi
        have HN := Lib.hid hin
        clear hcs hel hu hi hin
        obtain ⟨hu0, hu1⟩ := hub
        go_wp2_with fail
        go_roundw
        case rel => exact ⟨j + 1, by omega, by rw [wordI, HV.out, if_pos (by rw [HI.out]; exact HN.out), HI.out, HU.out], by have := HI.out; congr 1; omega, trivial⟩
        case measure => show ((i : Int) - 1 + 1).toNat < ((i : Int) + 1).toNat; omega
      · have hin' : ¬ (p : Int) + (i : Int) < (l.length : Int) := by omega
        have HI := Lib.hid hi
        have HN := Lib.hid hin
        clear hi hin
        go_wp2_with fail
        go_roundw
        case rel => exact ⟨j + 1, by omega, by rw [wordI, HV.out, if_neg (by rw [HI.out]; exact HN.out)], by have := HI.out; congr 1; omega, trivial⟩
        case measure => show ((i : Int) - 1 + 1).toNat < ((i : Int) + 1).toNat; omega
    · obtain rfl : j = 4 := by omega
      go_wp2_with fail
      go_ret
      exact ⟨by rw [HV.out]; rfl, rfl⟩

theorem wA1_0 : wordI [65, 61, 49] 0 4 = 3226945 := by decide +kernel
theorem wA1_4 : wordI [65, 61, 49] 4 4 = 0 := by decide +kernel
theorem wA1_8 : wordI [65, 61, 49] 8 4 = 0 := by decide +kernel
set_option maxRecDepth 100000 in
set_option maxHeartbeats 1000000 in
theorem reflookup_lit (a : Option Addr) (c : Nat) (w : World) (hr : RdB w a 3 c [65, 61, 49]) :
    Calls Try.prog 28 #[.slice a 3 c] w fun e w' => e = .returned (.int .u64 13268681804937624067) ∧ w = w' := by
  have W0 := Lib.hid (word_any a 3 c [65, 61, 49] 0 0 rfl (by omega) w hr (by omega))
  have W4 := Lib.hid (word_any a 3 c [65, 61, 49] 4 4 rfl (by omega) w hr (by omega))
  have W8 := Lib.hid (word_any a 3 c [65, 61, 49] 8 8 rfl (by omega) w hr (by omega))
  rw [wA1_0] at W0
  rw [wA1_4] at W4
  rw [wA1_8] at W8
  clear hr
  go_enter Try.func28, Try.ntmps28
  go_wp2_with fail
  go_loopw [3, 4, 5, 6] (fun b d e f wr => b = .int .u32 3735928562 ∧ d = .int .u32 3735928562 ∧ e = .int .u32 3735928562 ∧ f = .int .i64 0 ∧ wr = w) (fun _ _ _ _ _ => 0)
  case atStart => exact ⟨rfl, rfl, rfl, rfl, rfl⟩
  case round =>
    obtain ⟨rfl, rfl, rfl, rfl, rfl⟩ := hrel
    go_wp2_with fail
    refine W0.out.mono ?_
    rintro e w' ⟨rfl, rfl⟩
    go_wp2_with fail
    refine W4.out.mono ?_
    rintro e w' ⟨rfl, rfl⟩
    go_wp2_with fail
    refine W8.out.mono ?_
    rintro e w' ⟨rfl, rfl⟩
    go_upto_region 29 with fail
    rw [show bits .xor .u32 3735928562 3735928562 = 0 by decide +kernel]
    go_wp2_with fail
    (with_reducible refine (turn_lit 3735928562 14 14 rfl (by decide) (by decide) (by decide) (by decide) _).mono ?_)
    rintro e w' ⟨rfl, rfl⟩
    rw [show rotF 3735928562 14 = 1874638763 by decide +kernel]
    go_upto_region 31 with fail
    rw [show bits .xor .u32 3739155507 2420328533 = 1318958182 by decide +kernel]
    go_wp2_with fail
    (with_reducible refine (turn_lit 2420328533 11 11 rfl (by decide) (by decide) (by decide) (by decide) _).mono ?_)
    rintro e w' ⟨rfl, rfl⟩
    rw [show rotF 2420328533 11 = 440577154 by decide +kernel]
    go_upto_region 33 with fail
    rw [show bits .xor .u32 3735928562 878381028 = 3942037782 by decide +kernel]
    go_wp2_with fail
    (with_reducible refine (turn_lit 878381028 25 25 rfl (by decide) (by decide) (by decide) (by decide) _).mono ?_)
    rintro e w' ⟨rfl, rfl⟩
    rw [show rotF 878381028 25 = 3362305551 by decide +kernel]
    go_upto_region 35 with fail
    rw [show bits .xor .u32 2420328533 579732231 = 2999798610 by decide +kernel]
    go_wp2_with fail
    (with_reducible refine (turn_lit 579732231 16 16 rfl (by decide) (by decide) (by decide) (by decide) _).mono ?_)
    rintro e w' ⟨rfl, rfl⟩
    rw [show rotF 579732231 16 = 50799246 by decide +kernel]
    go_upto_region 37 with fail
    rw [show bits .xor .u32 878381028 2948999364 = 2610769696 by decide +kernel]
    go_wp2_with fail
    (with_reducible refine (turn_lit 2948999364 4 4 rfl (by decide) (by decide) (by decide) (by decide) _).mono ?_)
    rintro e w' ⟨rfl, rfl⟩
    rw [show rotF 2948999364 4 = 4234316874 by decide +kernel]
    go_upto_region 39 with fail
    rw [show bits .xor .u32 579732231 2671420118 = 3182731729 by decide +kernel]
    go_wp2_with fail
    (with_reducible refine (turn_lit 2671420118 14 14 rfl (by decide) (by decide) (by decide) (by decide) _).mono ?_)
    rintro e w' ⟨rfl, rfl⟩
    rw [show rotF 2671420118 14 = 2830477262 by decide +kernel]
    go_upto_region 41 with fail
    rw [show bits .xor .u32 2948999364 352254467 = 3141063367 by decide +kernel]
    go_wp2_with fail
    (with_reducible refine (turn_lit 352254467 24 24 rfl (by decide) (by decide) (by decide) (by decide) _).mono ?_)
    rintro e w' ⟨rfl, rfl⟩
    rw [show rotF 352254467 24 = 51707642 by decide +kernel]
    go_wp2_with fail
    go_ret

    exact ⟨rfl, rfl⟩
theorem lookF_A1 : lookF [65, 61, 49] = 13268681804937624067 := by decide +kernel
end Go.Proofs.Ytojjgagcpkjkaaa
