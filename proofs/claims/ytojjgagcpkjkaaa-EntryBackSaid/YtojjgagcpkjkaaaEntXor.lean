/- What entry.Xor computes; the law's example. Conditions stand as premises. -/
import Derived.Test.YtojjgagcpkjkaaaHashRef
import Derived.Test.YtojjgagcpkjkaaaRows2
namespace Go.Proofs.Ytojjgagcpkjkaaa
open Go.ChangeShapes Go.WideShapes Go.ChangeAt Go.RowKit
set_option linter.unusedVariables false

theorem wrap64_bd (z : Int) : 0 ≤ IntKind.u64.wrap z ∧ IntKind.u64.wrap z ≤ 18446744073709551615 := by
  rw [show IntKind.u64.wrap z = z % 18446744073709551616 from rfl]
  omega
theorem or64_bd (a b : Int) : 0 ≤ bits .or .u64 a b ∧ bits .or .u64 a b ≤ 18446744073709551615 := by
  have h : bits .or .u64 a b = IntKind.u64.wrap ((BitVec.ofInt 64 a ||| BitVec.ofInt 64 b).toNat : Int) := rfl
  rw [h]; exact wrap64_bd _
theorem xor64_bd (a b : Int) : 0 ≤ bits .xor .u64 a b ∧ bits .xor .u64 a b ≤ 18446744073709551615 := by
  have h : bits .xor .u64 a b = IntKind.u64.wrap ((BitVec.ofInt 64 a ^^^ BitVec.ofInt 64 b).toNat : Int) := rfl
  rw [h]; exact wrap64_bd _
theorem lookF_bd (l : List Int) : 0 ≤ lookF l ∧ lookF l ≤ 18446744073709551615 := or64_bd _ _

def xorI (ls : List (List Int)) : Nat → Int
  | 0 => 0
  | i + 1 => bits .xor .u64 (xorI ls i) (lookF (ls.getD i []))
theorem xorI_bd (ls : List (List Int)) (i : Nat) : 0 ≤ xorI ls i ∧ xorI ls i ≤ 18446744073709551615 := by
  cases i with
  | zero => simp [xorI]
  | succ i => rw [xorI]; exact xor64_bd _ _

set_option maxHeartbeats 600000 in
theorem xor_any (a : Option Addr) (n c : Nat) (ls : List (List Int)) (w : World) (hr : RdBB w a n c ls) (hn : n ≤ 1000) (hm : ∀ l ∈ ls, l.length ≤ 100000) :
    Calls Try.prog 9 #[.slice a n c] w fun e w' => e = .returned (.int .u64 (xorI ls ls.length)) ∧ Below w.heap.size w w' := by
  obtain rfl : ls.length = n := hr.len
  have HR := Lib.hid hr
  have HM := Lib.hid hm
  clear hr hm
  go_enter Try.func9, Try.ntmps9
  go_wp2_with fail
  go_loopw [3, 8] (fun b d wr => ∃ i : Nat, i ≤ ls.length ∧ b = .int .u64 (xorI ls i) ∧ d = .int .i64 (i : Int) ∧ Below w.heap.size w wr) (fun _ d _ => (match d with | .int _ x => ls.length - x.toNat | _ => 0))
  case atStart => exact ⟨0, by omega, rfl, rfl, Below.refl _ _⟩
  case round =>
    obtain ⟨i, hi, rfl, rfl, hB⟩ := hrel
    obtain ⟨v0, v1⟩ := xorI_bd ls i
    obtain ⟨v, hv⟩ : ∃ v, xorI ls i = v := ⟨_, rfl⟩
    have HV := Lib.hid hv
    rw [hv] at v0 v1 ⊢
    clear hv
    have HB := Lib.hid hB
    clear hB
    by_cases hlt : i < ls.length
    · have hlt' : (i : Int) < (ls.length : Int) := by omega
      obtain ⟨vs, h1, h2, h3⟩ := HR.out.mono HB.out
      obtain ⟨b, off, rfl, hbk, hcs⟩ := h1.at (by omega)
      obtain ⟨⟨a1, n1, c1⟩, he⟩ : ∃ e, vs[i]? = some e := ⟨_, List.getElem?_eq_getElem (by omega)⟩
      obtain ⟨l, hl⟩ : ∃ l, ls[i]? = some l := ⟨_, List.getElem?_eq_getElem hlt⟩
      have hcell : wr.cell? ⟨b, off + i, none⟩ = some (.slice a1 n1 c1) := hcs i _ he
      have hr1 : RdB wr a1 n1 c1 l := h3 i _ _ he hl
      have hln := HM.out l (List.mem_of_getElem? hl)
      have hgd : ls.getD i [] = l := by rw [List.getD_eq_getElem?_getD, hl]; rfl
      obtain rfl : l.length = n1 := hr1.len
      obtain ⟨q0, q1⟩ := lookF_bd l
      have HC := Lib.hid (hashlook_any a1 l.length c1 l wr hr1 hln)
      clear h1 h2 h3 hcs he hl hr1 hlt
      go_wp2_with fail
      refine HC.out.mono ?_
      rintro e w' ⟨rfl, hB1⟩
      go_wp2_with fail
      go_roundw
      case rel => exact ⟨i + 1, by omega, by rw [xorI, HV.out, hgd], by congr 1, HB.out.trans (hB1.mono HB.out.size)⟩
      case measure => show ls.length - ((i : Int) + 1).toNat < ls.length - (i : Int).toNat; omega
    · have hge : ¬ (i : Int) < (ls.length : Int) := by omega
      obtain rfl : i = ls.length := by omega
      go_wp2_with fail
      go_ret
      exact ⟨by rw [HV.out]; rfl, HB.out⟩

theorem mA1 (w : World) : RdB (w.alloc (.cells #[.int .u8 65, .int .u8 61, .int .u8 49] 5 (3, 4))) (some ⟨w.heap.size, 0, none⟩) 3 3 [65, 61, 49] :=
  RdB.marked w [65, 61, 49] 5 (3, 4) #[.int .u8 65, .int .u8 61, .int .u8 49] 3 3 rfl rfl (by omega) (by unfold maxLen; omega) (by intro x hx; simp at hx; omega)
theorem xorI_A1 : xorI [[65, 61, 49]] 1 = 13268681804937624067 := by
  rw [xorI, xorI, show ([[65, 61, 49]] : List (List Int)).getD 0 [] = [65, 61, 49] from rfl, lookF_A1]; decide +kernel

set_option maxHeartbeats 1000000 in
theorem first_any (w : World) : Calls Try.prog 8 #[] w fun e w' => e = .returned (.bool true) ∧ Below w.heap.size w w' := by
  have kc := fun (w : World) (C : Array Value) (n c : Nat) => Lib.run_convert_bytes_const (P := Try.prog) w 23 5 C n c Try.underlying23 Try.underlying5
  have h1 := RdBB.one 23 (mA1 w)
  simp only [World.size_alloc] at h1
  have hB0 := ((below_alloc w (.cells #[.int .u8 65, .int .u8 61, .int .u8 49] 5 (3, 4))).alloc (by simp) (.cells #[.slice (some ⟨w.heap.size, 0, none⟩) 3 3] 23))
  go_enter Try.func8, Try.ntmps8
  go_wp2_with fail
  refine (xor_any _ _ _ _ _ h1 (by omega) (by intro l hl; simp at hl; subst hl; simp)).mono ?_
  rintro e w1 ⟨rfl, hb1⟩
  have hB1 := Lib.hid (hB0.trans (hb1.mono hB0.size))
  rw [show ([[65, 61, 49]] : List (List Int)).length = 1 from rfl, xorI_A1]
  clear hb1 hB0 h1
  have h2 := mA1 w1
  go_wp2_with fail
  refine (reflookup_lit _ _ _ h2).mono ?_
  rintro e w2 ⟨rfl, rfl⟩
  clear h2
  have hB2 := Lib.hid (hB1.out.trans ((below_alloc w1 (.cells #[.int .u8 65, .int .u8 61, .int .u8 49] 5 (3, 4))).mono hB1.out.size))
  go_wp2_with fail
  refine (xor_any _ _ _ [] _ (RdBB.nil _) (by omega) (by intro x hx; simp at hx)).mono ?_
  rintro e w3 ⟨rfl, hb3⟩
  rw [show xorI [] (List.length ([] : List (List Int))) = 0 from rfl]
  have hB3 := Lib.hid (hB2.out.trans (hb3.mono hB2.out.size))
  clear hb3
  go_wp2_with fail
  go_ret
  exact ⟨rfl, hB3.out⟩
end Go.Proofs.Ytojjgagcpkjkaaa
