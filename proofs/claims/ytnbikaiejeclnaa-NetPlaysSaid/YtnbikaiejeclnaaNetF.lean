/- The first example of the laws on net.Net. No condition. -/
import Derived.Test.YtnbikaiejeclnaaNetL
namespace Go.Proofs.Ytnbikaiejeclnaa
open Go.ChangeShapes Go.WideShapes Go.ChangeAt Go.RowKit
set_option linter.unusedVariables false

theorem nfirst_any (w : World) : Calls Try.prog 8 #[] w fun e w' => e = .returned (.bool true) ∧ Below w.heap.size w w' := by
  have kc := fun (w : World) (C : Array Value) (n c : Nat) => Lib.run_convert_bytes_const (P := Try.prog) w 29 5 C n c Try.underlying29 Try.underlying5
  go_enter Try.func8, Try.ntmps8
  go_wp2_with fail
  refine (netnew _).mono ?_
  rintro e w1 ⟨rfl, hw1⟩
  have hL0 := Live.new w 52
  rw [hw1] at hL0
  clear hw1
  generalize hp : w.heap.size = p at hL0
  have HP := Lib.hid hp
  clear hp
  go_wp2_with fail
  refine (s_take w.heap.size p ([], []) _ 0 0 w1 hL0.net).mono ?_
  rintro e w2 ⟨a2, n2, c2, rfl, hr2, hf2, hst⟩
  obtain ⟨F2, hL2⟩ := hL0.step hst
  clear hst hr2 hf2 hL0
  rw [show getC ([], []) 0 0 = 16 from rfl]
  rw [show takeS ([], []) 0 0 = ([], []) from rfl] at hL2
  go_wp2_with fail
  have hL3 := hL2.ahead ((Below.refl _ _).alloc (Nat.le_refl _) (.cells #[.int .u8 109] 5 (1, 2)))
  have hr3 := RdB.marked w2 [109] 5 (1, 2) #[.int .u8 109] 1 1 rfl rfl (by omega) (by unfold maxLen; omega) (by intro x hx; simp at hx; omega)
  refine (s_send w.heap.size p _ F2 1 _ _ _ [109] _ hL3.net hr3 (by omega)).mono ?_
  rintro e w4 ⟨rfl, hst⟩
  obtain ⟨F4, hL4⟩ := hL3.step hst
  clear hst hL3 hr3 hL2
  rw [show sendC ([], []) 1 = 0 from rfl]
  rw [show sendS ([], []) 1 [109] = ([], [[109]]) from rfl] at hL4
  go_wp2_with fail
  refine (s_len w.heap.size p _ F4 1 _ hL4.net).mono ?_
  rintro e w5 ⟨rfl, rfl⟩
  rw [show (if isW 1 = true then ((rowS ([], [[109]]) 1).length : Int) else 0) = 1 from rfl]
  go_wp2_with fail
  go_ret
  exact ⟨rfl, hL4.bel⟩
end Go.Proofs.Ytnbikaiejeclnaa
