/- What slices.Clone computes at bytes: new bytes, the same. Conditions stand as premises. -/
import Derived.Test.YtpkmdnfkeebgbaaLib
namespace Go.Proofs.Ytpkmdnfkeebgbaa
open Go.ChangeShapes Go.WideShapes Go.ChangeAt Go.RowKit
set_option linter.unusedVariables false

/-! ### Clone -/
theorem Try.u8Info : (Try.prog.info? 5).map (fun i => (i.zero, i.size, i.bytes)) = some (some (.int .u8 0), 1, 1) := by kernel_rfl
theorem Try.oneB : OneInfo Try.prog 22 5 1 := by
  obtain ⟨i, hi, h0, h1, h2⟩ := info_parts Try.u8Info
  exact ⟨Try.underlying22, i, _, hi, h0, h1, h2, rfl⟩

theorem Try.zeroB : (Try.prog.info? 5).map (fun i => i.zero) = some (some (.int .u8 0)) := by kernel_rfl

/-- The answer of a call that hands back bytes of its own. -/
def NewB (base : Nat) (w : World) (l : List Int) (e : Ending) (w' : World) : Prop := ∃ a cap, e = .returned (.slice a l.length cap) ∧ OwnB 5 w' base a l.length cap l ∧ Below base w w'

theorem clone_any (a : Option Addr) (len cap : Nat) (l : List Int) (w : World) (hr : RdB w a len cap l) (hlen : len ≤ 140737488351232) :
    Calls Try.prog 37 #[.slice a len cap] w (NewB w.heap.size w l) := by
  have qn : ∀ (w : World) (a : Option Addr) (n c : Nat), (binOp .eql 22 (.slice a n c) (.slice none 0 0)).run Try.prog w = .ok (.bool a.isNone) w := fun w a n c => Lib.run_eql_slice_nil w _ _ a n c 0 0 Try.underlying22
  have Hl := Lib.hid hr.len
  cases a with
  | none =>
    have h0 : len = 0 := by
      have h1 := hr.2.2.1
      have h2 := hr.2.2.2.2.1 rfl
      omega
    obtain rfl : l = [] := List.eq_nil_of_length_eq_zero (by have := Hl.out; omega)
    clear h0
    go_enter Try.func37, Try.ntmps37
    go_wp2
    go_ret
    exact ⟨none, 0, rfl, ⟨IsB.nil, Own.nil _ _ _ _⟩, Below.refl _ _⟩
  | some ad =>
    go_enter Try.func37, Try.ntmps37
    have hr1 := hr.2.mono ((Below.refl _ _).alloc (Nat.le_refl _) (.cells #[] 5))
    have ho1 : Own (Value.int .u8) 5 (w.alloc (.cells #[] 5)) w.heap.size (some ⟨w.heap.size, 0, none⟩) 0 0 [] := Own.lit [] _ 0 rfl rfl (Nat.le_refl _) (Nat.zero_le _)
    go_wp2_with (at_builtin; go_must (refine wpList_appOwn rfl rfl Try.oneB rfl rfl ho1 hr1 (fun _ => rfl) (by omega) (by omega) (by simp) ?_); intro a' c' w' ho hb hn _)
    go_ret
    obtain rfl : l.length = len := Hl.out
    rw [Nat.zero_add] at ho
    exact ⟨a', c', rfl, ⟨hr.1, ho⟩, (((Below.refl _ _).alloc (Nat.le_refl _) _)).trans hb⟩

end Go.Proofs.Ytpkmdnfkeebgbaa
