/- What diurnalmake.Bytes computes. Conditions stand as premises. -/
import Derived.Test.YtfhpdhfhahbfnaaClone
namespace Go.Proofs.Ytfhpdhfhahbfnaa
open Go.ChangeShapes Go.WideShapes Go.ChangeAt Go.RowKit
set_option linter.unusedVariables false

theorem bytes_any (a : Option Addr) (n c : Nat) (l : List Int) (w : World) (hr : RdB w a n c l) (hlen : n ≤ 140737488351232) :
    Calls Try.prog 18 #[.slice a n c] w (NewB w.heap.size w l) := by
  obtain rfl : l.length = n := hr.len
  have hr1 := hr.2.alloc (.cells #[] 5)
  have ho1 : Own (Value.int .u8) 5 (w.alloc (.cells #[] 5)) w.heap.size (some ⟨w.heap.size, 0, none⟩) 0 0 [] := Own.lit [] _ 0 rfl rfl (Nat.le_refl _) (Nat.zero_le _)
  go_enter Try.func18, Try.ntmps18
  go_wp2_with (at_builtin; go_must (refine wpList_appOwn rfl rfl Try.oneB rfl rfl ho1 hr1 (fun _ => rfl) (by omega) (by omega) (by simp) ?_); intro a2 c2 w2 ho2 hb2 _ _)
  go_ret
  rw [Nat.zero_add, List.nil_append] at ho2
  exact ⟨a2, c2, rfl, ⟨hr.1, ho2⟩, ((Below.refl _ _).alloc (Nat.le_refl _) _).trans hb2⟩

end Go.Proofs.Ytfhpdhfhahbfnaa
