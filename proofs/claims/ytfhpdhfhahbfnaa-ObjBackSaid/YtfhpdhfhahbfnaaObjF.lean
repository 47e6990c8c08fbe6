/- The first example of the laws on objects. No condition. -/
import Derived.Test.YtfhpdhfhahbfnaaObjData
import Derived.Test.YtfhpdhfhahbfnaaUpd
import Derived.Test.YtfhpdhfhahbfnaaSame
namespace Go.Proofs.Ytfhpdhfhahbfnaa
open Go.ChangeShapes Go.WideShapes Go.ChangeAt Go.RowKit
set_option linter.unusedVariables false

theorem RdB.nilW (w : World) : RdB w none 0 0 [] := ⟨IsB.nil, rfl, Nat.le_refl _, Nat.zero_le _, fun _ => rfl, .inl rfl⟩

theorem ofirst_any (w : World) : Calls Try.prog 8 #[] w fun e w' => e = .returned (.bool true) ∧ Below w.heap.size w w' := by
  have hs : ((bstr [7, 0, 0, 0, 0, 0, 0, 0, 16, 0, 0, 0, 0, 0, 0, 0]).toList == [7, 0, 0, 0, 0, 0, 0, 0, 16, 0, 0, 0, 0, 0, 0, 0]) = true := by rw [bstr_toList]; rfl
  go_enter Try.func8, Try.ntmps8
  go_wp2_with fail
  refine (put_obj none 0 0 7 [] w (RdB.nilW w) (by omega)).mono ?_
  rintro e w1 ⟨a1, c1, rfl, ho1, hb1⟩
  rw [show putO 7 [] = [7, 0, 0, 0, 0, 0, 0, 0, 16, 0, 0, 0, 0, 0, 0, 0] by decide] at ho1 ⊢
  rw [show ([7, 0, 0, 0, 0, 0, 0, 0, 16, 0, 0, 0, 0, 0, 0, 0] : List Int).length = 16 from rfl] at ho1 ⊢
  have hr1 := ho1.rd
  have HO := Lib.hid ho1
  clear ho1
  go_wp2_with (refine wpList_bytesString rfl rfl Try.underlying23 Try.underlying5 Try.underlying9 rfl hr1 ?_)
  refine (put_obj a1 16 c1 0 _ _ hr1 (by omega)).mono ?_
  rintro e w2 ⟨a2, c2, rfl, ho2, hb2⟩
  rw [show (putO 0 [7, 0, 0, 0, 0, 0, 0, 0, 16, 0, 0, 0, 0, 0, 0, 0]).length = 0 from rfl]
  have hr2 := hr1.mono hb2
  go_wp2_with fail
  refine (put_obj a1 16 c1 8 _ _ hr2 (by omega)).mono ?_
  rintro e w3 ⟨a3, c3, rfl, ho3, hb3⟩
  rw [show (putO 8 [7, 0, 0, 0, 0, 0, 0, 0, 16, 0, 0, 0, 0, 0, 0, 0]).length = 0 from rfl]
  have hB2 := hb1.trans (hb2.mono hb1.size)
  go_wp2_with fail
  go_ret
  exact ⟨rfl, hB2.trans (hb3.mono hB2.size)⟩
end Go.Proofs.Ytfhpdhfhahbfnaa
