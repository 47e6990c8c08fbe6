/- What Keep computes: the bits of a number. Conditions stand as premises. -/
import Derived.Test.YtenikpbnggkmgaaSectL
import Derived.Laws.BitsAllLaws
namespace Go.Proofs.Ytenikpbnggkmgaa
open Go.ChangeShapes Go.WideShapes Go.ChangeAt Go.RowKit
set_option linter.unusedVariables false

def keepTo (U k : Nat) : List Bool := (List.range k).map fun i => decide (U / 2 ^ i % 2 = 1)
def keepL (U : Nat) : List Bool := keepTo U 64
theorem keepTo_length (U k : Nat) : (keepTo U k).length = k := by simp [keepTo]
theorem keepTo_succ (U k : Nat) : keepTo U (k + 1) = keepTo U k ++ [decide (U / 2 ^ k % 2 = 1)] := by simp [keepTo, List.range_succ]
theorem keepL_get (U i : Nat) : (keepL U)[i]?.getD false = (decide (i < 64) && decide (U / 2 ^ i % 2 = 1)) := by
  unfold keepL keepTo
  by_cases h : i < 64
  · rw [List.getElem?_map, List.getElem?_range h]; simp [h]
  · rw [List.getElem?_eq_none (by simp; omega)]; simp [h]
theorem u64_bit (U k b : Nat) (hU : U < 18446744073709551616) (h : U / 2 ^ k % 2 = b) : bits .and .u64 ((U : Int) / (2 : Int) ^ k) 1 = (b : Int) := by
  have := u64_and_nat (U / 2 ^ k) 1 (Nat.lt_of_le_of_lt (Nat.div_le_self _ _) hU) (by omega)
  rw [Nat.and_one_is_mod, h] at this
  simpa using this

/-- New rows of bools. -/
def NewBo (base : Nat) (w : World) (l : List Bool) (e : Ending) (w' : World) : Prop := ∃ a cap, e = .returned (.slice a l.length cap) ∧ Own encBo 4 w' base a l.length cap l ∧ Below base w w'

set_option maxHeartbeats 1000000 in
theorem keep_any (U : Nat) (hU : U < 18446744073709551616) (w : World) :
    Calls Try.prog 19 #[.int .u64 U] w (NewBo w.heap.size w (keepL U)) := by
  have HU := Lib.hid hU
  have hU1 : (U : Int) ≤ 18446744073709551615 := by omega
  clear hU
  go_enter Try.func19, Try.ntmps19
  go_wp2_with fail
  go_loopw [3, 4] (fun o i wr => ∃ (k : Nat) (a3 : Option Addr) (c3 : Nat), k ≤ 64 ∧ i = .int .i64 k ∧ o = .slice a3 k c3 ∧ Own encBo 4 wr w.heap.size a3 k c3 (keepTo U k) ∧ Below w.heap.size w wr) (fun _ i _ => 64 - (intOf i).toNat)
  case atStart => exact ⟨0, none, 0, Nat.zero_le _, rfl, rfl, Own.nil _ _ _ _, Below.refl _ _⟩
  case round =>
    obtain ⟨k, a3, c3, hk, rfl, rfl, ho, hB⟩ := hrel
    have hsz := hB.size
    by_cases hlt : k < 64
    · have hlt2 : (k : Int) < 64 := by omega
      have hmod : U / 2 ^ k % 2 = 1 ∨ U / 2 ^ k % 2 = 0 := by omega
      rcases hmod with hb | hb
      · have hx := u64_bit U k 1 HU.out hb
        have hx : bits .and .u64 ((U : Int) / (2 : Int) ^ k) 1 = 1 := hx
        have E := Lib.hid (show keepTo U (k + 1) = keepTo U k ++ [true] by rw [keepTo_succ, hb]; rfl)
        clear hb
        go_wp2_with (at_builtin; go_must (refine wpList_appOwn rfl rfl Try.oneBo rfl rfl (ho.alloc _) (Rd.one encBo _ _ true) (fun _ => rfl) (by omega) (by omega) (by simp; omega) ?_); intro a5 c5 w5 ho5 hb5 _ _)
        go_roundw
        case rel => exact ⟨k + 1, a5, c5, by omega, by go_num, rfl, by rw [E.out]; exact ho5, hB.trans (((Below.refl _ wr).alloc hsz _).trans hb5)⟩
        case measure => simp [intOf]; omega
      · have hx := u64_bit U k 0 HU.out hb
        have hx : bits .and .u64 ((U : Int) / (2 : Int) ^ k) 1 = 0 := hx
        have E := Lib.hid (show keepTo U (k + 1) = keepTo U k ++ [false] by rw [keepTo_succ, hb]; rfl)
        clear hb
        go_wp2_with (at_builtin; go_must (refine wpList_appOwn rfl rfl Try.oneBo rfl rfl (ho.alloc _) (Rd.one encBo _ _ false) (fun _ => rfl) (by omega) (by omega) (by simp; omega) ?_); intro a5 c5 w5 ho5 hb5 _ _)
        go_roundw
        case rel => exact ⟨k + 1, a5, c5, by omega, by go_num, rfl, by rw [E.out]; exact ho5, hB.trans (((Below.refl _ wr).alloc hsz _).trans hb5)⟩
        case measure => simp [intOf]; omega
    · obtain rfl : k = 64 := by omega
      go_wp2_with fail
      go_ret
      exact ⟨a3, c3, rfl, ho, hB⟩
end Go.Proofs.Ytenikpbnggkmgaa
