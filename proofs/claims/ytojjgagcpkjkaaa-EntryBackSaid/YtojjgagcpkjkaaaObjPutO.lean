/- What obj.Put alone computes: an object's bytes. Conditions stand as premises. -/
import Derived.Test.YtojjgagcpkjkaaaZeros
import Derived.Test.YtojjgagcpkjkaaaLeAlign
import Derived.Test.YtojjgagcpkjkaaaLeAdd
import Derived.Test.YtojjgagcpkjkaaaRows2
namespace Go.Proofs.Ytojjgagcpkjkaaa
open Go.ChangeShapes Go.WideShapes Go.ChangeAt Go.RowKit
set_option linter.unusedVariables false

/-- An object of a kind: its bytes. -/
def objL (kind : Int) (b : List Int) : List Int := kind :: (List.replicate 7 0 ++ (digs 8 (16 + b.length) ++ (b ++ List.replicate ((8 - b.length % 8) % 8) 0)))
/-- What Put answers. -/
def putO (kind : Int) (b : List Int) : List Int := if 1 ≤ kind ∧ kind ≤ 7 then objL kind b else []

theorem objL_length (kind : Int) (b : List Int) : (objL kind b).length = 16 + b.length + (8 - b.length % 8) % 8 := by
  simp [objL, digs_length]; omega
theorem objL_isB {kind : Int} {b : List Int} (hk : 1 ≤ kind ∧ kind ≤ 7) (hb : IsB b) : IsB (objL kind b) :=
  IsB.cons (by omega) ((IsB.replicate 7).append ((digs_isB _ _).append (hb.append (IsB.replicate _))))

theorem put_obj (a : Option Addr) (n c : Nat) (kind : Int) (l : List Int) (w : World) (hr : RdB w a n c l) (hlen : n ≤ 140737488350000) :
    Calls Try.prog 31 #[.int .i64 kind, .slice a n c] w (NewB w.heap.size w (putO kind l)) := by
  obtain rfl : l.length = n := hr.len
  by_cases h1 : kind < 1
  · rw [putO, if_neg (by omega)]
    go_enter Try.func31, Try.ntmps31
    go_wp2
    go_ret
    exact ⟨none, 0, rfl, ⟨IsB.nil, Own.nil _ _ _ _⟩, Below.refl _ _⟩
  by_cases h2 : 7 < kind
  · rw [putO, if_neg (by omega)]
    go_enter Try.func31, Try.ntmps31
    go_wp2
    go_ret
    exact ⟨none, 0, rfl, ⟨IsB.nil, Own.nil _ _ _ _⟩, Below.refl _ _⟩
  rw [putO, if_pos (by omega)]
  have hd1 : decide (kind < 1) = false := by simp; omega
  have hd2 : decide (7 < kind) = false := by simp; omega
  have hm : kind % 256 = kind := Int.emod_eq_of_lt (by omega) (by omega)
  have ho1 : Own (Value.int .u8) 5 (w.alloc (.cells #[.int .u8 kind] 5)) w.heap.size (some ⟨w.heap.size, 0, none⟩) 1 1 [kind] := Own.lit [kind] _ 1 rfl rfl (Nat.le_refl _) (by decide)
  go_enter Try.func31, Try.ntmps31
  go_wp2_with (at_builtin; go_must (refine wpList_appZeros (0 : Int) rfl rfl Try.underlying3 Try.oneB Try.zeroB rfl rfl (m := 7) rfl rfl rfl ho1 (by omega) (by omega) (by simp) ?_); intro a2 c2 w2 ho2 hb2 _ _)
  have hB2 := ((Below.refl w.heap.size w).alloc (Nat.le_refl _) (.cells #[.int .u8 kind] 5)).trans hb2
  have hz2 := hB2.size
  have hr2 : RdB w2 a2 8 c2 (kind :: List.replicate 7 0) := ⟨IsB.cons (by omega) (IsB.replicate 7), ho2.rd⟩
  refine (add_yes _ _ _ _ 8 _ _ hr2 (by omega) rfl (by omega)).mono ?_
  rintro e w3 ⟨a3, c3, rfl, ho3, hb3⟩
  have hB3 := hB2.trans (hb3.mono hz2)
  have hz3 := hB3.size
  have hz3b := hb3.size
  have hl3 : (kind :: List.replicate 7 0 ++ digs 8 (16 + (l.length : Int))).length = 16 := by simp [digs_length]
  have hr3 := hr.mono hB3
  rw [hl3] at ho3 ⊢
  go_wp2_with (at_builtin; go_must (refine wpList_appOwn rfl rfl Try.oneB rfl rfl ho3.2 hr3.raw (fun _ => rfl) (by omega) (by omega) (by omega) ?_); intro a4 c4 w4 ho4 hb4 _ _)
  have hB4 := hB3.trans (hb4.mono hz2)
  have hz4 := hB4.size
  have hz4b := hb4.size
  refine (align_yes _ (by omega) (by omega) _).mono ?_
  rintro e w5 ⟨rfl, rfl⟩
  have hpad : ((16 + l.length : Nat) : Int) + (((8 - l.length % 8) % 8 : Nat) : Int) = (((16 + l.length : Nat) : Int) + 7) / 8 * 8 := by omega
  go_wp2_with (at_builtin; go_must (refine wpList_appZeros (0 : Int) rfl rfl Try.underlying3 Try.oneB Try.zeroB rfl rfl (m := (8 - l.length % 8) % 8) rfl rfl (by omega) ho4 (by omega) (by omega) (by omega) ?_); intro a6 c6 w6 ho6 hb6 _ _)
  go_ret
  have hll := objL_length kind l
  have e1 : kind :: List.replicate 7 0 ++ digs 8 (16 + (l.length : Int)) ++ l ++ List.replicate ((8 - l.length % 8) % 8) 0 = objL kind l := by simp [objL]
  rw [e1] at ho6
  rw [← hll] at ho6 ⊢
  exact ⟨a6, c6, rfl, ⟨objL_isB (by omega) hr.1, ho6.base hz2⟩, hB4.trans (hb6.mono hz2)⟩

/-- Numbers of eight bytes, one behind the other. -/
def numsL (l : List Int) : List Int := l.flatMap (digs 8)
theorem numsL_length (l : List Int) : (numsL l).length = 8 * l.length := by
  induction l with
  | nil => rfl
  | cons v l ih => simp only [numsL, List.flatMap_cons, List.length_append, digs_length, List.length_cons] at ih ⊢; omega
theorem numsL_isB (l : List Int) : IsB (numsL l) := by
  induction l with
  | nil => exact IsB.nil
  | cons v l ih => exact (digs_isB 8 v).append ih
theorem numsL_snoc (l : List Int) (k : Nat) (h : k < l.length) : numsL (l.take (k + 1)) = numsL (l.take k) ++ digs 8 (l[k]'h) := by
  have e : l[k]?.getD 0 = l[k] := by simp [h]
  rw [numsL, take_snoc l k h, List.flatMap_append, e, List.flatMap_singleton]
  rfl
end Go.Proofs.Ytojjgagcpkjkaaa
