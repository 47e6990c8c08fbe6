/- Objects' bytes and numbers' bytes: the plain words. No program in sight; no condition. -/
import Derived.Test.YtpkmdnfkeebgbaaLib
namespace Go.Proofs.Ytpkmdnfkeebgbaa
set_option linter.unusedVariables false

/-- An object of a kind: its bytes. -/
def objL (kind : Int) (b : List Int) : List Int := kind :: (List.replicate 7 0 ++ (digs 8 (16 + b.length) ++ (b ++ List.replicate ((8 - b.length % 8) % 8) 0)))
/-- What Put answers. -/
def putO (kind : Int) (b : List Int) : List Int := if 1 ≤ kind ∧ kind ≤ 7 then objL kind b else []

theorem objL_length (kind : Int) (b : List Int) : (objL kind b).length = 16 + b.length + (8 - b.length % 8) % 8 := by
  simp [objL, digs_length]; omega
theorem objL_isB {kind : Int} {b : List Int} (hk : 1 ≤ kind ∧ kind ≤ 7) (hb : IsB b) : IsB (objL kind b) :=
  IsB.cons (by omega) ((IsB.replicate 7).append ((digs_isB _ _).append (hb.append (IsB.replicate _))))

/-- Numbers of eight bytes, one behind the other. -/
def numsL (l : List Int) : List Int := l.flatMap (digs 8)
theorem numsL_length (l : List Int) : (numsL l).length = 8 * l.length := by
  induction l with
  | nil => rfl
  | cons v l ih => simp only [numsL, List.flatMap_cons, List.length_append, digs_length, List.length_cons] at ih ⊢; omega
theorem numsL_isB (l : List Int) : IsB (numsL l) := by
  induction l with
  | nil => exact IsB.nil
  | cons v l ih => exact (digs_isB 8 v).append ih
theorem numsL_snoc (l : List Int) (k : Nat) (h : k < l.length) : numsL (l.take (k + 1)) = numsL (l.take k) ++ digs 8 (l[k]'h) := by
  have e : l[k]?.getD 0 = l[k] := by simp [h]
  rw [numsL, take_snoc l k h, List.flatMap_append, e, List.flatMap_singleton]
  rfl
end Go.Proofs.Ytpkmdnfkeebgbaa
