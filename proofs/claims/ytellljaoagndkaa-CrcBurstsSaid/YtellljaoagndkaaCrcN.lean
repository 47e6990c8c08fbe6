/- Plain facts on the sum of 32 bits, on natural numbers. No program in sight; no condition. -/
import Derived.Test.YtellljaoagndkaaPlain
namespace Go.Proofs.Ytellljaoagndkaa
set_option linter.unusedVariables false

/-- One bit. -/
def crcBit (n : Nat) : Nat := if n % 2 = 1 then n / 2 ^^^ 2197175160 else n / 2
/-- So many bits. -/
def crcBits : Nat → Nat → Nat
  | 0, n => n
  | k + 1, n => crcBit (crcBits k n)
/-- One byte. -/
def crcByte (n : Nat) (c : Int) : Nat := crcBits 8 (n ^^^ c.toNat)
/-- Bytes one behind the other. -/
def crcAll (n : Nat) (l : List Int) : Nat := l.foldl crcByte n
def not32 (n : Nat) : Nat := 4294967295 - n
def moreN (n : Nat) (l : List Int) : Nat := not32 (crcAll (not32 n) l)
def moreI (v : Int) (l : List Int) : Int := (moreN v.toNat l : Nat)
def sumI (ls : List (List Int)) : Int := ls.foldl moreI 0

theorem crcBit_lt {n : Nat} (h : n < 4294967296) : crcBit n < 4294967296 := by
  unfold crcBit
  split
  · exact Nat.xor_lt_two_pow (n := 32) (by omega) (by omega)
  · omega
theorem crcBits_lt (k : Nat) {n : Nat} (h : n < 4294967296) : crcBits k n < 4294967296 := by
  induction k with
  | zero => exact h
  | succ k ih => exact crcBit_lt ih
theorem crcByte_lt {n : Nat} (h : n < 4294967296) {c : Int} (hc : 0 ≤ c ∧ c ≤ 255) : crcByte n c < 4294967296 :=
  crcBits_lt 8 (Nat.xor_lt_two_pow (n := 32) h (by omega))
theorem crcAll_lt (l : List Int) (hl : IsB l) : ∀ {n : Nat}, n < 4294967296 → crcAll n l < 4294967296 := by
  induction l with
  | nil => intro n h; exact h
  | cons c l ih => intro n h; exact ih (fun x hx => hl x (List.mem_cons_of_mem _ hx)) (crcByte_lt h (hl c List.mem_cons_self))
theorem not32_lt (n : Nat) : not32 n < 4294967296 := by unfold not32; omega
theorem not32_not32 {n : Nat} (h : n < 4294967296) : not32 (not32 n) = n := by unfold not32; omega
theorem moreN_lt (n : Nat) (l : List Int) : moreN n l < 4294967296 := not32_lt _
theorem moreI_bd (v : Int) (l : List Int) : 0 ≤ moreI v l ∧ moreI v l ≤ 4294967295 := by
  have := moreN_lt v.toNat l
  unfold moreI; omega
theorem crcAll_append (n : Nat) (a b : List Int) : crcAll n (a ++ b) = crcAll (crcAll n a) b := by simp [crcAll]
theorem moreI_append (v : Int) (a b : List Int) (ha : IsB a) : moreI (moreI v a) b = moreI v (a ++ b) := by
  unfold moreI moreN
  rw [Int.toNat_natCast, not32_not32 (crcAll_lt a ha (not32_lt _)), crcAll_append]
theorem moreI_nil (v : Int) (h : 0 ≤ v ∧ v ≤ 4294967295) : moreI v [] = v := by
  unfold moreI moreN crcAll
  simp only [List.foldl_nil]
  rw [not32_not32 (by omega)]; omega
theorem crcAll_snoc (n : Nat) (l : List Int) (k : Nat) (h : k < l.length) : crcAll n (l.take (k + 1)) = crcByte (crcAll n (l.take k)) (l[k]?.getD 0) := by
  rw [take_snoc l k h, crcAll_append]; rfl
theorem sumI_bd (ls : List (List Int)) : 0 ≤ sumI ls ∧ sumI ls ≤ 4294967295 := by
  unfold sumI
  have : ∀ v : Int, 0 ≤ v ∧ v ≤ 4294967295 → 0 ≤ ls.foldl moreI v ∧ ls.foldl moreI v ≤ 4294967295 := by
    induction ls with
    | nil => intro v hv; exact hv
    | cons l ls ih => intro v hv; exact ih _ (moreI_bd v l)
  exact this 0 (by omega)
theorem foldl_more (ls : List (List Int)) (h : ∀ l ∈ ls, IsB l) : ∀ v : Int, 0 ≤ v ∧ v ≤ 4294967295 → ls.foldl moreI v = moreI v ls.flatten := by
  induction ls with
  | nil => intro v hv; rw [List.flatten_nil, moreI_nil v hv]; rfl
  | cons l ls ih =>
    intro v hv
    rw [List.foldl_cons, ih (fun x hx => h x (List.mem_cons_of_mem _ hx)) _ (moreI_bd v l), moreI_append v l _ (h l List.mem_cons_self), List.flatten_cons]
theorem sumI_flat (ls : List (List Int)) (h : ∀ l ∈ ls, IsB l) : sumI ls = moreI 0 ls.flatten := foldl_more ls h 0 (by omega)
theorem sumI_one (l : List Int) : sumI [l] = moreI 0 l := rfl
theorem sumI_snoc (ls : List (List Int)) (l : List Int) : sumI (ls ++ [l]) = moreI (sumI ls) l := by simp [sumI]

theorem mem_flatten_length {x : List Int} : ∀ {ls : List (List Int)}, x ∈ ls → x.length ≤ ls.flatten.length
  | y :: ls, h => by
    rw [List.flatten_cons, List.length_append]
    rcases List.mem_cons.1 h with h | h
    · rw [h]; omega
    · have := mem_flatten_length h; omega

end Go.Proofs.Ytellljaoagndkaa
