/- What a crash leaves of a sector that is kept. No program in sight; no condition. -/
import Derived.Test.YtenikpbnggkmgaaSectN
namespace Go.Proofs.Ytenikpbnggkmgaa
set_option linter.unusedVariables false

theorem dirty_lt {b s : List Int} {i : Nat} (hi : i < (dirtyL b s).length) : (dirtyL b s)[i]?.getD 0 < nsec b s ∧ sec b ((dirtyL b s)[i]?.getD 0) ≠ sec s ((dirtyL b s)[i]?.getD 0) := by
  rw [List.getElem?_eq_getElem hi, Option.getD_some]
  exact dirty_mem.1 (List.getElem_mem hi)
theorem kept_sector (b s : List Int) (keep : List Bool) (hs : s.length ≤ b.length) (i : Nat) (hi : i < (dirtyL b s).length) (hk : keep[i]?.getD false = true) (k : Nat) (hkd : (dirtyL b s)[i]?.getD 0 = k)
    (hlt : 512 * k < (crashI b s keep).length) :
    512 * k < b.length ∧ (crashI b s keep).length ≤ b.length ∧ ∀ t, 512 * k ≤ t → t ≤ 512 * k + 512 → t ≤ (crashI b s keep).length → ((crashI b s keep).drop (512 * k)).take (t - 512 * k) = (b.drop (512 * k)).take (t - 512 * k) := by
  have hch : chI b s keep k = sec b k := by rw [← hkd]; exact chI_kept b s keep i hi hk
  have hns : k < nsec b s := by rw [← hkd]; exact (dirty_lt hi).1
  have hmx := crashI_max b s keep
  have hml : (crashI b s keep).length ≤ b.length := by omega
  refine ⟨by omega, hml, fun t h1 h2 h3 => ?_⟩
  by_cases hne : sec b k = []
  · have := sec_len b k
    rw [hne] at this
    simp at this
    omega
  · obtain ⟨pre, suf, e1, e2⟩ := crashTo_at (chI b s keep) (chI_len b s keep) k (by rw [hch]; exact hne) (nsec b s) hns
    have e3 : crashI b s keep = pre ++ (sec b k ++ suf) := by rw [← hch]; exact e1
    rw [e3, ← e2, List.drop_left]
    have hl : t - pre.length ≤ (sec b k).length := by rw [sec_len]; omega
    rw [List.take_append_of_le_length hl]
    unfold sec
    rw [List.take_take, Nat.min_eq_left (by omega), e2]
theorem nsec_12 {b s : List Int} (hb : b.length ≤ 6000) (hs : s.length ≤ b.length) : (dirtyL b s).length ≤ 12 := by
  have h1 : (dirtyL b s).length ≤ nsec b s := by
    unfold dirtyL dirtyTo
    have := List.length_filter_le (fun i => secNe b s i) (List.range (nsec b s))
    simpa using this
  have h2 : nsec b s ≤ 12 := by unfold nsec; omega
  omega
end Go.Proofs.Ytenikpbnggkmgaa
