/- What crc.Sum and crc.Seal, crc.Open compute, and the document's own. Conditions stand as premises. -/
import Derived.Test.YtellljaoagndkaaCrc
import Derived.Test.YtellljaoagndkaaRows2
namespace Go.Proofs.Ytellljaoagndkaa
open Go.ChangeShapes Go.WideShapes Go.ChangeAt Go.RowKit
set_option linter.unusedVariables false

set_option maxHeartbeats 1000000 in
theorem sum_any (a : Option Addr) (n c : Nat) (ls : List (List Int)) (w : World) (hr : RdBB w a n c ls) (hlen : n ≤ 1000000) (hl : ∀ l ∈ ls, l.length ≤ 140737488351232) :
    Calls Try.prog 10 #[.slice a n c] w fun e w' => e = .returned (.int .u32 (sumI ls)) ∧ w = w' := by
  obtain ⟨vs, hrd, hvl, hvs⟩ := hr
  have hn := hrd.1
  have Hn := Lib.hid hn
  clear hn
  go_enter Try.func10, Try.ntmps10
  go_wp2_with fail
  go_loop [3, 8] (fun x i => ∃ k : Nat, k ≤ n ∧ i = .int .i64 k ∧ x = .int .u32 (sumI (ls.take k))) (fun _ i => n - (intOf i).toNat)
  case atStart => exact ⟨0, Nat.zero_le _, rfl, rfl⟩
  case round =>
    obtain ⟨k, hk, rfl, rfl⟩ := hrel
    by_cases hlt : k < n
    · obtain ⟨b, off, rfl, hbk, hcell⟩ := hrd.at (by omega)
      have hkv : k < vs.length := by have := Hn.out; omega
      have hkl : k < ls.length := by omega
      have hc := hcell k vs[k] (List.getElem?_eq_getElem hkv)
      have hrk := hvs k vs[k] ls[k] (List.getElem?_eq_getElem hkv) (List.getElem?_eq_getElem hkl)
      have Hs : Hid (sumI (ls.take (k + 1)) = moreI (sumI (ls.take k)) ls[k]) := Lib.hid (by rw [List.take_succ_eq_append_getElem hkl, sumI_snoc])
      have hb := sumI_bd (ls.take k)
      have hll := hl ls[k] (List.getElem_mem hkl)
      have hlk := hrk.len
      have hb2 : vs[k].2.1 ≤ 140737488351232 := by omega
      obtain ⟨⟨va, vn, vc⟩, hv⟩ : ∃ v, vs[k] = v := ⟨_, rfl⟩
      rw [hv] at hc hrk hb2
      obtain ⟨l, hl2⟩ : ∃ l, ls[k] = l := ⟨_, rfl⟩
      rw [hl2] at hrk Hs
      generalize sumI (ls.take k) = x at hb Hs
      simp only [encS] at hc hrk hb2
      clear hcell hvs hv hl2 hlk hll
      go_wp2_with (go_at_call 9; refine (more_any _ _ _ _ l hb _ hrk hb2).mono ?_; rintro e w' ⟨rfl, rfl⟩)
      go_round
      case rel => exact ⟨k + 1, by omega, by go_num, by rw [Hs.out]⟩
      case measure => simp [intOf]; omega
    · have Ht : Hid (ls.take k = ls) := Lib.hid (List.take_of_length_le (by have := Hn.out; omega))
      go_wp2_with fail
      go_ret
      exact ⟨ret_int (by rw [Ht.out]), rfl⟩

end Go.Proofs.Ytellljaoagndkaa
