/- What entry.numbers, entry.table, entry.all compute. Conditions stand as premises. -/
import Derived.Test.YtojjgagcpkjkaaaObjPutO
import Derived.Test.YtojjgagcpkjkaaaLeGet
namespace Go.Proofs.Ytojjgagcpkjkaaa
open Go.ChangeShapes Go.WideShapes Go.ChangeAt Go.RowKit
set_option linter.unusedVariables false

/-- The bytes of l with numbers of eight bytes behind them; the call's own where there was one number. -/
def NumE (w : World) (l : List Int) (vs : List Int) (e : Ending) (w' : World) : Prop :=
  ∃ a' c', e = .returned (.slice a' (l.length + 8 * vs.length) c') ∧ RdB w' a' (l.length + 8 * vs.length) c' (l ++ numsL vs) ∧ Below w.heap.size w w' ∧ (vs ≠ [] → OwnB 5 w' w.heap.size a' (l.length + 8 * vs.length) c' (l ++ numsL vs))

set_option maxHeartbeats 600000 in
theorem entnums_any (a : Option Addr) (n c : Nat) (l : List Int) (a2 : Option Addr) (n2 c2 : Nat) (vs : List Int) (w : World) (hr : RdB w a n c l) (hr2 : Rd (Value.int .u64) w a2 n2 c2 vs) (hv : ∀ v ∈ vs, 0 ≤ v ∧ v ≤ 18446744073709551615) (hlen : n ≤ 140737488340000) (hlen2 : n2 ≤ 1000) :
    Calls Try.prog 30 #[.slice a n c, .slice a2 n2 c2] w (NumE w l vs) := by
  obtain rfl : l.length = n := hr.len
  obtain rfl : vs.length = n2 := hr2.1
  have HR := Lib.hid hr
  have HR2 := Lib.hid hr2
  have HV := Lib.hid hv
  clear hr hr2 hv
  go_enter Try.func30, Try.ntmps30
  go_wp2_with fail
  go_loopw [0, 9] (fun s i wr => ∃ (k : Nat) (a' : Option Addr) (c' : Nat), k ≤ vs.length ∧ i = .int .i64 (k : Int) ∧ s = .slice a' (l.length + 8 * k) c' ∧ RdB wr a' (l.length + 8 * k) c' (l ++ numsL (vs.take k)) ∧ Below w.heap.size w wr ∧ (k ≠ 0 → OwnB 5 wr w.heap.size a' (l.length + 8 * k) c' (l ++ numsL (vs.take k)))) (fun _ i _ => vs.length - (match i with | .int _ x => x.toNat | _ => 0))
  case atStart => exact ⟨0, a, c, Nat.zero_le _, rfl, rfl, by simpa [numsL] using HR.out, Below.refl _ _, fun h => absurd rfl h⟩
  case round =>
    obtain ⟨k, a', c', hk, rfl, rfl, hrk, hB, hown⟩ := hrel
    have HRK := Lib.hid hrk
    have HB := Lib.hid hB
    have HOWN := Lib.hid hown
    clear hrk hB hown
    by_cases hlt : k < vs.length
    · have hlt' : (k : Int) < (vs.length : Int) := by omega
      obtain ⟨b, off, rfl, hc⟩ := cellAt (HR2.out.mono HB.out) k hlt
      have hb := HV.out vs[k] (List.getElem_mem hlt)
      have HS := Lib.hid (numsL_snoc vs k hlt)
      generalize hz : vs[k] = z at hc hb HS
      clear hz
      have HC := Lib.hid (add_yes a' (l.length + 8 * k) c' _ 8 z wr HRK.out (by omega) rfl hb)
      obtain ⟨hb0, hb1⟩ := hb
      go_wp2_with fail
      refine HC.out.mono ?_
      rintro e w2 ⟨a3, c3, rfl, ho3, hb3⟩
      have hl3 : (l ++ numsL (vs.take k) ++ digs 8 z).length = l.length + 8 * (k + 1) := by
        simp only [List.length_append, numsL_length, digs_length, List.length_take]; omega
      have he3 : l ++ numsL (vs.take k) ++ digs 8 z = l ++ numsL (vs.take (k + 1)) := by rw [HS.out, List.append_assoc]
      rw [hl3, he3] at ho3
      rw [hl3]
      have HO3 := Lib.hid ho3
      have HB3 := Lib.hid (HB.out.trans (hb3.mono HB.out.size))
      have hsz := HB.out.size
      clear ho3 hb3 hl3 he3
      go_wp2_with fail
      go_roundw
      case rel => exact ⟨k + 1, a3, c3, by omega, by congr 1, rfl, HO3.out.rd, HB3.out, fun _ => ⟨HO3.out.1, HO3.out.2.base hsz⟩⟩
      case measure => show vs.length - ((k : Int) + 1).toNat < vs.length - (k : Int).toNat; omega
    · obtain rfl : k = vs.length := by omega
      have hge : ¬ ((vs.length : Int) < (vs.length : Int)) := by omega
      go_wp2_with fail
      go_ret
      have h1 := HRK.out
      have h2 := HOWN.out
      rw [List.take_length] at h1 h2
      exact ⟨a', c', rfl, h1, HB.out, fun h => h2 (fun h0 => h (List.eq_nil_of_length_eq_zero h0))⟩

def tableF (k : Int) : Bool := decide (k = 4) || decide (k = 5)
theorem table_any (k : Int) (w : World) : Calls Try.prog 34 #[.int .i64 k] w fun e w' => e = .returned (.bool (tableF k)) ∧ w = w' := by
  by_cases h4 : k = 4
  · subst h4
    go_enter Try.func34, Try.ntmps34
    go_wp2
    go_ret
    exact ⟨rfl, rfl⟩
  by_cases h5 : k = 5
  · subst h5
    go_enter Try.func34, Try.ntmps34
    go_wp2
    go_ret
    exact ⟨rfl, rfl⟩
  · have e4 : (k == 4) = false := by simp [h4]
    have e5 : (k == 5) = false := by simp [h5]
    have HF := Lib.hid (show tableF k = false by simp [tableF, h4, h5])
    clear h4 h5
    go_enter Try.func34, Try.ntmps34
    go_wp2_with fail
    go_ret
    exact ⟨by rw [HF.out]; rfl, rfl⟩
end Go.Proofs.Ytojjgagcpkjkaaa
