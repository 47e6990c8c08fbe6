/- The document's SamePlaces at two rows that read alike. Conditions stand as premises. -/
import Derived.Test.YtojjgagcpkjkaaaUpd
import Derived.Test.YtojjgagcpkjkaaaPlain
import Derived.OrdersHeld
import Derived.Deep.Cut
namespace Go.Proofs.Ytojjgagcpkjkaaa
open Go.ChangeShapes Go.WideShapes Go.ChangeAt Go.RowKit
set_option linter.unusedVariables false

set_option maxHeartbeats 1000000 in
theorem sameplaces_yes (a : Option Addr) (n c : Nat) (a2 : Option Addr) (c2 : Nat) (vs : List Int) (w : World) (h1 : Rd (Value.int .u64) w a n c vs) (h2 : Rd (Value.int .u64) w a2 n c2 vs) (hv : ∀ v ∈ vs, 0 ≤ v ∧ v ≤ 18446744073709551615) (hn : n ≤ 100000) :
    Calls Try.prog 27 #[.slice a n c, .slice a2 n c2] w fun e w' => e = .returned (.bool true) ∧ Below w.heap.size w w' := by
  obtain rfl : vs.length = n := h1.1
  have H1 := Lib.hid h1
  have H2 := Lib.hid h2
  have HV := Lib.hid hv
  clear h1 h2 hv
  go_enter Try.func27, Try.ntmps27
  go_wp2_with fail
  go_loopw [5] (fun i wr => ∃ k : Nat, k ≤ vs.length ∧ i = .int .i64 (k : Int) ∧ Below w.heap.size w wr) (fun i _ => vs.length - (match i with | .int _ x => x.toNat | _ => 0))
  case atStart => exact ⟨0, Nat.zero_le _, rfl, Below.refl _ _⟩
  case round =>
    obtain ⟨k, hk, rfl, hB⟩ := hrel
    have HB := Lib.hid hB
    by_cases hlt : k < vs.length
    · have hlt' : (k : Int) < (vs.length : Int) := by omega
      obtain ⟨b, off, rfl, hc⟩ := cellAt (H1.out.mono HB.out) k hlt
      obtain ⟨b2, off2, rfl, hc2⟩ := cellAt (H2.out.mono HB.out) k hlt
      have hb := HV.out vs[k] (List.getElem_mem hlt)
      generalize hz : vs[k] = z at hc hc2 hb
      clear hz hB
      obtain ⟨z0, z1⟩ := hb
      go_upto_region 6 with fail
      go_region_law fail
      all_goals
        go_wp2_with fail
        go_roundw
        case rel => exact ⟨k + 1, by omega, by congr 1, HB.out.drew⟩
        case measure => show vs.length - ((k : Int) + 1).toNat < vs.length - (k : Int).toNat; omega
    · obtain rfl : k = vs.length := by omega
      have hge : ¬ ((vs.length : Int) < (vs.length : Int)) := by omega
      go_wp2_with fail
      go_ret
      exact ⟨rfl, HB.out⟩
end Go.Proofs.Ytojjgagcpkjkaaa
