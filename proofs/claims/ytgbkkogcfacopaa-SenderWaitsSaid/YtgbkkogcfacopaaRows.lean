/-
  No cell of these rows narrows 'for every input' (looked for: loops, veiled, ifaces, maps, wideKeys, modest, calm, conditions, laid).
  DERIVED. THE GIVEN ROWS OF THIS SEAT. 4 by the template 'for every input the law returns true; each argument reads behind the call as it read before'; 0 by the template 'total and deterministic' (their statements: YtgbkkogcfacopaaTotals.lean).
  GIVEN WITH THE SEED: the statements are not yours to turn. If you find one false, say at which input.
  Laid BY PROGRAM, IN A SANDBOX (cutbox-rows.mjs): the forced cells as the released guide's own fill.sh prints them over the translation bef4afbe22166e7e… (all of the seat's roots in one cut). By AI agents, Wed Nov 11 2026. No macro, syntax, notation, axiom, sorry.
-/
import Derived.Test.YtgbkkogcfacopaaChecked
import GoSem.Claim
import GoSem.ClaimJoined
import GoSem.ClaimMapViews
import Derived.JoinedTies
import Derived.KernelRfl
namespace Go.Proofs.Ytgbkkogcfacopaa
/- THE CELL 'sum', in the pinned program and in every row, IS THE sha256 OF THE DUMP (.gsa) THAT YtgbkkogcfacopaaProg.lean LOADS. Nothing in Lean hashes anything: it is a label: what it is worth is what the hold of that sum in a sandbox is worth. -/
noncomputable def Try.pinned : Pinned := { name := "ytgbkkogcfacopaa", sum := "bef4afbe22166e7e473cfc0846d78924075fbbb1aec53ba2283130041c8987e9", checked := Try.checked }
namespace Rows
def none {H : Type} : Left H := { results := [], args := [] }

/-- 'diurnallaw28.SenderOften': WHATEVER THE INPUT: true; the input reads as it did. -/
def senderOftenSpec : ChangeSpec := { name := "senderOften", fn := fun _ => fun
  | [d1, d2, d3, d4] => { results := [.lit (.bool true)], args := [d1, d2, d3, d4] }
  | _ => none }
def senderOftenRow : OpenClaim := { program := "ytgbkkogcfacopaa", sum := "bef4afbe22166e7e473cfc0846d78924075fbbb1aec53ba2283130041c8987e9", func := "diurnal/diurnallaw28.SenderOften", spec := "senderOften", apart := false }
def SenderOftenSaid : Prop := senderOftenRow.holds Try.pinned (OpenSpec.ofChange senderOftenSpec)

/-- ITS FALSE NEIGHBOUR: 'it returns false'. Refute it at one input. -/
def senderOftenWrong : ChangeSpec := { name := "senderOften", fn := fun _ => fun
  | [d1, d2, d3, d4] => { results := [.lit (.bool false)], args := [d1, d2, d3, d4] }
  | _ => none }
def SenderOftenWrongFalsely : Prop := senderOftenRow.holds Try.pinned (OpenSpec.ofChange senderOftenWrong)

/-- 'diurnallaw28.SenderWaits': WHATEVER THE INPUT: true; the input reads as it did. -/
def senderWaitsSpec : ChangeSpec := { name := "senderWaits", fn := fun _ => fun
  | [d1, d2, d3, d4, d5] => { results := [.lit (.bool true)], args := [d1, d2, d3, d4, d5] }
  | _ => none }
def senderWaitsRow : OpenClaim := { program := "ytgbkkogcfacopaa", sum := "bef4afbe22166e7e473cfc0846d78924075fbbb1aec53ba2283130041c8987e9", func := "diurnal/diurnallaw28.SenderWaits", spec := "senderWaits", apart := false }
def SenderWaitsSaid : Prop := senderWaitsRow.holds Try.pinned (OpenSpec.ofChange senderWaitsSpec)

/-- ITS FALSE NEIGHBOUR: 'it returns false'. Refute it at one input. -/
def senderWaitsWrong : ChangeSpec := { name := "senderWaits", fn := fun _ => fun
  | [d1, d2, d3, d4, d5] => { results := [.lit (.bool false)], args := [d1, d2, d3, d4, d5] }
  | _ => none }
def SenderWaitsWrongFalsely : Prop := senderWaitsRow.holds Try.pinned (OpenSpec.ofChange senderWaitsWrong)

/-- 'diurnallaw28.SenderArgs': WHATEVER THE INPUT: true; the input reads as it did. -/
def senderArgsSpec : ChangeSpec := { name := "senderArgs", fn := fun _ => fun
  | [d1, d2, d3] => { results := [.lit (.bool true)], args := [d1, d2, d3] }
  | _ => none }
def senderArgsRow : OpenClaim := { program := "ytgbkkogcfacopaa", sum := "bef4afbe22166e7e473cfc0846d78924075fbbb1aec53ba2283130041c8987e9", func := "diurnal/diurnallaw28.SenderArgs", spec := "senderArgs", apart := false }
def SenderArgsSaid : Prop := senderArgsRow.holds Try.pinned (OpenSpec.ofChange senderArgsSpec)

/-- ITS FALSE NEIGHBOUR: 'it returns false'. Refute it at one input. -/
def senderArgsWrong : ChangeSpec := { name := "senderArgs", fn := fun _ => fun
  | [d1, d2, d3] => { results := [.lit (.bool false)], args := [d1, d2, d3] }
  | _ => none }
def SenderArgsWrongFalsely : Prop := senderArgsRow.holds Try.pinned (OpenSpec.ofChange senderArgsWrong)

/-- 'diurnallaw28.SenderOne': WHATEVER THE INPUT: true; the input reads as it did. -/
def senderOneSpec : ChangeSpec := { name := "senderOne", fn := fun _ => fun
  | [d1, d2, d3, d4, d5] => { results := [.lit (.bool true)], args := [d1, d2, d3, d4, d5] }
  | _ => none }
def senderOneRow : OpenClaim := { program := "ytgbkkogcfacopaa", sum := "bef4afbe22166e7e473cfc0846d78924075fbbb1aec53ba2283130041c8987e9", func := "diurnal/diurnallaw28.SenderOne", spec := "senderOne", apart := false }
def SenderOneSaid : Prop := senderOneRow.holds Try.pinned (OpenSpec.ofChange senderOneSpec)

/-- ITS FALSE NEIGHBOUR: 'it returns false'. Refute it at one input. -/
def senderOneWrong : ChangeSpec := { name := "senderOne", fn := fun _ => fun
  | [d1, d2, d3, d4, d5] => { results := [.lit (.bool false)], args := [d1, d2, d3, d4, d5] }
  | _ => none }
def SenderOneWrongFalsely : Prop := senderOneRow.holds Try.pinned (OpenSpec.ofChange senderOneWrong)

/- THE SECOND FORM. 'bulk': how many values and letters a reading holds, each counted each time it is reached (what is shared counts as often as it is met; a slice's spare places count too). A statement '..UptoSaid' is the law's where the arguments, and the package variables that the reading takes, are together of bulk at most 1048576: NARROWER than '..Said'. Prove '..Said' where nothing that the law and all that it calls make is longer than what came in: it says more and counts as full. Else prove '..UptoSaid'. A law counts once. -/
mutual
def uptoBulk {H : Type} : DataW H → Nat
  | .lit (.string bytes) => bytes.length + 1
  | .lit _ => 1
  | .nil => 1
  | .ptr d => uptoBulk d + 1
  | .slice elems spare => uptoBulkAll elems + uptoBulkAll spare + 1
  | .agg parts => uptoBulkAll parts + 1
  | .iface _ d => uptoBulk d + 1
  | .map entries => uptoBulkEntries entries + 1
  | .held _ => 1
def uptoBulkAll {H : Type} : List (DataW H) → Nat
  | [] => 0
  | d :: r => uptoBulk d + uptoBulkAll r
def uptoBulkEntries {H : Type} : List (Lit × DataW H) → Nat
  | [] => 0
  | x :: r => uptoBulkEntry x + uptoBulkEntries r
def uptoBulkEntry {H : Type} : Lit × DataW H → Nat
  | (.string bytes, d) => bytes.length + uptoBulk d + 1
  | (_, d) => uptoBulk d + 1
 end
def uptoSmall : (H : Type) → List (DataW H) → Bool := fun _ ds => decide (uptoBulkAll ds ≤ 1048576)
def OpenSpec.upto (s : _root_.Go.ChangeSpec) : _root_.Go.OpenSpec := { _root_.Go.OpenSpec.ofChange s with cond := some uptoSmall }

/-- 'diurnallaw28.SenderOften', WHERE WHAT IT READS IS OF BULK AT MOST 1048576: true; the input reads as it did. -/
def senderOftenUptoRow : OpenClaim := { program := "ytgbkkogcfacopaa", sum := "bef4afbe22166e7e473cfc0846d78924075fbbb1aec53ba2283130041c8987e9", func := "diurnal/diurnallaw28.SenderOften", spec := "senderOften", apart := false, narrowed := true }
def SenderOftenUptoSaid : Prop := senderOftenUptoRow.holds Try.pinned (OpenSpec.upto senderOftenSpec)

/-- 'diurnallaw28.SenderWaits', WHERE WHAT IT READS IS OF BULK AT MOST 1048576: true; the input reads as it did. -/
def senderWaitsUptoRow : OpenClaim := { program := "ytgbkkogcfacopaa", sum := "bef4afbe22166e7e473cfc0846d78924075fbbb1aec53ba2283130041c8987e9", func := "diurnal/diurnallaw28.SenderWaits", spec := "senderWaits", apart := false, narrowed := true }
def SenderWaitsUptoSaid : Prop := senderWaitsUptoRow.holds Try.pinned (OpenSpec.upto senderWaitsSpec)

/-- 'diurnallaw28.SenderArgs', WHERE WHAT IT READS IS OF BULK AT MOST 1048576: true; the input reads as it did. -/
def senderArgsUptoRow : OpenClaim := { program := "ytgbkkogcfacopaa", sum := "bef4afbe22166e7e473cfc0846d78924075fbbb1aec53ba2283130041c8987e9", func := "diurnal/diurnallaw28.SenderArgs", spec := "senderArgs", apart := false, narrowed := true }
def SenderArgsUptoSaid : Prop := senderArgsUptoRow.holds Try.pinned (OpenSpec.upto senderArgsSpec)

/-- 'diurnallaw28.SenderOne', WHERE WHAT IT READS IS OF BULK AT MOST 1048576: true; the input reads as it did. -/
def senderOneUptoRow : OpenClaim := { program := "ytgbkkogcfacopaa", sum := "bef4afbe22166e7e473cfc0846d78924075fbbb1aec53ba2283130041c8987e9", func := "diurnal/diurnallaw28.SenderOne", spec := "senderOne", apart := false, narrowed := true }
def SenderOneUptoSaid : Prop := senderOneUptoRow.holds Try.pinned (OpenSpec.upto senderOneSpec)

end Rows
end Go.Proofs.Ytgbkkogcfacopaa
