/-
  No cell of these rows narrows 'for every input' (looked for: loops, veiled, ifaces, maps, wideKeys, modest, calm, conditions, laid).
  DERIVED. THE GIVEN ROWS OF THIS SEAT. 5 by the template 'for every input the law returns true; each argument reads behind the call as it read before'; 0 by the template 'total and deterministic' (their statements: YtojjgagcpkjkaaaTotals.lean).
  GIVEN WITH THE SEED: the statements are not yours to turn. If you find one false, say at which input.
  Laid BY PROGRAM, IN A SANDBOX (cutbox-rows.mjs): the forced cells as the released guide's own fill.sh prints them over the translation 74479e69bf3a4ba0… (all of the seat's roots in one cut). By AI agents, Wed Nov 11 2026. No macro, syntax, notation, axiom, sorry.
-/
import Derived.Test.YtojjgagcpkjkaaaChecked
import GoSem.Claim
import GoSem.ClaimJoined
import GoSem.ClaimMapViews
import Derived.JoinedTies
import Derived.KernelRfl
namespace Go.Proofs.Ytojjgagcpkjkaaa
/- THE CELL 'sum', in the pinned program and in every row, IS THE sha256 OF THE DUMP (.gsa) THAT YtojjgagcpkjkaaaProg.lean LOADS. Nothing in Lean hashes anything: it is a label: what it is worth is what the hold of that sum in a sandbox is worth. -/
noncomputable def Try.pinned : Pinned := { name := "ytojjgagcpkjkaaa", sum := "74479e69bf3a4ba0420a7657b2408bc6cfb0f5c501a6509a4a93862ad2ea89c5", checked := Try.checked }
namespace Rows
def none {H : Type} : Left H := { results := [], args := [] }

/-- 'diurnallaw8.EntryXors': WHATEVER THE INPUT: true; the input reads as it did. -/
def entryXorsSpec : ChangeSpec := { name := "entryXors", fn := fun _ => fun
  | [d1, d2] => { results := [.lit (.bool true)], args := [d1, d2] }
  | _ => none }
def entryXorsRow : OpenClaim := { program := "ytojjgagcpkjkaaa", sum := "74479e69bf3a4ba0420a7657b2408bc6cfb0f5c501a6509a4a93862ad2ea89c5", func := "diurnal/diurnallaw8.EntryXors", spec := "entryXors", apart := false }
def EntryXorsSaid : Prop := entryXorsRow.holds Try.pinned (OpenSpec.ofChange entryXorsSpec)

/-- ITS FALSE NEIGHBOUR: 'it returns false'. Refute it at one input. -/
def entryXorsWrong : ChangeSpec := { name := "entryXors", fn := fun _ => fun
  | [d1, d2] => { results := [.lit (.bool false)], args := [d1, d2] }
  | _ => none }
def EntryXorsWrongFalsely : Prop := entryXorsRow.holds Try.pinned (OpenSpec.ofChange entryXorsWrong)

/-- 'diurnallaw8.EntryPuts': WHATEVER THE INPUT: true; the input reads as it did. -/
def entryPutsSpec : ChangeSpec := { name := "entryPuts", fn := fun _ => fun
  | [d1, d2, d3, d4] => { results := [.lit (.bool true)], args := [d1, d2, d3, d4] }
  | _ => none }
def entryPutsRow : OpenClaim := { program := "ytojjgagcpkjkaaa", sum := "74479e69bf3a4ba0420a7657b2408bc6cfb0f5c501a6509a4a93862ad2ea89c5", func := "diurnal/diurnallaw8.EntryPuts", spec := "entryPuts", apart := false }
def EntryPutsSaid : Prop := entryPutsRow.holds Try.pinned (OpenSpec.ofChange entryPutsSpec)

/-- ITS FALSE NEIGHBOUR: 'it returns false'. Refute it at one input. -/
def entryPutsWrong : ChangeSpec := { name := "entryPuts", fn := fun _ => fun
  | [d1, d2, d3, d4] => { results := [.lit (.bool false)], args := [d1, d2, d3, d4] }
  | _ => none }
def EntryPutsWrongFalsely : Prop := entryPutsRow.holds Try.pinned (OpenSpec.ofChange entryPutsWrong)

/-- 'diurnallaw8.EntrySays': WHATEVER THE INPUT: true; the input reads as it did. -/
def entrySaysSpec : ChangeSpec := { name := "entrySays", fn := fun _ => fun
  | [d1, d2, d3] => { results := [.lit (.bool true)], args := [d1, d2, d3] }
  | _ => none }
def entrySaysRow : OpenClaim := { program := "ytojjgagcpkjkaaa", sum := "74479e69bf3a4ba0420a7657b2408bc6cfb0f5c501a6509a4a93862ad2ea89c5", func := "diurnal/diurnallaw8.EntrySays", spec := "entrySays", apart := false }
def EntrySaysSaid : Prop := entrySaysRow.holds Try.pinned (OpenSpec.ofChange entrySaysSpec)

/-- ITS FALSE NEIGHBOUR: 'it returns false'. Refute it at one input. -/
def entrySaysWrong : ChangeSpec := { name := "entrySays", fn := fun _ => fun
  | [d1, d2, d3] => { results := [.lit (.bool false)], args := [d1, d2, d3] }
  | _ => none }
def EntrySaysWrongFalsely : Prop := entrySaysRow.holds Try.pinned (OpenSpec.ofChange entrySaysWrong)

/-- 'diurnallaw8.EntryBack': WHATEVER THE INPUT: true; the input reads as it did. -/
def entryBackSpec : ChangeSpec := { name := "entryBack", fn := fun _ => fun
  | [d1, d2, d3, d4, d5] => { results := [.lit (.bool true)], args := [d1, d2, d3, d4, d5] }
  | _ => none }
def entryBackRow : OpenClaim := { program := "ytojjgagcpkjkaaa", sum := "74479e69bf3a4ba0420a7657b2408bc6cfb0f5c501a6509a4a93862ad2ea89c5", func := "diurnal/diurnallaw8.EntryBack", spec := "entryBack", apart := false }
def EntryBackSaid : Prop := entryBackRow.holds Try.pinned (OpenSpec.ofChange entryBackSpec)

/-- ITS FALSE NEIGHBOUR: 'it returns false'. Refute it at one input. -/
def entryBackWrong : ChangeSpec := { name := "entryBack", fn := fun _ => fun
  | [d1, d2, d3, d4, d5] => { results := [.lit (.bool false)], args := [d1, d2, d3, d4, d5] }
  | _ => none }
def EntryBackWrongFalsely : Prop := entryBackRow.holds Try.pinned (OpenSpec.ofChange entryBackWrong)

/-- 'diurnallaw8.EntryArrays': WHATEVER THE INPUT: true; the input reads as it did. -/
def entryArraysSpec : ChangeSpec := { name := "entryArrays", fn := fun _ => fun
  | [d1, d2, d3] => { results := [.lit (.bool true)], args := [d1, d2, d3] }
  | _ => none }
def entryArraysRow : OpenClaim := { program := "ytojjgagcpkjkaaa", sum := "74479e69bf3a4ba0420a7657b2408bc6cfb0f5c501a6509a4a93862ad2ea89c5", func := "diurnal/diurnallaw8.EntryArrays", spec := "entryArrays", apart := false }
def EntryArraysSaid : Prop := entryArraysRow.holds Try.pinned (OpenSpec.ofChange entryArraysSpec)

/-- ITS FALSE NEIGHBOUR: 'it returns false'. Refute it at one input. -/
def entryArraysWrong : ChangeSpec := { name := "entryArrays", fn := fun _ => fun
  | [d1, d2, d3] => { results := [.lit (.bool false)], args := [d1, d2, d3] }
  | _ => none }
def EntryArraysWrongFalsely : Prop := entryArraysRow.holds Try.pinned (OpenSpec.ofChange entryArraysWrong)

/- THE SECOND FORM. 'bulk': how many values and letters a reading holds, each counted each time it is reached (what is shared counts as often as it is met; a slice's spare places count too). A statement '..UptoSaid' is the law's where the arguments, and the package variables that the reading takes, are together of bulk at most 1048576: NARROWER than '..Said'. Prove '..Said' where nothing that the law and all that it calls make is longer than what came in: it says more and counts as full. Else prove '..UptoSaid'. A law counts once. -/
mutual
def uptoBulk {H : Type} : DataW H → Nat
  | .lit (.string bytes) => bytes.length + 1
  | .lit _ => 1
  | .nil => 1
  | .ptr d => uptoBulk d + 1
  | .slice elems spare => uptoBulkAll elems + uptoBulkAll spare + 1
  | .agg parts => uptoBulkAll parts + 1
  | .iface _ d => uptoBulk d + 1
  | .map entries => uptoBulkEntries entries + 1
  | .held _ => 1
def uptoBulkAll {H : Type} : List (DataW H) → Nat
  | [] => 0
  | d :: r => uptoBulk d + uptoBulkAll r
def uptoBulkEntries {H : Type} : List (Lit × DataW H) → Nat
  | [] => 0
  | x :: r => uptoBulkEntry x + uptoBulkEntries r
def uptoBulkEntry {H : Type} : Lit × DataW H → Nat
  | (.string bytes, d) => bytes.length + uptoBulk d + 1
  | (_, d) => uptoBulk d + 1
 end
def uptoSmall : (H : Type) → List (DataW H) → Bool := fun _ ds => decide (uptoBulkAll ds ≤ 1048576)
def OpenSpec.upto (s : _root_.Go.ChangeSpec) : _root_.Go.OpenSpec := { _root_.Go.OpenSpec.ofChange s with cond := some uptoSmall }

/-- 'diurnallaw8.EntryXors', WHERE WHAT IT READS IS OF BULK AT MOST 1048576: true; the input reads as it did. -/
def entryXorsUptoRow : OpenClaim := { program := "ytojjgagcpkjkaaa", sum := "74479e69bf3a4ba0420a7657b2408bc6cfb0f5c501a6509a4a93862ad2ea89c5", func := "diurnal/diurnallaw8.EntryXors", spec := "entryXors", apart := false, narrowed := true }
def EntryXorsUptoSaid : Prop := entryXorsUptoRow.holds Try.pinned (OpenSpec.upto entryXorsSpec)

/-- 'diurnallaw8.EntryPuts', WHERE WHAT IT READS IS OF BULK AT MOST 1048576: true; the input reads as it did. -/
def entryPutsUptoRow : OpenClaim := { program := "ytojjgagcpkjkaaa", sum := "74479e69bf3a4ba0420a7657b2408bc6cfb0f5c501a6509a4a93862ad2ea89c5", func := "diurnal/diurnallaw8.EntryPuts", spec := "entryPuts", apart := false, narrowed := true }
def EntryPutsUptoSaid : Prop := entryPutsUptoRow.holds Try.pinned (OpenSpec.upto entryPutsSpec)

/-- 'diurnallaw8.EntrySays', WHERE WHAT IT READS IS OF BULK AT MOST 1048576: true; the input reads as it did. -/
def entrySaysUptoRow : OpenClaim := { program := "ytojjgagcpkjkaaa", sum := "74479e69bf3a4ba0420a7657b2408bc6cfb0f5c501a6509a4a93862ad2ea89c5", func := "diurnal/diurnallaw8.EntrySays", spec := "entrySays", apart := false, narrowed := true }
def EntrySaysUptoSaid : Prop := entrySaysUptoRow.holds Try.pinned (OpenSpec.upto entrySaysSpec)

/-- 'diurnallaw8.EntryBack', WHERE WHAT IT READS IS OF BULK AT MOST 1048576: true; the input reads as it did. -/
def entryBackUptoRow : OpenClaim := { program := "ytojjgagcpkjkaaa", sum := "74479e69bf3a4ba0420a7657b2408bc6cfb0f5c501a6509a4a93862ad2ea89c5", func := "diurnal/diurnallaw8.EntryBack", spec := "entryBack", apart := false, narrowed := true }
def EntryBackUptoSaid : Prop := entryBackUptoRow.holds Try.pinned (OpenSpec.upto entryBackSpec)

/-- 'diurnallaw8.EntryArrays', WHERE WHAT IT READS IS OF BULK AT MOST 1048576: true; the input reads as it did. -/
def entryArraysUptoRow : OpenClaim := { program := "ytojjgagcpkjkaaa", sum := "74479e69bf3a4ba0420a7657b2408bc6cfb0f5c501a6509a4a93862ad2ea89c5", func := "diurnal/diurnallaw8.EntryArrays", spec := "entryArrays", apart := false, narrowed := true }
def EntryArraysUptoSaid : Prop := entryArraysUptoRow.holds Try.pinned (OpenSpec.upto entryArraysSpec)

end Rows
end Go.Proofs.Ytojjgagcpkjkaaa
