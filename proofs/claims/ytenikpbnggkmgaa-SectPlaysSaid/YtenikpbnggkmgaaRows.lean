/-
  No cell of these rows narrows 'for every input' (looked for: loops, veiled, ifaces, maps, wideKeys, modest, calm, conditions, laid).
  DERIVED. THE GIVEN ROWS OF THIS SEAT. 4 by the template 'for every input the law returns true; each argument reads behind the call as it read before'; 0 by the template 'total and deterministic' (their statements: YtenikpbnggkmgaaTotals.lean).
  GIVEN WITH THE SEED: the statements are not yours to turn. If you find one false, say at which input.
  Laid BY PROGRAM, IN A SANDBOX (cutbox-rows.mjs): the forced cells as the released guide's own fill.sh prints them over the translation 3cc0c853dd39e192… (all of the seat's roots in one cut). By AI agents, Wed Nov 11 2026. No macro, syntax, notation, axiom, sorry.
-/
import Derived.Test.YtenikpbnggkmgaaChecked
import GoSem.Claim
import GoSem.ClaimJoined
import GoSem.ClaimMapViews
import Derived.JoinedTies
import Derived.KernelRfl
namespace Go.Proofs.Ytenikpbnggkmgaa
/- THE CELL 'sum', in the pinned program and in every row, IS THE sha256 OF THE DUMP (.gsa) THAT YtenikpbnggkmgaaProg.lean LOADS. Nothing in Lean hashes anything: it is a label: what it is worth is what the hold of that sum in a sandbox is worth. -/
noncomputable def Try.pinned : Pinned := { name := "ytenikpbnggkmgaa", sum := "3cc0c853dd39e192d90c8c279e89c012588ec050ef41930f1dba0fdb789e3094", checked := Try.checked }
namespace Rows
def none {H : Type} : Left H := { results := [], args := [] }

/-- 'diurnallaw5.SectGaps': WHATEVER THE INPUT: true; the input reads as it did. -/
def sectGapsSpec : ChangeSpec := { name := "sectGaps", fn := fun _ => fun
  | [d1, d2, d3] => { results := [.lit (.bool true)], args := [d1, d2, d3] }
  | _ => none }
def sectGapsRow : OpenClaim := { program := "ytenikpbnggkmgaa", sum := "3cc0c853dd39e192d90c8c279e89c012588ec050ef41930f1dba0fdb789e3094", func := "diurnal/diurnallaw5.SectGaps", spec := "sectGaps", apart := false }
def SectGapsSaid : Prop := sectGapsRow.holds Try.pinned (OpenSpec.ofChange sectGapsSpec)

/-- ITS FALSE NEIGHBOUR: 'it returns false'. Refute it at one input. -/
def sectGapsWrong : ChangeSpec := { name := "sectGaps", fn := fun _ => fun
  | [d1, d2, d3] => { results := [.lit (.bool false)], args := [d1, d2, d3] }
  | _ => none }
def SectGapsWrongFalsely : Prop := sectGapsRow.holds Try.pinned (OpenSpec.ofChange sectGapsWrong)

/-- 'diurnallaw5.SectEither': WHATEVER THE INPUT: true; the input reads as it did. -/
def sectEitherSpec : ChangeSpec := { name := "sectEither", fn := fun _ => fun
  | [d1, d2, d3, d4] => { results := [.lit (.bool true)], args := [d1, d2, d3, d4] }
  | _ => none }
def sectEitherRow : OpenClaim := { program := "ytenikpbnggkmgaa", sum := "3cc0c853dd39e192d90c8c279e89c012588ec050ef41930f1dba0fdb789e3094", func := "diurnal/diurnallaw5.SectEither", spec := "sectEither", apart := false }
def SectEitherSaid : Prop := sectEitherRow.holds Try.pinned (OpenSpec.ofChange sectEitherSpec)

/-- ITS FALSE NEIGHBOUR: 'it returns false'. Refute it at one input. -/
def sectEitherWrong : ChangeSpec := { name := "sectEither", fn := fun _ => fun
  | [d1, d2, d3, d4] => { results := [.lit (.bool false)], args := [d1, d2, d3, d4] }
  | _ => none }
def SectEitherWrongFalsely : Prop := sectEitherRow.holds Try.pinned (OpenSpec.ofChange sectEitherWrong)

/-- 'diurnallaw5.SectSafe': WHATEVER THE INPUT: true; the input reads as it did. -/
def sectSafeSpec : ChangeSpec := { name := "sectSafe", fn := fun _ => fun
  | [d1, d2, d3, d4] => { results := [.lit (.bool true)], args := [d1, d2, d3, d4] }
  | _ => none }
def sectSafeRow : OpenClaim := { program := "ytenikpbnggkmgaa", sum := "3cc0c853dd39e192d90c8c279e89c012588ec050ef41930f1dba0fdb789e3094", func := "diurnal/diurnallaw5.SectSafe", spec := "sectSafe", apart := false }
def SectSafeSaid : Prop := sectSafeRow.holds Try.pinned (OpenSpec.ofChange sectSafeSpec)

/-- ITS FALSE NEIGHBOUR: 'it returns false'. Refute it at one input. -/
def sectSafeWrong : ChangeSpec := { name := "sectSafe", fn := fun _ => fun
  | [d1, d2, d3, d4] => { results := [.lit (.bool false)], args := [d1, d2, d3, d4] }
  | _ => none }
def SectSafeWrongFalsely : Prop := sectSafeRow.holds Try.pinned (OpenSpec.ofChange sectSafeWrong)

/-- 'diurnallaw5.SectPlays': WHATEVER THE INPUT: true; the input reads as it did. -/
def sectPlaysSpec : ChangeSpec := { name := "sectPlays", fn := fun _ => fun
  | [d] => { results := [.lit (.bool true)], args := [d] }
  | _ => none }
def sectPlaysRow : OpenClaim := { program := "ytenikpbnggkmgaa", sum := "3cc0c853dd39e192d90c8c279e89c012588ec050ef41930f1dba0fdb789e3094", func := "diurnal/diurnallaw5.SectPlays", spec := "sectPlays", apart := false }
def SectPlaysSaid : Prop := sectPlaysRow.holds Try.pinned (OpenSpec.ofChange sectPlaysSpec)

/-- ITS FALSE NEIGHBOUR: 'it returns false'. Refute it at one input. -/
def sectPlaysWrong : ChangeSpec := { name := "sectPlays", fn := fun _ => fun
  | [d] => { results := [.lit (.bool false)], args := [d] }
  | _ => none }
def SectPlaysWrongFalsely : Prop := sectPlaysRow.holds Try.pinned (OpenSpec.ofChange sectPlaysWrong)

/- THE SECOND FORM. 'bulk': how many values and letters a reading holds, each counted each time it is reached (what is shared counts as often as it is met; a slice's spare places count too). A statement '..UptoSaid' is the law's where the arguments, and the package variables that the reading takes, are together of bulk at most 1048576: NARROWER than '..Said'. Prove '..Said' where nothing that the law and all that it calls make is longer than what came in: it says more and counts as full. Else prove '..UptoSaid'. A law counts once. -/
mutual
def uptoBulk {H : Type} : DataW H → Nat
  | .lit (.string bytes) => bytes.length + 1
  | .lit _ => 1
  | .nil => 1
  | .ptr d => uptoBulk d + 1
  | .slice elems spare => uptoBulkAll elems + uptoBulkAll spare + 1
  | .agg parts => uptoBulkAll parts + 1
  | .iface _ d => uptoBulk d + 1
  | .map entries => uptoBulkEntries entries + 1
  | .held _ => 1
def uptoBulkAll {H : Type} : List (DataW H) → Nat
  | [] => 0
  | d :: r => uptoBulk d + uptoBulkAll r
def uptoBulkEntries {H : Type} : List (Lit × DataW H) → Nat
  | [] => 0
  | x :: r => uptoBulkEntry x + uptoBulkEntries r
def uptoBulkEntry {H : Type} : Lit × DataW H → Nat
  | (.string bytes, d) => bytes.length + uptoBulk d + 1
  | (_, d) => uptoBulk d + 1
 end
def uptoSmall : (H : Type) → List (DataW H) → Bool := fun _ ds => decide (uptoBulkAll ds ≤ 1048576)
def OpenSpec.upto (s : _root_.Go.ChangeSpec) : _root_.Go.OpenSpec := { _root_.Go.OpenSpec.ofChange s with cond := some uptoSmall }

/-- 'diurnallaw5.SectGaps', WHERE WHAT IT READS IS OF BULK AT MOST 1048576: true; the input reads as it did. -/
def sectGapsUptoRow : OpenClaim := { program := "ytenikpbnggkmgaa", sum := "3cc0c853dd39e192d90c8c279e89c012588ec050ef41930f1dba0fdb789e3094", func := "diurnal/diurnallaw5.SectGaps", spec := "sectGaps", apart := false, narrowed := true }
def SectGapsUptoSaid : Prop := sectGapsUptoRow.holds Try.pinned (OpenSpec.upto sectGapsSpec)

/-- 'diurnallaw5.SectEither', WHERE WHAT IT READS IS OF BULK AT MOST 1048576: true; the input reads as it did. -/
def sectEitherUptoRow : OpenClaim := { program := "ytenikpbnggkmgaa", sum := "3cc0c853dd39e192d90c8c279e89c012588ec050ef41930f1dba0fdb789e3094", func := "diurnal/diurnallaw5.SectEither", spec := "sectEither", apart := false, narrowed := true }
def SectEitherUptoSaid : Prop := sectEitherUptoRow.holds Try.pinned (OpenSpec.upto sectEitherSpec)

/-- 'diurnallaw5.SectSafe', WHERE WHAT IT READS IS OF BULK AT MOST 1048576: true; the input reads as it did. -/
def sectSafeUptoRow : OpenClaim := { program := "ytenikpbnggkmgaa", sum := "3cc0c853dd39e192d90c8c279e89c012588ec050ef41930f1dba0fdb789e3094", func := "diurnal/diurnallaw5.SectSafe", spec := "sectSafe", apart := false, narrowed := true }
def SectSafeUptoSaid : Prop := sectSafeUptoRow.holds Try.pinned (OpenSpec.upto sectSafeSpec)

/-- 'diurnallaw5.SectPlays', WHERE WHAT IT READS IS OF BULK AT MOST 1048576: true; the input reads as it did. -/
def sectPlaysUptoRow : OpenClaim := { program := "ytenikpbnggkmgaa", sum := "3cc0c853dd39e192d90c8c279e89c012588ec050ef41930f1dba0fdb789e3094", func := "diurnal/diurnallaw5.SectPlays", spec := "sectPlays", apart := false, narrowed := true }
def SectPlaysUptoSaid : Prop := sectPlaysUptoRow.holds Try.pinned (OpenSpec.upto sectPlaysSpec)

end Rows
end Go.Proofs.Ytenikpbnggkmgaa
