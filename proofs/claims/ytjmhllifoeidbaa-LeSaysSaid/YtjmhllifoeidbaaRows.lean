/-
  No cell of these rows narrows 'for every input' (looked for: loops, veiled, ifaces, maps, wideKeys, modest, calm, conditions, laid).
  DERIVED. THE GIVEN ROWS OF THIS SEAT. 4 by the template 'for every input the law returns true; each argument reads behind the call as it read before'; 0 by the template 'total and deterministic' (their statements: YtjmhllifoeidbaaTotals.lean).
  GIVEN WITH THE SEED: the statements are not yours to turn. If you find one false, say at which input.
  Laid BY PROGRAM, IN A SANDBOX (cutbox-rows.mjs): the forced cells as the released guide's own fill.sh prints them over the translation 09eb71d371a8fe24… (all of the seat's roots in one cut). By AI agents, Wed Nov 11 2026. No macro, syntax, notation, axiom, sorry.
-/
import Derived.Test.YtjmhllifoeidbaaChecked
import GoSem.Claim
import GoSem.ClaimJoined
import GoSem.ClaimMapViews
import Derived.JoinedTies
import Derived.KernelRfl
namespace Go.Proofs.Ytjmhllifoeidbaa
/- THE CELL 'sum', in the pinned program and in every row, IS THE sha256 OF THE DUMP (.gsa) THAT YtjmhllifoeidbaaProg.lean LOADS. Nothing in Lean hashes anything: it is a label: what it is worth is what the hold of that sum in a sandbox is worth. -/
noncomputable def Try.pinned : Pinned := { name := "ytjmhllifoeidbaa", sum := "09eb71d371a8fe247ff7d48f9a7e88143ebc9710db48a6a40d51fe79aa27f1a9", checked := Try.checked }
namespace Rows
def none {H : Type} : Left H := { results := [], args := [] }

/-- 'diurnallaw1.LeAligns': WHATEVER THE INPUT: true; the input reads as it did. -/
def leAlignsSpec : ChangeSpec := { name := "leAligns", fn := fun _ => fun
  | [d] => { results := [.lit (.bool true)], args := [d] }
  | _ => none }
def leAlignsRow : OpenClaim := { program := "ytjmhllifoeidbaa", sum := "09eb71d371a8fe247ff7d48f9a7e88143ebc9710db48a6a40d51fe79aa27f1a9", func := "diurnal/diurnallaw1.LeAligns", spec := "leAligns", apart := false }
def LeAlignsSaid : Prop := leAlignsRow.holds Try.pinned (OpenSpec.ofChange leAlignsSpec)

/-- ITS FALSE NEIGHBOUR: 'it returns false'. Refute it at one input. -/
def leAlignsWrong : ChangeSpec := { name := "leAligns", fn := fun _ => fun
  | [d] => { results := [.lit (.bool false)], args := [d] }
  | _ => none }
def LeAlignsWrongFalsely : Prop := leAlignsRow.holds Try.pinned (OpenSpec.ofChange leAlignsWrong)

/-- 'diurnallaw1.LeZeros': WHATEVER THE INPUT: true; the input reads as it did. -/
def leZerosSpec : ChangeSpec := { name := "leZeros", fn := fun _ => fun
  | [d1, d2, d3] => { results := [.lit (.bool true)], args := [d1, d2, d3] }
  | _ => none }
def leZerosRow : OpenClaim := { program := "ytjmhllifoeidbaa", sum := "09eb71d371a8fe247ff7d48f9a7e88143ebc9710db48a6a40d51fe79aa27f1a9", func := "diurnal/diurnallaw1.LeZeros", spec := "leZeros", apart := false }
def LeZerosSaid : Prop := leZerosRow.holds Try.pinned (OpenSpec.ofChange leZerosSpec)

/-- ITS FALSE NEIGHBOUR: 'it returns false'. Refute it at one input. -/
def leZerosWrong : ChangeSpec := { name := "leZeros", fn := fun _ => fun
  | [d1, d2, d3] => { results := [.lit (.bool false)], args := [d1, d2, d3] }
  | _ => none }
def LeZerosWrongFalsely : Prop := leZerosRow.holds Try.pinned (OpenSpec.ofChange leZerosWrong)

/-- 'diurnallaw1.LeSays': WHATEVER THE INPUT: true; the input reads as it did. -/
def leSaysSpec : ChangeSpec := { name := "leSays", fn := fun _ => fun
  | [d1, d2, d3, d4] => { results := [.lit (.bool true)], args := [d1, d2, d3, d4] }
  | _ => none }
def leSaysRow : OpenClaim := { program := "ytjmhllifoeidbaa", sum := "09eb71d371a8fe247ff7d48f9a7e88143ebc9710db48a6a40d51fe79aa27f1a9", func := "diurnal/diurnallaw1.LeSays", spec := "leSays", apart := false }
def LeSaysSaid : Prop := leSaysRow.holds Try.pinned (OpenSpec.ofChange leSaysSpec)

/-- ITS FALSE NEIGHBOUR: 'it returns false'. Refute it at one input. -/
def leSaysWrong : ChangeSpec := { name := "leSays", fn := fun _ => fun
  | [d1, d2, d3, d4] => { results := [.lit (.bool false)], args := [d1, d2, d3, d4] }
  | _ => none }
def LeSaysWrongFalsely : Prop := leSaysRow.holds Try.pinned (OpenSpec.ofChange leSaysWrong)

/-- 'diurnallaw1.LeBack': WHATEVER THE INPUT: true; the input reads as it did. -/
def leBackSpec : ChangeSpec := { name := "leBack", fn := fun _ => fun
  | [d1, d2, d3, d4] => { results := [.lit (.bool true)], args := [d1, d2, d3, d4] }
  | _ => none }
def leBackRow : OpenClaim := { program := "ytjmhllifoeidbaa", sum := "09eb71d371a8fe247ff7d48f9a7e88143ebc9710db48a6a40d51fe79aa27f1a9", func := "diurnal/diurnallaw1.LeBack", spec := "leBack", apart := false }
def LeBackSaid : Prop := leBackRow.holds Try.pinned (OpenSpec.ofChange leBackSpec)

/-- ITS FALSE NEIGHBOUR: 'it returns false'. Refute it at one input. -/
def leBackWrong : ChangeSpec := { name := "leBack", fn := fun _ => fun
  | [d1, d2, d3, d4] => { results := [.lit (.bool false)], args := [d1, d2, d3, d4] }
  | _ => none }
def LeBackWrongFalsely : Prop := leBackRow.holds Try.pinned (OpenSpec.ofChange leBackWrong)

/- THE SECOND FORM. 'bulk': how many values and letters a reading holds, each counted each time it is reached (what is shared counts as often as it is met; a slice's spare places count too). A statement '..UptoSaid' is the law's where the arguments, and the package variables that the reading takes, are together of bulk at most 1048576: NARROWER than '..Said'. Prove '..Said' where nothing that the law and all that it calls make is longer than what came in: it says more and counts as full. Else prove '..UptoSaid'. A law counts once. -/
mutual
def uptoBulk {H : Type} : DataW H → Nat
  | .lit (.string bytes) => bytes.length + 1
  | .lit _ => 1
  | .nil => 1
  | .ptr d => uptoBulk d + 1
  | .slice elems spare => uptoBulkAll elems + uptoBulkAll spare + 1
  | .agg parts => uptoBulkAll parts + 1
  | .iface _ d => uptoBulk d + 1
  | .map entries => uptoBulkEntries entries + 1
  | .held _ => 1
def uptoBulkAll {H : Type} : List (DataW H) → Nat
  | [] => 0
  | d :: r => uptoBulk d + uptoBulkAll r
def uptoBulkEntries {H : Type} : List (Lit × DataW H) → Nat
  | [] => 0
  | x :: r => uptoBulkEntry x + uptoBulkEntries r
def uptoBulkEntry {H : Type} : Lit × DataW H → Nat
  | (.string bytes, d) => bytes.length + uptoBulk d + 1
  | (_, d) => uptoBulk d + 1
 end
def uptoSmall : (H : Type) → List (DataW H) → Bool := fun _ ds => decide (uptoBulkAll ds ≤ 1048576)
def OpenSpec.upto (s : _root_.Go.ChangeSpec) : _root_.Go.OpenSpec := { _root_.Go.OpenSpec.ofChange s with cond := some uptoSmall }

/-- 'diurnallaw1.LeAligns', WHERE WHAT IT READS IS OF BULK AT MOST 1048576: true; the input reads as it did. -/
def leAlignsUptoRow : OpenClaim := { program := "ytjmhllifoeidbaa", sum := "09eb71d371a8fe247ff7d48f9a7e88143ebc9710db48a6a40d51fe79aa27f1a9", func := "diurnal/diurnallaw1.LeAligns", spec := "leAligns", apart := false, narrowed := true }
def LeAlignsUptoSaid : Prop := leAlignsUptoRow.holds Try.pinned (OpenSpec.upto leAlignsSpec)

/-- 'diurnallaw1.LeZeros', WHERE WHAT IT READS IS OF BULK AT MOST 1048576: true; the input reads as it did. -/
def leZerosUptoRow : OpenClaim := { program := "ytjmhllifoeidbaa", sum := "09eb71d371a8fe247ff7d48f9a7e88143ebc9710db48a6a40d51fe79aa27f1a9", func := "diurnal/diurnallaw1.LeZeros", spec := "leZeros", apart := false, narrowed := true }
def LeZerosUptoSaid : Prop := leZerosUptoRow.holds Try.pinned (OpenSpec.upto leZerosSpec)

/-- 'diurnallaw1.LeSays', WHERE WHAT IT READS IS OF BULK AT MOST 1048576: true; the input reads as it did. -/
def leSaysUptoRow : OpenClaim := { program := "ytjmhllifoeidbaa", sum := "09eb71d371a8fe247ff7d48f9a7e88143ebc9710db48a6a40d51fe79aa27f1a9", func := "diurnal/diurnallaw1.LeSays", spec := "leSays", apart := false, narrowed := true }
def LeSaysUptoSaid : Prop := leSaysUptoRow.holds Try.pinned (OpenSpec.upto leSaysSpec)

/-- 'diurnallaw1.LeBack', WHERE WHAT IT READS IS OF BULK AT MOST 1048576: true; the input reads as it did. -/
def leBackUptoRow : OpenClaim := { program := "ytjmhllifoeidbaa", sum := "09eb71d371a8fe247ff7d48f9a7e88143ebc9710db48a6a40d51fe79aa27f1a9", func := "diurnal/diurnallaw1.LeBack", spec := "leBack", apart := false, narrowed := true }
def LeBackUptoSaid : Prop := leBackUptoRow.holds Try.pinned (OpenSpec.upto leBackSpec)

end Rows
end Go.Proofs.Ytjmhllifoeidbaa
