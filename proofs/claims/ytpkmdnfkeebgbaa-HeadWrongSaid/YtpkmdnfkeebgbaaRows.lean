/-
  No cell of these rows narrows 'for every input' (looked for: loops, veiled, ifaces, maps, wideKeys, modest, calm, conditions, laid).
  DERIVED. THE GIVEN ROWS OF THIS SEAT. 4 by the template 'for every input the law returns true; each argument reads behind the call as it read before'; 0 by the template 'total and deterministic' (their statements: YtpkmdnfkeebgbaaTotals.lean).
  GIVEN WITH THE SEED: the statements are not yours to turn. If you find one false, say at which input.
  Laid BY PROGRAM, IN A SANDBOX (cutbox-rows.mjs): the forced cells as the released guide's own fill.sh prints them over the translation c01557cb7fc427af… (all of the seat's roots in one cut). By AI agents, Wed Nov 11 2026. No macro, syntax, notation, axiom, sorry.
-/
import Derived.Test.YtpkmdnfkeebgbaaChecked
import GoSem.Claim
import GoSem.ClaimJoined
import GoSem.ClaimMapViews
import Derived.JoinedTies
import Derived.KernelRfl
namespace Go.Proofs.Ytpkmdnfkeebgbaa
/- THE CELL 'sum', in the pinned program and in every row, IS THE sha256 OF THE DUMP (.gsa) THAT YtpkmdnfkeebgbaaProg.lean LOADS. Nothing in Lean hashes anything: it is a label: what it is worth is what the hold of that sum in a sandbox is worth. -/
noncomputable def Try.pinned : Pinned := { name := "ytpkmdnfkeebgbaa", sum := "c01557cb7fc427afbc3449ad6e5aeea4548f8afd095ecfecb2afadbbc638b388", checked := Try.checked }
namespace Rows
def none {H : Type} : Left H := { results := [], args := [] }

/-- 'diurnallaw9.HeadSays': WHATEVER THE INPUT: true; the input reads as it did. -/
def headSaysSpec : ChangeSpec := { name := "headSays", fn := fun _ => fun
  | [d] => { results := [.lit (.bool true)], args := [d] }
  | _ => none }
def headSaysRow : OpenClaim := { program := "ytpkmdnfkeebgbaa", sum := "c01557cb7fc427afbc3449ad6e5aeea4548f8afd095ecfecb2afadbbc638b388", func := "diurnal/diurnallaw9.HeadSays", spec := "headSays", unfollowed := true, recurses := true, apart := false }
def HeadSaysSaid : Prop := headSaysRow.holds Try.pinned (OpenSpec.ofChange headSaysSpec)

/-- ITS FALSE NEIGHBOUR: 'it returns false'. Refute it at one input. -/
def headSaysWrong : ChangeSpec := { name := "headSays", fn := fun _ => fun
  | [d] => { results := [.lit (.bool false)], args := [d] }
  | _ => none }
def HeadSaysWrongFalsely : Prop := headSaysRow.holds Try.pinned (OpenSpec.ofChange headSaysWrong)

/-- 'diurnallaw9.HeadPuts': WHATEVER THE INPUT: true; the input reads as it did. -/
def headPutsSpec : ChangeSpec := { name := "headPuts", fn := fun _ => fun
  | [d1, d2] => { results := [.lit (.bool true)], args := [d1, d2] }
  | _ => none }
def headPutsRow : OpenClaim := { program := "ytpkmdnfkeebgbaa", sum := "c01557cb7fc427afbc3449ad6e5aeea4548f8afd095ecfecb2afadbbc638b388", func := "diurnal/diurnallaw9.HeadPuts", spec := "headPuts", unfollowed := true, recurses := true, apart := false }
def HeadPutsSaid : Prop := headPutsRow.holds Try.pinned (OpenSpec.ofChange headPutsSpec)

/-- ITS FALSE NEIGHBOUR: 'it returns false'. Refute it at one input. -/
def headPutsWrong : ChangeSpec := { name := "headPuts", fn := fun _ => fun
  | [d1, d2] => { results := [.lit (.bool false)], args := [d1, d2] }
  | _ => none }
def HeadPutsWrongFalsely : Prop := headPutsRow.holds Try.pinned (OpenSpec.ofChange headPutsWrong)

/-- 'diurnallaw9.HeadJournals': WHATEVER THE INPUT: true; the input reads as it did. -/
def headJournalsSpec : ChangeSpec := { name := "headJournals", fn := fun _ => fun
  | [d1, d2, d3] => { results := [.lit (.bool true)], args := [d1, d2, d3] }
  | _ => none }
def headJournalsRow : OpenClaim := { program := "ytpkmdnfkeebgbaa", sum := "c01557cb7fc427afbc3449ad6e5aeea4548f8afd095ecfecb2afadbbc638b388", func := "diurnal/diurnallaw9.HeadJournals", spec := "headJournals", unfollowed := true, recurses := true, apart := false }
def HeadJournalsSaid : Prop := headJournalsRow.holds Try.pinned (OpenSpec.ofChange headJournalsSpec)

/-- ITS FALSE NEIGHBOUR: 'it returns false'. Refute it at one input. -/
def headJournalsWrong : ChangeSpec := { name := "headJournals", fn := fun _ => fun
  | [d1, d2, d3] => { results := [.lit (.bool false)], args := [d1, d2, d3] }
  | _ => none }
def HeadJournalsWrongFalsely : Prop := headJournalsRow.holds Try.pinned (OpenSpec.ofChange headJournalsWrong)

/-- 'diurnallaw9.HeadWrong': WHATEVER THE INPUT: true; the input reads as it did. -/
def headWrongSpec : ChangeSpec := { name := "headWrong", fn := fun _ => fun
  | [d1, d2, d3] => { results := [.lit (.bool true)], args := [d1, d2, d3] }
  | _ => none }
def headWrongRow : OpenClaim := { program := "ytpkmdnfkeebgbaa", sum := "c01557cb7fc427afbc3449ad6e5aeea4548f8afd095ecfecb2afadbbc638b388", func := "diurnal/diurnallaw9.HeadWrong", spec := "headWrong", unfollowed := true, recurses := true, apart := false }
def HeadWrongSaid : Prop := headWrongRow.holds Try.pinned (OpenSpec.ofChange headWrongSpec)

/-- ITS FALSE NEIGHBOUR: 'it returns false'. Refute it at one input. -/
def headWrongWrong : ChangeSpec := { name := "headWrong", fn := fun _ => fun
  | [d1, d2, d3] => { results := [.lit (.bool false)], args := [d1, d2, d3] }
  | _ => none }
def HeadWrongWrongFalsely : Prop := headWrongRow.holds Try.pinned (OpenSpec.ofChange headWrongWrong)

/- THE SECOND FORM. 'bulk': how many values and letters a reading holds, each counted each time it is reached (what is shared counts as often as it is met; a slice's spare places count too). A statement '..UptoSaid' is the law's where the arguments, and the package variables that the reading takes, are together of bulk at most 1048576: NARROWER than '..Said'. Prove '..Said' where nothing that the law and all that it calls make is longer than what came in: it says more and counts as full. Else prove '..UptoSaid'. A law counts once. -/
mutual
def uptoBulk {H : Type} : DataW H → Nat
  | .lit (.string bytes) => bytes.length + 1
  | .lit _ => 1
  | .nil => 1
  | .ptr d => uptoBulk d + 1
  | .slice elems spare => uptoBulkAll elems + uptoBulkAll spare + 1
  | .agg parts => uptoBulkAll parts + 1
  | .iface _ d => uptoBulk d + 1
  | .map entries => uptoBulkEntries entries + 1
  | .held _ => 1
def uptoBulkAll {H : Type} : List (DataW H) → Nat
  | [] => 0
  | d :: r => uptoBulk d + uptoBulkAll r
def uptoBulkEntries {H : Type} : List (Lit × DataW H) → Nat
  | [] => 0
  | x :: r => uptoBulkEntry x + uptoBulkEntries r
def uptoBulkEntry {H : Type} : Lit × DataW H → Nat
  | (.string bytes, d) => bytes.length + uptoBulk d + 1
  | (_, d) => uptoBulk d + 1
 end
def uptoSmall : (H : Type) → List (DataW H) → Bool := fun _ ds => decide (uptoBulkAll ds ≤ 1048576)
def OpenSpec.upto (s : _root_.Go.ChangeSpec) : _root_.Go.OpenSpec := { _root_.Go.OpenSpec.ofChange s with cond := some uptoSmall }

/-- 'diurnallaw9.HeadSays', WHERE WHAT IT READS IS OF BULK AT MOST 1048576: true; the input reads as it did. -/
def headSaysUptoRow : OpenClaim := { program := "ytpkmdnfkeebgbaa", sum := "c01557cb7fc427afbc3449ad6e5aeea4548f8afd095ecfecb2afadbbc638b388", func := "diurnal/diurnallaw9.HeadSays", spec := "headSays", unfollowed := true, recurses := true, apart := false, narrowed := true }
def HeadSaysUptoSaid : Prop := headSaysUptoRow.holds Try.pinned (OpenSpec.upto headSaysSpec)

/-- 'diurnallaw9.HeadPuts', WHERE WHAT IT READS IS OF BULK AT MOST 1048576: true; the input reads as it did. -/
def headPutsUptoRow : OpenClaim := { program := "ytpkmdnfkeebgbaa", sum := "c01557cb7fc427afbc3449ad6e5aeea4548f8afd095ecfecb2afadbbc638b388", func := "diurnal/diurnallaw9.HeadPuts", spec := "headPuts", unfollowed := true, recurses := true, apart := false, narrowed := true }
def HeadPutsUptoSaid : Prop := headPutsUptoRow.holds Try.pinned (OpenSpec.upto headPutsSpec)

/-- 'diurnallaw9.HeadJournals', WHERE WHAT IT READS IS OF BULK AT MOST 1048576: true; the input reads as it did. -/
def headJournalsUptoRow : OpenClaim := { program := "ytpkmdnfkeebgbaa", sum := "c01557cb7fc427afbc3449ad6e5aeea4548f8afd095ecfecb2afadbbc638b388", func := "diurnal/diurnallaw9.HeadJournals", spec := "headJournals", unfollowed := true, recurses := true, apart := false, narrowed := true }
def HeadJournalsUptoSaid : Prop := headJournalsUptoRow.holds Try.pinned (OpenSpec.upto headJournalsSpec)

/-- 'diurnallaw9.HeadWrong', WHERE WHAT IT READS IS OF BULK AT MOST 1048576: true; the input reads as it did. -/
def headWrongUptoRow : OpenClaim := { program := "ytpkmdnfkeebgbaa", sum := "c01557cb7fc427afbc3449ad6e5aeea4548f8afd095ecfecb2afadbbc638b388", func := "diurnal/diurnallaw9.HeadWrong", spec := "headWrong", unfollowed := true, recurses := true, apart := false, narrowed := true }
def HeadWrongUptoSaid : Prop := headWrongUptoRow.holds Try.pinned (OpenSpec.upto headWrongSpec)

end Rows
end Go.Proofs.Ytpkmdnfkeebgbaa
