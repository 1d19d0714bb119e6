/-
  No cell of these rows narrows 'for every input' (looked for: loops, veiled, ifaces, maps, wideKeys, modest, calm, conditions, laid).
  DERIVED. THE GIVEN ROWS OF THIS SEAT. 3 by the template 'for every input the law returns true; each argument reads behind the call as it read before'; 0 by the template 'total and deterministic' (their statements: YtdbnlgknalencaaGreatTotals.lean).
  GIVEN WITH THE SEED: the statements are not yours to turn. If you find one false, say at which input.
  Laid BY PROGRAM, IN A SANDBOX (cutbox-rows.mjs): the forced cells as the released guide's own fill.sh prints them over the translation 82dd8cd66234e2ab… (all of the seat's roots in one cut). By AI agents, Wed Nov 11 2026. No macro, syntax, notation, axiom, sorry.
-/
import Derived.Test.YtdbnlgknalencaaGreatChecked
import GoSem.Claim
import GoSem.ClaimJoined
import GoSem.ClaimMapViews
import Derived.JoinedTies
import Derived.KernelRfl
namespace Go.Proofs.YtdbnlgknalencaaGreat
/- THE CELL 'sum', in the pinned program and in every row, IS THE sha256 OF THE DUMP (.gsa) THAT YtdbnlgknalencaaGreatProg.lean LOADS. Nothing in Lean hashes anything: it is a label: what it is worth is what the hold of that sum in a sandbox is worth. -/
noncomputable def Tryz.pinned : Pinned := { name := "ytdbnlgknalencaagreat", sum := "82dd8cd66234e2abe016c0c417d19f2c631783b238652e9ba20a8651ecaa0521", checked := Tryz.checked }
namespace Rows
def none {H : Type} : Left H := { results := [], args := [] }

/-- 'intarsialaw23.BriefWorth': WHATEVER THE INPUT: true; the input reads as it did. -/
def briefWorthSpec : ChangeSpec := { name := "briefWorth", fn := fun _ => fun
  | [d1, d2, d3] => { results := [.lit (.bool true)], args := [d1, d2, d3] }
  | _ => none }
def briefWorthRow : OpenClaim := { program := "ytdbnlgknalencaagreat", sum := "82dd8cd66234e2abe016c0c417d19f2c631783b238652e9ba20a8651ecaa0521", func := "intarsia/intarsialaw23.BriefWorth", spec := "briefWorth", unfollowed := true, recurses := true, apart := false }
def BriefWorthSaid : Prop := briefWorthRow.holds Tryz.pinned (OpenSpec.ofChange briefWorthSpec)

/-- ITS FALSE NEIGHBOUR: 'it returns false'. Refute it at one input. -/
def briefWorthWrong : ChangeSpec := { name := "briefWorth", fn := fun _ => fun
  | [d1, d2, d3] => { results := [.lit (.bool false)], args := [d1, d2, d3] }
  | _ => none }
def BriefWorthWrongFalsely : Prop := briefWorthRow.holds Tryz.pinned (OpenSpec.ofChange briefWorthWrong)

/-- 'intarsialaw23.BriefTells': WHATEVER THE INPUT: true; the input reads as it did. -/
def briefTellsSpec : ChangeSpec := { name := "briefTells", fn := fun _ => fun
  | [d] => { results := [.lit (.bool true)], args := [d] }
  | _ => none }
def briefTellsRow : OpenClaim := { program := "ytdbnlgknalencaagreat", sum := "82dd8cd66234e2abe016c0c417d19f2c631783b238652e9ba20a8651ecaa0521", func := "intarsia/intarsialaw23.BriefTells", spec := "briefTells", unfollowed := true, recurses := true, apart := false }
def BriefTellsSaid : Prop := briefTellsRow.holds Tryz.pinned (OpenSpec.ofChange briefTellsSpec)

/-- ITS FALSE NEIGHBOUR: 'it returns false'. Refute it at one input. -/
def briefTellsWrong : ChangeSpec := { name := "briefTells", fn := fun _ => fun
  | [d] => { results := [.lit (.bool false)], args := [d] }
  | _ => none }
def BriefTellsWrongFalsely : Prop := briefTellsRow.holds Tryz.pinned (OpenSpec.ofChange briefTellsWrong)

/-- 'intarsialaw23.BriefSmall': WHATEVER THE INPUT: true; the input reads as it did. -/
def briefSmallSpec : ChangeSpec := { name := "briefSmall", fn := fun _ => fun
  | [] => { results := [.lit (.bool true)], args := [] }
  | _ => none }
def briefSmallRow : OpenClaim := { program := "ytdbnlgknalencaagreat", sum := "82dd8cd66234e2abe016c0c417d19f2c631783b238652e9ba20a8651ecaa0521", func := "intarsia/intarsialaw23.BriefSmall", spec := "briefSmall", unfollowed := true, recurses := true, apart := false }
def BriefSmallSaid : Prop := briefSmallRow.holds Tryz.pinned (OpenSpec.ofChange briefSmallSpec)

/-- ITS FALSE NEIGHBOUR: 'it returns false'. Refute it at one input. -/
def briefSmallWrong : ChangeSpec := { name := "briefSmall", fn := fun _ => fun
  | [] => { results := [.lit (.bool false)], args := [] }
  | _ => none }
def BriefSmallWrongFalsely : Prop := briefSmallRow.holds Tryz.pinned (OpenSpec.ofChange briefSmallWrong)

/- THE SECOND FORM. 'bulk': how many values and letters a reading holds, each counted each time it is reached (what is shared counts as often as it is met; a slice's spare places count too). A statement '..UptoSaid' is the law's where the arguments, and the package variables that the reading takes, are together of bulk at most 1048576: NARROWER than '..Said'. Prove '..Said' where nothing that the law and all that it calls make is longer than what came in: it says more and counts as full. Else prove '..UptoSaid'. A law counts once. -/
mutual
def uptoBulk {H : Type} : DataW H → Nat
  | .lit (.string bytes) => bytes.length + 1
  | .lit _ => 1
  | .nil => 1
  | .ptr d => uptoBulk d + 1
  | .slice elems spare => uptoBulkAll elems + uptoBulkAll spare + 1
  | .agg parts => uptoBulkAll parts + 1
  | .iface _ d => uptoBulk d + 1
  | .map entries => uptoBulkEntries entries + 1
  | .held _ => 1
def uptoBulkAll {H : Type} : List (DataW H) → Nat
  | [] => 0
  | d :: r => uptoBulk d + uptoBulkAll r
def uptoBulkEntries {H : Type} : List (Lit × DataW H) → Nat
  | [] => 0
  | x :: r => uptoBulkEntry x + uptoBulkEntries r
def uptoBulkEntry {H : Type} : Lit × DataW H → Nat
  | (.string bytes, d) => bytes.length + uptoBulk d + 1
  | (_, d) => uptoBulk d + 1
 end
def uptoSmall : (H : Type) → List (DataW H) → Bool := fun _ ds => decide (uptoBulkAll ds ≤ 1048576)
def OpenSpec.upto (s : _root_.Go.ChangeSpec) : _root_.Go.OpenSpec := { _root_.Go.OpenSpec.ofChange s with cond := some uptoSmall }

/-- 'intarsialaw23.BriefWorth', WHERE WHAT IT READS IS OF BULK AT MOST 1048576: true; the input reads as it did. -/
def briefWorthUptoRow : OpenClaim := { program := "ytdbnlgknalencaagreat", sum := "82dd8cd66234e2abe016c0c417d19f2c631783b238652e9ba20a8651ecaa0521", func := "intarsia/intarsialaw23.BriefWorth", spec := "briefWorth", unfollowed := true, recurses := true, apart := false, narrowed := true }
def BriefWorthUptoSaid : Prop := briefWorthUptoRow.holds Tryz.pinned (OpenSpec.upto briefWorthSpec)

/-- 'intarsialaw23.BriefTells', WHERE WHAT IT READS IS OF BULK AT MOST 1048576: true; the input reads as it did. -/
def briefTellsUptoRow : OpenClaim := { program := "ytdbnlgknalencaagreat", sum := "82dd8cd66234e2abe016c0c417d19f2c631783b238652e9ba20a8651ecaa0521", func := "intarsia/intarsialaw23.BriefTells", spec := "briefTells", unfollowed := true, recurses := true, apart := false, narrowed := true }
def BriefTellsUptoSaid : Prop := briefTellsUptoRow.holds Tryz.pinned (OpenSpec.upto briefTellsSpec)

/-- 'intarsialaw23.BriefSmall', WHERE WHAT IT READS IS OF BULK AT MOST 1048576: true; the input reads as it did. -/
def briefSmallUptoRow : OpenClaim := { program := "ytdbnlgknalencaagreat", sum := "82dd8cd66234e2abe016c0c417d19f2c631783b238652e9ba20a8651ecaa0521", func := "intarsia/intarsialaw23.BriefSmall", spec := "briefSmall", unfollowed := true, recurses := true, apart := false, narrowed := true }
def BriefSmallUptoSaid : Prop := briefSmallUptoRow.holds Tryz.pinned (OpenSpec.upto briefSmallSpec)

end Rows
end Go.Proofs.YtdbnlgknalencaaGreat
