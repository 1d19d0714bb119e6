/-
  No cell of these rows narrows 'for every input' (looked for: loops, veiled, ifaces, maps, wideKeys, modest, calm, conditions, laid).
  DERIVED. THE GIVEN ROWS OF THIS SEAT. 5 by the template 'for every input the law returns true; each argument reads behind the call as it read before'; 0 by the template 'total and deterministic' (their statements: YtfbmeponhejbhaaTotals.lean).
  GIVEN WITH THE SEED: the statements are not yours to turn. If you find one false, say at which input.
  Laid BY PROGRAM, IN A SANDBOX (cutbox-rows.mjs): the forced cells as the released guide's own fill.sh prints them over the translation 8ddba55384f4d44f… (all of the seat's roots in one cut). By AI agents, Wed Nov 11 2026. No macro, syntax, notation, axiom, sorry.
-/
import Derived.Test.YtfbmeponhejbhaaChecked
import GoSem.Claim
import GoSem.ClaimJoined
import GoSem.ClaimMapViews
import Derived.JoinedTies
import Derived.KernelRfl
namespace Go.Proofs.Ytfbmeponhejbhaa
/- THE CELL 'sum', in the pinned program and in every row, IS THE sha256 OF THE DUMP (.gsa) THAT YtfbmeponhejbhaaProg.lean LOADS. Nothing in Lean hashes anything: it is a label: what it is worth is what the hold of that sum in a sandbox is worth. -/
noncomputable def Try.pinned : Pinned := { name := "ytfbmeponhejbhaa", sum := "8ddba55384f4d44f181c9cac6173cba4340e2a6819cf344b5d916637efc9b211", checked := Try.checked }
namespace Rows
def none {H : Type} : Left H := { results := [], args := [] }

/-- 'intarsialaw25.SlotFrames': WHATEVER THE INPUT: true; the input reads as it did. -/
def slotFramesSpec : ChangeSpec := { name := "slotFrames", fn := fun _ => fun
  | [d1, d2, d3, d4, d5, d6] => { results := [.lit (.bool true)], args := [d1, d2, d3, d4, d5, d6] }
  | _ => none }
def slotFramesRow : OpenClaim := { program := "ytfbmeponhejbhaa", sum := "8ddba55384f4d44f181c9cac6173cba4340e2a6819cf344b5d916637efc9b211", func := "intarsia/intarsialaw25.SlotFrames", spec := "slotFrames", unfollowed := true, recurses := true, apart := false }
def SlotFramesSaid : Prop := slotFramesRow.holds Try.pinned (OpenSpec.ofChange slotFramesSpec)

/-- ITS FALSE NEIGHBOUR: 'it returns false'. Refute it at one input. -/
def slotFramesWrong : ChangeSpec := { name := "slotFrames", fn := fun _ => fun
  | [d1, d2, d3, d4, d5, d6] => { results := [.lit (.bool false)], args := [d1, d2, d3, d4, d5, d6] }
  | _ => none }
def SlotFramesWrongFalsely : Prop := slotFramesRow.holds Try.pinned (OpenSpec.ofChange slotFramesWrong)

/-- 'intarsialaw25.SlotShares': WHATEVER THE INPUT: true; the input reads as it did. -/
def slotSharesSpec : ChangeSpec := { name := "slotShares", fn := fun _ => fun
  | [d1, d2, d3, d4] => { results := [.lit (.bool true)], args := [d1, d2, d3, d4] }
  | _ => none }
def slotSharesRow : OpenClaim := { program := "ytfbmeponhejbhaa", sum := "8ddba55384f4d44f181c9cac6173cba4340e2a6819cf344b5d916637efc9b211", func := "intarsia/intarsialaw25.SlotShares", spec := "slotShares", unfollowed := true, recurses := true, apart := false }
def SlotSharesSaid : Prop := slotSharesRow.holds Try.pinned (OpenSpec.ofChange slotSharesSpec)

/-- ITS FALSE NEIGHBOUR: 'it returns false'. Refute it at one input. -/
def slotSharesWrong : ChangeSpec := { name := "slotShares", fn := fun _ => fun
  | [d1, d2, d3, d4] => { results := [.lit (.bool false)], args := [d1, d2, d3, d4] }
  | _ => none }
def SlotSharesWrongFalsely : Prop := slotSharesRow.holds Try.pinned (OpenSpec.ofChange slotSharesWrong)

/-- 'intarsialaw25.SlotSmall': WHATEVER THE INPUT: true; the input reads as it did. -/
def slotSmallSpec : ChangeSpec := { name := "slotSmall", fn := fun _ => fun
  | [] => { results := [.lit (.bool true)], args := [] }
  | _ => none }
def slotSmallRow : OpenClaim := { program := "ytfbmeponhejbhaa", sum := "8ddba55384f4d44f181c9cac6173cba4340e2a6819cf344b5d916637efc9b211", func := "intarsia/intarsialaw25.SlotSmall", spec := "slotSmall", unfollowed := true, recurses := true, apart := false }
def SlotSmallSaid : Prop := slotSmallRow.holds Try.pinned (OpenSpec.ofChange slotSmallSpec)

/-- ITS FALSE NEIGHBOUR: 'it returns false'. Refute it at one input. -/
def slotSmallWrong : ChangeSpec := { name := "slotSmall", fn := fun _ => fun
  | [] => { results := [.lit (.bool false)], args := [] }
  | _ => none }
def SlotSmallWrongFalsely : Prop := slotSmallRow.holds Try.pinned (OpenSpec.ofChange slotSmallWrong)

/-- 'intarsialaw25.SlotApart': WHATEVER THE INPUT: true; the input reads as it did. -/
def slotApartSpec : ChangeSpec := { name := "slotApart", fn := fun _ => fun
  | [d1, d2, d3, d4] => { results := [.lit (.bool true)], args := [d1, d2, d3, d4] }
  | _ => none }
def slotApartRow : OpenClaim := { program := "ytfbmeponhejbhaa", sum := "8ddba55384f4d44f181c9cac6173cba4340e2a6819cf344b5d916637efc9b211", func := "intarsia/intarsialaw25.SlotApart", spec := "slotApart", unfollowed := true, recurses := true, apart := false }
def SlotApartSaid : Prop := slotApartRow.holds Try.pinned (OpenSpec.ofChange slotApartSpec)

/-- ITS FALSE NEIGHBOUR: 'it returns false'. Refute it at one input. -/
def slotApartWrong : ChangeSpec := { name := "slotApart", fn := fun _ => fun
  | [d1, d2, d3, d4] => { results := [.lit (.bool false)], args := [d1, d2, d3, d4] }
  | _ => none }
def SlotApartWrongFalsely : Prop := slotApartRow.holds Try.pinned (OpenSpec.ofChange slotApartWrong)

/-- 'intarsialaw25.SlotOrder': WHATEVER THE INPUT: true; the input reads as it did. -/
def slotOrderSpec : ChangeSpec := { name := "slotOrder", fn := fun _ => fun
  | [d1, d2, d3, d4] => { results := [.lit (.bool true)], args := [d1, d2, d3, d4] }
  | _ => none }
def slotOrderRow : OpenClaim := { program := "ytfbmeponhejbhaa", sum := "8ddba55384f4d44f181c9cac6173cba4340e2a6819cf344b5d916637efc9b211", func := "intarsia/intarsialaw25.SlotOrder", spec := "slotOrder", unfollowed := true, recurses := true, apart := false }
def SlotOrderSaid : Prop := slotOrderRow.holds Try.pinned (OpenSpec.ofChange slotOrderSpec)

/-- ITS FALSE NEIGHBOUR: 'it returns false'. Refute it at one input. -/
def slotOrderWrong : ChangeSpec := { name := "slotOrder", fn := fun _ => fun
  | [d1, d2, d3, d4] => { results := [.lit (.bool false)], args := [d1, d2, d3, d4] }
  | _ => none }
def SlotOrderWrongFalsely : Prop := slotOrderRow.holds Try.pinned (OpenSpec.ofChange slotOrderWrong)

/- THE SECOND FORM. 'bulk': how many values and letters a reading holds, each counted each time it is reached (what is shared counts as often as it is met; a slice's spare places count too). A statement '..UptoSaid' is the law's where the arguments, and the package variables that the reading takes, are together of bulk at most 1048576: NARROWER than '..Said'. Prove '..Said' where nothing that the law and all that it calls make is longer than what came in: it says more and counts as full. Else prove '..UptoSaid'. A law counts once. -/
mutual
def uptoBulk {H : Type} : DataW H → Nat
  | .lit (.string bytes) => bytes.length + 1
  | .lit _ => 1
  | .nil => 1
  | .ptr d => uptoBulk d + 1
  | .slice elems spare => uptoBulkAll elems + uptoBulkAll spare + 1
  | .agg parts => uptoBulkAll parts + 1
  | .iface _ d => uptoBulk d + 1
  | .map entries => uptoBulkEntries entries + 1
  | .held _ => 1
def uptoBulkAll {H : Type} : List (DataW H) → Nat
  | [] => 0
  | d :: r => uptoBulk d + uptoBulkAll r
def uptoBulkEntries {H : Type} : List (Lit × DataW H) → Nat
  | [] => 0
  | x :: r => uptoBulkEntry x + uptoBulkEntries r
def uptoBulkEntry {H : Type} : Lit × DataW H → Nat
  | (.string bytes, d) => bytes.length + uptoBulk d + 1
  | (_, d) => uptoBulk d + 1
 end
def uptoSmall : (H : Type) → List (DataW H) → Bool := fun _ ds => decide (uptoBulkAll ds ≤ 1048576)
def OpenSpec.upto (s : _root_.Go.ChangeSpec) : _root_.Go.OpenSpec := { _root_.Go.OpenSpec.ofChange s with cond := some uptoSmall }

/-- 'intarsialaw25.SlotFrames', WHERE WHAT IT READS IS OF BULK AT MOST 1048576: true; the input reads as it did. -/
def slotFramesUptoRow : OpenClaim := { program := "ytfbmeponhejbhaa", sum := "8ddba55384f4d44f181c9cac6173cba4340e2a6819cf344b5d916637efc9b211", func := "intarsia/intarsialaw25.SlotFrames", spec := "slotFrames", unfollowed := true, recurses := true, apart := false, narrowed := true }
def SlotFramesUptoSaid : Prop := slotFramesUptoRow.holds Try.pinned (OpenSpec.upto slotFramesSpec)

/-- 'intarsialaw25.SlotShares', WHERE WHAT IT READS IS OF BULK AT MOST 1048576: true; the input reads as it did. -/
def slotSharesUptoRow : OpenClaim := { program := "ytfbmeponhejbhaa", sum := "8ddba55384f4d44f181c9cac6173cba4340e2a6819cf344b5d916637efc9b211", func := "intarsia/intarsialaw25.SlotShares", spec := "slotShares", unfollowed := true, recurses := true, apart := false, narrowed := true }
def SlotSharesUptoSaid : Prop := slotSharesUptoRow.holds Try.pinned (OpenSpec.upto slotSharesSpec)

/-- 'intarsialaw25.SlotSmall', WHERE WHAT IT READS IS OF BULK AT MOST 1048576: true; the input reads as it did. -/
def slotSmallUptoRow : OpenClaim := { program := "ytfbmeponhejbhaa", sum := "8ddba55384f4d44f181c9cac6173cba4340e2a6819cf344b5d916637efc9b211", func := "intarsia/intarsialaw25.SlotSmall", spec := "slotSmall", unfollowed := true, recurses := true, apart := false, narrowed := true }
def SlotSmallUptoSaid : Prop := slotSmallUptoRow.holds Try.pinned (OpenSpec.upto slotSmallSpec)

/-- 'intarsialaw25.SlotApart', WHERE WHAT IT READS IS OF BULK AT MOST 1048576: true; the input reads as it did. -/
def slotApartUptoRow : OpenClaim := { program := "ytfbmeponhejbhaa", sum := "8ddba55384f4d44f181c9cac6173cba4340e2a6819cf344b5d916637efc9b211", func := "intarsia/intarsialaw25.SlotApart", spec := "slotApart", unfollowed := true, recurses := true, apart := false, narrowed := true }
def SlotApartUptoSaid : Prop := slotApartUptoRow.holds Try.pinned (OpenSpec.upto slotApartSpec)

/-- 'intarsialaw25.SlotOrder', WHERE WHAT IT READS IS OF BULK AT MOST 1048576: true; the input reads as it did. -/
def slotOrderUptoRow : OpenClaim := { program := "ytfbmeponhejbhaa", sum := "8ddba55384f4d44f181c9cac6173cba4340e2a6819cf344b5d916637efc9b211", func := "intarsia/intarsialaw25.SlotOrder", spec := "slotOrder", unfollowed := true, recurses := true, apart := false, narrowed := true }
def SlotOrderUptoSaid : Prop := slotOrderUptoRow.holds Try.pinned (OpenSpec.upto slotOrderSpec)

end Rows
end Go.Proofs.Ytfbmeponhejbhaa
