/-
  No cell of these rows narrows 'for every input' (looked for: loops, veiled, ifaces, maps, wideKeys, modest, calm, conditions, laid).
  DERIVED. THE GIVEN ROWS OF THIS SEAT. 16 by the template 'for every input the law returns true; each argument reads behind the call as it read before'; 0 by the template 'total and deterministic' (their statements: YtmahmajoelmmeaaTotals.lean).
  GIVEN WITH THE SEED: the statements are not yours to turn. If you find one false, say at which input.
  Laid BY PROGRAM, IN A SANDBOX (cutbox-rows.mjs): the forced cells as the released guide's own fill.sh prints them over the translation 459471570a388c95… (all of the seat's roots in one cut). By AI agents, Wed Nov 11 2026. No macro, syntax, notation, axiom, sorry.
-/
import Derived.Test.YtmahmajoelmmeaaChecked
import GoSem.Claim
import GoSem.ClaimJoined
import GoSem.ClaimMapViews
import Derived.JoinedTies
import Derived.KernelRfl
namespace Go.Proofs.Ytmahmajoelmmeaa
/- THE CELL 'sum', in the pinned program and in every row, IS THE sha256 OF THE DUMP (.gsa) THAT YtmahmajoelmmeaaProg.lean LOADS. Nothing in Lean hashes anything: it is a label: what it is worth is what the hold of that sum in a sandbox is worth. -/
noncomputable def Try.pinned : Pinned := { name := "ytmahmajoelmmeaa", sum := "459471570a388c95305be4d0e44773b15de33e4c32590c1b9a5bac862eb95096", checked := Try.checked }
namespace Rows
def none {H : Type} : Left H := { results := [], args := [] }

/-- 'apostillelaw3.NodeReads': WHATEVER THE INPUT: true; the input reads as it did. -/
def nodeReadsSpec : ChangeSpec := { name := "nodeReads", fn := fun _ => fun
  | [d] => { results := [.lit (.bool true)], args := [d] }
  | _ => none }
def nodeReadsRow : OpenClaim := { program := "ytmahmajoelmmeaa", sum := "459471570a388c95305be4d0e44773b15de33e4c32590c1b9a5bac862eb95096", func := "apostille/apostillelaw3.NodeReads", spec := "nodeReads", apart := false }
def NodeReadsSaid : Prop := nodeReadsRow.holds Try.pinned (OpenSpec.ofChange nodeReadsSpec)

/-- ITS FALSE NEIGHBOUR: 'it returns false'. Refute it at one input. -/
def nodeReadsWrong : ChangeSpec := { name := "nodeReads", fn := fun _ => fun
  | [d] => { results := [.lit (.bool false)], args := [d] }
  | _ => none }
def NodeReadsWrongFalsely : Prop := nodeReadsRow.holds Try.pinned (OpenSpec.ofChange nodeReadsWrong)

/-- 'apostillelaw3.NodeTurned': WHATEVER THE INPUT: true; the input reads as it did. -/
def nodeTurnedSpec : ChangeSpec := { name := "nodeTurned", fn := fun _ => fun
  | [d1, d2, d3, d4] => { results := [.lit (.bool true)], args := [d1, d2, d3, d4] }
  | _ => none }
def nodeTurnedRow : OpenClaim := { program := "ytmahmajoelmmeaa", sum := "459471570a388c95305be4d0e44773b15de33e4c32590c1b9a5bac862eb95096", func := "apostille/apostillelaw3.NodeTurned", spec := "nodeTurned", apart := false }
def NodeTurnedSaid : Prop := nodeTurnedRow.holds Try.pinned (OpenSpec.ofChange nodeTurnedSpec)

/-- ITS FALSE NEIGHBOUR: 'it returns false'. Refute it at one input. -/
def nodeTurnedWrong : ChangeSpec := { name := "nodeTurned", fn := fun _ => fun
  | [d1, d2, d3, d4] => { results := [.lit (.bool false)], args := [d1, d2, d3, d4] }
  | _ => none }
def NodeTurnedWrongFalsely : Prop := nodeTurnedRow.holds Try.pinned (OpenSpec.ofChange nodeTurnedWrong)

/-- 'apostillelaw3.NodeKnown': WHATEVER THE INPUT: true; the input reads as it did. -/
def nodeKnownSpec : ChangeSpec := { name := "nodeKnown", fn := fun _ => fun
  | [d] => { results := [.lit (.bool true)], args := [d] }
  | _ => none }
def nodeKnownRow : OpenClaim := { program := "ytmahmajoelmmeaa", sum := "459471570a388c95305be4d0e44773b15de33e4c32590c1b9a5bac862eb95096", func := "apostille/apostillelaw3.NodeKnown", spec := "nodeKnown", apart := false }
def NodeKnownSaid : Prop := nodeKnownRow.holds Try.pinned (OpenSpec.ofChange nodeKnownSpec)

/-- ITS FALSE NEIGHBOUR: 'it returns false'. Refute it at one input. -/
def nodeKnownWrong : ChangeSpec := { name := "nodeKnown", fn := fun _ => fun
  | [d] => { results := [.lit (.bool false)], args := [d] }
  | _ => none }
def NodeKnownWrongFalsely : Prop := nodeKnownRow.holds Try.pinned (OpenSpec.ofChange nodeKnownWrong)

/-- 'apostillelaw4.RoomTells': WHATEVER THE INPUT: true; the input reads as it did. -/
def roomTellsSpec : ChangeSpec := { name := "roomTells", fn := fun _ => fun
  | [d1, d2, d3] => { results := [.lit (.bool true)], args := [d1, d2, d3] }
  | _ => none }
def roomTellsRow : OpenClaim := { program := "ytmahmajoelmmeaa", sum := "459471570a388c95305be4d0e44773b15de33e4c32590c1b9a5bac862eb95096", func := "apostille/apostillelaw4.RoomTells", spec := "roomTells", apart := false }
def RoomTellsSaid : Prop := roomTellsRow.holds Try.pinned (OpenSpec.ofChange roomTellsSpec)

/-- ITS FALSE NEIGHBOUR: 'it returns false'. Refute it at one input. -/
def roomTellsWrong : ChangeSpec := { name := "roomTells", fn := fun _ => fun
  | [d1, d2, d3] => { results := [.lit (.bool false)], args := [d1, d2, d3] }
  | _ => none }
def RoomTellsWrongFalsely : Prop := roomTellsRow.holds Try.pinned (OpenSpec.ofChange roomTellsWrong)

/-- 'apostillelaw4.RoomTaken': WHATEVER THE INPUT: true; the input reads as it did. -/
def roomTakenSpec : ChangeSpec := { name := "roomTaken", fn := fun _ => fun
  | [d1, d2, d3] => { results := [.lit (.bool true)], args := [d1, d2, d3] }
  | _ => none }
def roomTakenRow : OpenClaim := { program := "ytmahmajoelmmeaa", sum := "459471570a388c95305be4d0e44773b15de33e4c32590c1b9a5bac862eb95096", func := "apostille/apostillelaw4.RoomTaken", spec := "roomTaken", apart := false }
def RoomTakenSaid : Prop := roomTakenRow.holds Try.pinned (OpenSpec.ofChange roomTakenSpec)

/-- ITS FALSE NEIGHBOUR: 'it returns false'. Refute it at one input. -/
def roomTakenWrong : ChangeSpec := { name := "roomTaken", fn := fun _ => fun
  | [d1, d2, d3] => { results := [.lit (.bool false)], args := [d1, d2, d3] }
  | _ => none }
def RoomTakenWrongFalsely : Prop := roomTakenRow.holds Try.pinned (OpenSpec.ofChange roomTakenWrong)

/-- 'apostillelaw1.DevAgain': WHATEVER THE INPUT: true; the input reads as it did. -/
def devAgainSpec : ChangeSpec := { name := "devAgain", fn := fun _ => fun
  | [d1, d2] => { results := [.lit (.bool true)], args := [d1, d2] }
  | _ => none }
def devAgainRow : OpenClaim := { program := "ytmahmajoelmmeaa", sum := "459471570a388c95305be4d0e44773b15de33e4c32590c1b9a5bac862eb95096", func := "apostille/apostillelaw1.DevAgain", spec := "devAgain", unfollowed := true, recurses := true, apart := false }
def DevAgainSaid : Prop := devAgainRow.holds Try.pinned (OpenSpec.ofChange devAgainSpec)

/-- ITS FALSE NEIGHBOUR: 'it returns false'. Refute it at one input. -/
def devAgainWrong : ChangeSpec := { name := "devAgain", fn := fun _ => fun
  | [d1, d2] => { results := [.lit (.bool false)], args := [d1, d2] }
  | _ => none }
def DevAgainWrongFalsely : Prop := devAgainRow.holds Try.pinned (OpenSpec.ofChange devAgainWrong)

/-- 'apostillelaw1.DevFlushed': WHATEVER THE INPUT: true; the input reads as it did. -/
def devFlushedSpec : ChangeSpec := { name := "devFlushed", fn := fun _ => fun
  | [d1, d2, d3] => { results := [.lit (.bool true)], args := [d1, d2, d3] }
  | _ => none }
def devFlushedRow : OpenClaim := { program := "ytmahmajoelmmeaa", sum := "459471570a388c95305be4d0e44773b15de33e4c32590c1b9a5bac862eb95096", func := "apostille/apostillelaw1.DevFlushed", spec := "devFlushed", unfollowed := true, recurses := true, apart := false }
def DevFlushedSaid : Prop := devFlushedRow.holds Try.pinned (OpenSpec.ofChange devFlushedSpec)

/-- ITS FALSE NEIGHBOUR: 'it returns false'. Refute it at one input. -/
def devFlushedWrong : ChangeSpec := { name := "devFlushed", fn := fun _ => fun
  | [d1, d2, d3] => { results := [.lit (.bool false)], args := [d1, d2, d3] }
  | _ => none }
def DevFlushedWrongFalsely : Prop := devFlushedRow.holds Try.pinned (OpenSpec.ofChange devFlushedWrong)

/-- 'apostillelaw1.DevWhere': WHATEVER THE INPUT: true; the input reads as it did. -/
def devWhereSpec : ChangeSpec := { name := "devWhere", fn := fun _ => fun
  | [d1, d2, d3] => { results := [.lit (.bool true)], args := [d1, d2, d3] }
  | _ => none }
def devWhereRow : OpenClaim := { program := "ytmahmajoelmmeaa", sum := "459471570a388c95305be4d0e44773b15de33e4c32590c1b9a5bac862eb95096", func := "apostille/apostillelaw1.DevWhere", spec := "devWhere", unfollowed := true, recurses := true, apart := false }
def DevWhereSaid : Prop := devWhereRow.holds Try.pinned (OpenSpec.ofChange devWhereSpec)

/-- ITS FALSE NEIGHBOUR: 'it returns false'. Refute it at one input. -/
def devWhereWrong : ChangeSpec := { name := "devWhere", fn := fun _ => fun
  | [d1, d2, d3] => { results := [.lit (.bool false)], args := [d1, d2, d3] }
  | _ => none }
def DevWhereWrongFalsely : Prop := devWhereRow.holds Try.pinned (OpenSpec.ofChange devWhereWrong)

/-- 'apostillelaw1.DevPlays': WHATEVER THE INPUT: true; the input reads as it did. -/
def devPlaysSpec : ChangeSpec := { name := "devPlays", fn := fun _ => fun
  | [d1, d2] => { results := [.lit (.bool true)], args := [d1, d2] }
  | _ => none }
def devPlaysRow : OpenClaim := { program := "ytmahmajoelmmeaa", sum := "459471570a388c95305be4d0e44773b15de33e4c32590c1b9a5bac862eb95096", func := "apostille/apostillelaw1.DevPlays", spec := "devPlays", unfollowed := true, recurses := true, apart := false }
def DevPlaysSaid : Prop := devPlaysRow.holds Try.pinned (OpenSpec.ofChange devPlaysSpec)

/-- ITS FALSE NEIGHBOUR: 'it returns false'. Refute it at one input. -/
def devPlaysWrong : ChangeSpec := { name := "devPlays", fn := fun _ => fun
  | [d1, d2] => { results := [.lit (.bool false)], args := [d1, d2] }
  | _ => none }
def DevPlaysWrongFalsely : Prop := devPlaysRow.holds Try.pinned (OpenSpec.ofChange devPlaysWrong)

/-- 'apostillelaw1.DevKeeps': WHATEVER THE INPUT: true; the input reads as it did. -/
def devKeepsSpec : ChangeSpec := { name := "devKeeps", fn := fun _ => fun
  | [d1, d2] => { results := [.lit (.bool true)], args := [d1, d2] }
  | _ => none }
def devKeepsRow : OpenClaim := { program := "ytmahmajoelmmeaa", sum := "459471570a388c95305be4d0e44773b15de33e4c32590c1b9a5bac862eb95096", func := "apostille/apostillelaw1.DevKeeps", spec := "devKeeps", unfollowed := true, recurses := true, apart := false }
def DevKeepsSaid : Prop := devKeepsRow.holds Try.pinned (OpenSpec.ofChange devKeepsSpec)

/-- ITS FALSE NEIGHBOUR: 'it returns false'. Refute it at one input. -/
def devKeepsWrong : ChangeSpec := { name := "devKeeps", fn := fun _ => fun
  | [d1, d2] => { results := [.lit (.bool false)], args := [d1, d2] }
  | _ => none }
def DevKeepsWrongFalsely : Prop := devKeepsRow.holds Try.pinned (OpenSpec.ofChange devKeepsWrong)

/-- 'apostillelaw1.DevOwn': WHATEVER THE INPUT: true; the input reads as it did. -/
def devOwnSpec : ChangeSpec := { name := "devOwn", fn := fun _ => fun
  | [d1, d2] => { results := [.lit (.bool true)], args := [d1, d2] }
  | _ => none }
def devOwnRow : OpenClaim := { program := "ytmahmajoelmmeaa", sum := "459471570a388c95305be4d0e44773b15de33e4c32590c1b9a5bac862eb95096", func := "apostille/apostillelaw1.DevOwn", spec := "devOwn", unfollowed := true, recurses := true, apart := false }
def DevOwnSaid : Prop := devOwnRow.holds Try.pinned (OpenSpec.ofChange devOwnSpec)

/-- ITS FALSE NEIGHBOUR: 'it returns false'. Refute it at one input. -/
def devOwnWrong : ChangeSpec := { name := "devOwn", fn := fun _ => fun
  | [d1, d2] => { results := [.lit (.bool false)], args := [d1, d2] }
  | _ => none }
def DevOwnWrongFalsely : Prop := devOwnRow.holds Try.pinned (OpenSpec.ofChange devOwnWrong)

/-- 'apostillelaw2.JourMost': WHATEVER THE INPUT: true; the input reads as it did. -/
def jourMostSpec : ChangeSpec := { name := "jourMost", fn := fun _ => fun
  | [d1, d2] => { results := [.lit (.bool true)], args := [d1, d2] }
  | _ => none }
def jourMostRow : OpenClaim := { program := "ytmahmajoelmmeaa", sum := "459471570a388c95305be4d0e44773b15de33e4c32590c1b9a5bac862eb95096", func := "apostille/apostillelaw2.JourMost", spec := "jourMost", unfollowed := true, recurses := true, apart := false }
def JourMostSaid : Prop := jourMostRow.holds Try.pinned (OpenSpec.ofChange jourMostSpec)

/-- ITS FALSE NEIGHBOUR: 'it returns false'. Refute it at one input. -/
def jourMostWrong : ChangeSpec := { name := "jourMost", fn := fun _ => fun
  | [d1, d2] => { results := [.lit (.bool false)], args := [d1, d2] }
  | _ => none }
def JourMostWrongFalsely : Prop := jourMostRow.holds Try.pinned (OpenSpec.ofChange jourMostWrong)

/-- 'apostillelaw2.JourRefused': WHATEVER THE INPUT: true; the input reads as it did. -/
def jourRefusedSpec : ChangeSpec := { name := "jourRefused", fn := fun _ => fun
  | [d1, d2, d3] => { results := [.lit (.bool true)], args := [d1, d2, d3] }
  | _ => none }
def jourRefusedRow : OpenClaim := { program := "ytmahmajoelmmeaa", sum := "459471570a388c95305be4d0e44773b15de33e4c32590c1b9a5bac862eb95096", func := "apostille/apostillelaw2.JourRefused", spec := "jourRefused", unfollowed := true, recurses := true, apart := false }
def JourRefusedSaid : Prop := jourRefusedRow.holds Try.pinned (OpenSpec.ofChange jourRefusedSpec)

/-- ITS FALSE NEIGHBOUR: 'it returns false'. Refute it at one input. -/
def jourRefusedWrong : ChangeSpec := { name := "jourRefused", fn := fun _ => fun
  | [d1, d2, d3] => { results := [.lit (.bool false)], args := [d1, d2, d3] }
  | _ => none }
def JourRefusedWrongFalsely : Prop := jourRefusedRow.holds Try.pinned (OpenSpec.ofChange jourRefusedWrong)

/-- 'apostillelaw2.JourMark': WHATEVER THE INPUT: true; the input reads as it did. -/
def jourMarkSpec : ChangeSpec := { name := "jourMark", fn := fun _ => fun
  | [d1, d2, d3] => { results := [.lit (.bool true)], args := [d1, d2, d3] }
  | _ => none }
def jourMarkRow : OpenClaim := { program := "ytmahmajoelmmeaa", sum := "459471570a388c95305be4d0e44773b15de33e4c32590c1b9a5bac862eb95096", func := "apostille/apostillelaw2.JourMark", spec := "jourMark", unfollowed := true, recurses := true, apart := false }
def JourMarkSaid : Prop := jourMarkRow.holds Try.pinned (OpenSpec.ofChange jourMarkSpec)

/-- ITS FALSE NEIGHBOUR: 'it returns false'. Refute it at one input. -/
def jourMarkWrong : ChangeSpec := { name := "jourMark", fn := fun _ => fun
  | [d1, d2, d3] => { results := [.lit (.bool false)], args := [d1, d2, d3] }
  | _ => none }
def JourMarkWrongFalsely : Prop := jourMarkRow.holds Try.pinned (OpenSpec.ofChange jourMarkWrong)

/-- 'apostillelaw2.JourAll': WHATEVER THE INPUT: true; the input reads as it did. -/
def jourAllSpec : ChangeSpec := { name := "jourAll", fn := fun _ => fun
  | [d1, d2, d3] => { results := [.lit (.bool true)], args := [d1, d2, d3] }
  | _ => none }
def jourAllRow : OpenClaim := { program := "ytmahmajoelmmeaa", sum := "459471570a388c95305be4d0e44773b15de33e4c32590c1b9a5bac862eb95096", func := "apostille/apostillelaw2.JourAll", spec := "jourAll", unfollowed := true, recurses := true, apart := false }
def JourAllSaid : Prop := jourAllRow.holds Try.pinned (OpenSpec.ofChange jourAllSpec)

/-- ITS FALSE NEIGHBOUR: 'it returns false'. Refute it at one input. -/
def jourAllWrong : ChangeSpec := { name := "jourAll", fn := fun _ => fun
  | [d1, d2, d3] => { results := [.lit (.bool false)], args := [d1, d2, d3] }
  | _ => none }
def JourAllWrongFalsely : Prop := jourAllRow.holds Try.pinned (OpenSpec.ofChange jourAllWrong)

/-- 'apostillelaw2.JourPlays': WHATEVER THE INPUT: true; the input reads as it did. -/
def jourPlaysSpec : ChangeSpec := { name := "jourPlays", fn := fun _ => fun
  | [d1, d2] => { results := [.lit (.bool true)], args := [d1, d2] }
  | _ => none }
def jourPlaysRow : OpenClaim := { program := "ytmahmajoelmmeaa", sum := "459471570a388c95305be4d0e44773b15de33e4c32590c1b9a5bac862eb95096", func := "apostille/apostillelaw2.JourPlays", spec := "jourPlays", unfollowed := true, recurses := true, apart := false }
def JourPlaysSaid : Prop := jourPlaysRow.holds Try.pinned (OpenSpec.ofChange jourPlaysSpec)

/-- ITS FALSE NEIGHBOUR: 'it returns false'. Refute it at one input. -/
def jourPlaysWrong : ChangeSpec := { name := "jourPlays", fn := fun _ => fun
  | [d1, d2] => { results := [.lit (.bool false)], args := [d1, d2] }
  | _ => none }
def JourPlaysWrongFalsely : Prop := jourPlaysRow.holds Try.pinned (OpenSpec.ofChange jourPlaysWrong)

/- THE SECOND FORM. 'bulk': how many values and letters a reading holds, each counted each time it is reached (what is shared counts as often as it is met; a slice's spare places count too). A statement '..UptoSaid' is the law's where the arguments, and the package variables that the reading takes, are together of bulk at most 1048576: NARROWER than '..Said'. Prove '..Said' where nothing that the law and all that it calls make is longer than what came in: it says more and counts as full. Else prove '..UptoSaid'. A law counts once. -/
mutual
def uptoBulk {H : Type} : DataW H → Nat
  | .lit (.string bytes) => bytes.length + 1
  | .lit _ => 1
  | .nil => 1
  | .ptr d => uptoBulk d + 1
  | .slice elems spare => uptoBulkAll elems + uptoBulkAll spare + 1
  | .agg parts => uptoBulkAll parts + 1
  | .iface _ d => uptoBulk d + 1
  | .map entries => uptoBulkEntries entries + 1
  | .held _ => 1
def uptoBulkAll {H : Type} : List (DataW H) → Nat
  | [] => 0
  | d :: r => uptoBulk d + uptoBulkAll r
def uptoBulkEntries {H : Type} : List (Lit × DataW H) → Nat
  | [] => 0
  | x :: r => uptoBulkEntry x + uptoBulkEntries r
def uptoBulkEntry {H : Type} : Lit × DataW H → Nat
  | (.string bytes, d) => bytes.length + uptoBulk d + 1
  | (_, d) => uptoBulk d + 1
 end
def uptoSmall : (H : Type) → List (DataW H) → Bool := fun _ ds => decide (uptoBulkAll ds ≤ 1048576)
def OpenSpec.upto (s : _root_.Go.ChangeSpec) : _root_.Go.OpenSpec := { _root_.Go.OpenSpec.ofChange s with cond := some uptoSmall }

/-- 'apostillelaw3.NodeReads', WHERE WHAT IT READS IS OF BULK AT MOST 1048576: true; the input reads as it did. -/
def nodeReadsUptoRow : OpenClaim := { program := "ytmahmajoelmmeaa", sum := "459471570a388c95305be4d0e44773b15de33e4c32590c1b9a5bac862eb95096", func := "apostille/apostillelaw3.NodeReads", spec := "nodeReads", apart := false, narrowed := true }
def NodeReadsUptoSaid : Prop := nodeReadsUptoRow.holds Try.pinned (OpenSpec.upto nodeReadsSpec)

/-- 'apostillelaw3.NodeTurned', WHERE WHAT IT READS IS OF BULK AT MOST 1048576: true; the input reads as it did. -/
def nodeTurnedUptoRow : OpenClaim := { program := "ytmahmajoelmmeaa", sum := "459471570a388c95305be4d0e44773b15de33e4c32590c1b9a5bac862eb95096", func := "apostille/apostillelaw3.NodeTurned", spec := "nodeTurned", apart := false, narrowed := true }
def NodeTurnedUptoSaid : Prop := nodeTurnedUptoRow.holds Try.pinned (OpenSpec.upto nodeTurnedSpec)

/-- 'apostillelaw3.NodeKnown', WHERE WHAT IT READS IS OF BULK AT MOST 1048576: true; the input reads as it did. -/
def nodeKnownUptoRow : OpenClaim := { program := "ytmahmajoelmmeaa", sum := "459471570a388c95305be4d0e44773b15de33e4c32590c1b9a5bac862eb95096", func := "apostille/apostillelaw3.NodeKnown", spec := "nodeKnown", apart := false, narrowed := true }
def NodeKnownUptoSaid : Prop := nodeKnownUptoRow.holds Try.pinned (OpenSpec.upto nodeKnownSpec)

/-- 'apostillelaw4.RoomTells', WHERE WHAT IT READS IS OF BULK AT MOST 1048576: true; the input reads as it did. -/
def roomTellsUptoRow : OpenClaim := { program := "ytmahmajoelmmeaa", sum := "459471570a388c95305be4d0e44773b15de33e4c32590c1b9a5bac862eb95096", func := "apostille/apostillelaw4.RoomTells", spec := "roomTells", apart := false, narrowed := true }
def RoomTellsUptoSaid : Prop := roomTellsUptoRow.holds Try.pinned (OpenSpec.upto roomTellsSpec)

/-- 'apostillelaw4.RoomTaken', WHERE WHAT IT READS IS OF BULK AT MOST 1048576: true; the input reads as it did. -/
def roomTakenUptoRow : OpenClaim := { program := "ytmahmajoelmmeaa", sum := "459471570a388c95305be4d0e44773b15de33e4c32590c1b9a5bac862eb95096", func := "apostille/apostillelaw4.RoomTaken", spec := "roomTaken", apart := false, narrowed := true }
def RoomTakenUptoSaid : Prop := roomTakenUptoRow.holds Try.pinned (OpenSpec.upto roomTakenSpec)

/-- 'apostillelaw1.DevAgain', WHERE WHAT IT READS IS OF BULK AT MOST 1048576: true; the input reads as it did. -/
def devAgainUptoRow : OpenClaim := { program := "ytmahmajoelmmeaa", sum := "459471570a388c95305be4d0e44773b15de33e4c32590c1b9a5bac862eb95096", func := "apostille/apostillelaw1.DevAgain", spec := "devAgain", unfollowed := true, recurses := true, apart := false, narrowed := true }
def DevAgainUptoSaid : Prop := devAgainUptoRow.holds Try.pinned (OpenSpec.upto devAgainSpec)

/-- 'apostillelaw1.DevFlushed', WHERE WHAT IT READS IS OF BULK AT MOST 1048576: true; the input reads as it did. -/
def devFlushedUptoRow : OpenClaim := { program := "ytmahmajoelmmeaa", sum := "459471570a388c95305be4d0e44773b15de33e4c32590c1b9a5bac862eb95096", func := "apostille/apostillelaw1.DevFlushed", spec := "devFlushed", unfollowed := true, recurses := true, apart := false, narrowed := true }
def DevFlushedUptoSaid : Prop := devFlushedUptoRow.holds Try.pinned (OpenSpec.upto devFlushedSpec)

/-- 'apostillelaw1.DevWhere', WHERE WHAT IT READS IS OF BULK AT MOST 1048576: true; the input reads as it did. -/
def devWhereUptoRow : OpenClaim := { program := "ytmahmajoelmmeaa", sum := "459471570a388c95305be4d0e44773b15de33e4c32590c1b9a5bac862eb95096", func := "apostille/apostillelaw1.DevWhere", spec := "devWhere", unfollowed := true, recurses := true, apart := false, narrowed := true }
def DevWhereUptoSaid : Prop := devWhereUptoRow.holds Try.pinned (OpenSpec.upto devWhereSpec)

/-- 'apostillelaw1.DevPlays', WHERE WHAT IT READS IS OF BULK AT MOST 1048576: true; the input reads as it did. -/
def devPlaysUptoRow : OpenClaim := { program := "ytmahmajoelmmeaa", sum := "459471570a388c95305be4d0e44773b15de33e4c32590c1b9a5bac862eb95096", func := "apostille/apostillelaw1.DevPlays", spec := "devPlays", unfollowed := true, recurses := true, apart := false, narrowed := true }
def DevPlaysUptoSaid : Prop := devPlaysUptoRow.holds Try.pinned (OpenSpec.upto devPlaysSpec)

/-- 'apostillelaw1.DevKeeps', WHERE WHAT IT READS IS OF BULK AT MOST 1048576: true; the input reads as it did. -/
def devKeepsUptoRow : OpenClaim := { program := "ytmahmajoelmmeaa", sum := "459471570a388c95305be4d0e44773b15de33e4c32590c1b9a5bac862eb95096", func := "apostille/apostillelaw1.DevKeeps", spec := "devKeeps", unfollowed := true, recurses := true, apart := false, narrowed := true }
def DevKeepsUptoSaid : Prop := devKeepsUptoRow.holds Try.pinned (OpenSpec.upto devKeepsSpec)

/-- 'apostillelaw1.DevOwn', WHERE WHAT IT READS IS OF BULK AT MOST 1048576: true; the input reads as it did. -/
def devOwnUptoRow : OpenClaim := { program := "ytmahmajoelmmeaa", sum := "459471570a388c95305be4d0e44773b15de33e4c32590c1b9a5bac862eb95096", func := "apostille/apostillelaw1.DevOwn", spec := "devOwn", unfollowed := true, recurses := true, apart := false, narrowed := true }
def DevOwnUptoSaid : Prop := devOwnUptoRow.holds Try.pinned (OpenSpec.upto devOwnSpec)

/-- 'apostillelaw2.JourMost', WHERE WHAT IT READS IS OF BULK AT MOST 1048576: true; the input reads as it did. -/
def jourMostUptoRow : OpenClaim := { program := "ytmahmajoelmmeaa", sum := "459471570a388c95305be4d0e44773b15de33e4c32590c1b9a5bac862eb95096", func := "apostille/apostillelaw2.JourMost", spec := "jourMost", unfollowed := true, recurses := true, apart := false, narrowed := true }
def JourMostUptoSaid : Prop := jourMostUptoRow.holds Try.pinned (OpenSpec.upto jourMostSpec)

/-- 'apostillelaw2.JourRefused', WHERE WHAT IT READS IS OF BULK AT MOST 1048576: true; the input reads as it did. -/
def jourRefusedUptoRow : OpenClaim := { program := "ytmahmajoelmmeaa", sum := "459471570a388c95305be4d0e44773b15de33e4c32590c1b9a5bac862eb95096", func := "apostille/apostillelaw2.JourRefused", spec := "jourRefused", unfollowed := true, recurses := true, apart := false, narrowed := true }
def JourRefusedUptoSaid : Prop := jourRefusedUptoRow.holds Try.pinned (OpenSpec.upto jourRefusedSpec)

/-- 'apostillelaw2.JourMark', WHERE WHAT IT READS IS OF BULK AT MOST 1048576: true; the input reads as it did. -/
def jourMarkUptoRow : OpenClaim := { program := "ytmahmajoelmmeaa", sum := "459471570a388c95305be4d0e44773b15de33e4c32590c1b9a5bac862eb95096", func := "apostille/apostillelaw2.JourMark", spec := "jourMark", unfollowed := true, recurses := true, apart := false, narrowed := true }
def JourMarkUptoSaid : Prop := jourMarkUptoRow.holds Try.pinned (OpenSpec.upto jourMarkSpec)

/-- 'apostillelaw2.JourAll', WHERE WHAT IT READS IS OF BULK AT MOST 1048576: true; the input reads as it did. -/
def jourAllUptoRow : OpenClaim := { program := "ytmahmajoelmmeaa", sum := "459471570a388c95305be4d0e44773b15de33e4c32590c1b9a5bac862eb95096", func := "apostille/apostillelaw2.JourAll", spec := "jourAll", unfollowed := true, recurses := true, apart := false, narrowed := true }
def JourAllUptoSaid : Prop := jourAllUptoRow.holds Try.pinned (OpenSpec.upto jourAllSpec)

/-- 'apostillelaw2.JourPlays', WHERE WHAT IT READS IS OF BULK AT MOST 1048576: true; the input reads as it did. -/
def jourPlaysUptoRow : OpenClaim := { program := "ytmahmajoelmmeaa", sum := "459471570a388c95305be4d0e44773b15de33e4c32590c1b9a5bac862eb95096", func := "apostille/apostillelaw2.JourPlays", spec := "jourPlays", unfollowed := true, recurses := true, apart := false, narrowed := true }
def JourPlaysUptoSaid : Prop := jourPlaysUptoRow.holds Try.pinned (OpenSpec.upto jourPlaysSpec)

end Rows
end Go.Proofs.Ytmahmajoelmmeaa
