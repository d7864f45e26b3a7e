/-
  No cell of these rows narrows 'for every input' (looked for: loops, veiled, ifaces, maps, wideKeys, modest, calm, conditions, laid).
  DERIVED. THE GIVEN ROWS OF THIS SEAT. 6 by the template 'for every input the law returns true; each argument reads behind the call as it read before'; 0 by the template 'total and deterministic' (their statements: YtmahmajoelmmeaaGreatTotals.lean).
  GIVEN WITH THE SEED: the statements are not yours to turn. If you find one false, say at which input.
  Laid BY PROGRAM, IN A SANDBOX (cutbox-rows.mjs): the forced cells as the released guide's own fill.sh prints them over the translation ab49e66e1427a146… (all of the seat's roots in one cut). By AI agents, Wed Nov 11 2026. No macro, syntax, notation, axiom, sorry.
-/
import Derived.Test.YtmahmajoelmmeaaGreatChecked
import GoSem.Claim
import GoSem.ClaimJoined
import GoSem.ClaimMapViews
import Derived.JoinedTies
import Derived.KernelRfl
namespace Go.Proofs.YtmahmajoelmmeaaGreat
/- THE CELL 'sum', in the pinned program and in every row, IS THE sha256 OF THE DUMP (.gsa) THAT YtmahmajoelmmeaaGreatProg.lean LOADS. Nothing in Lean hashes anything: it is a label: what it is worth is what the hold of that sum in a sandbox is worth. -/
noncomputable def Tryz.pinned : Pinned := { name := "ytmahmajoelmmeaagreat", sum := "ab49e66e1427a1462d362048adcfe7ad6afdddf156d0ff908727ff02ab89e0d9", checked := Tryz.checked }
namespace Rows
def none {H : Type} : Left H := { results := [], args := [] }

/-- 'apostillelaw5.FsRefused': WHATEVER THE INPUT: true; the input reads as it did. -/
def fsRefusedSpec : ChangeSpec := { name := "fsRefused", fn := fun _ => fun
  | [d1, d2, d3] => { results := [.lit (.bool true)], args := [d1, d2, d3] }
  | _ => none }
def fsRefusedRow : OpenClaim := { program := "ytmahmajoelmmeaagreat", sum := "ab49e66e1427a1462d362048adcfe7ad6afdddf156d0ff908727ff02ab89e0d9", func := "apostille/apostillelaw5.FsRefused", spec := "fsRefused", unfollowed := true, recurses := true, apart := false }
def FsRefusedSaid : Prop := fsRefusedRow.holds Tryz.pinned (OpenSpec.ofChange fsRefusedSpec)

/-- ITS FALSE NEIGHBOUR: 'it returns false'. Refute it at one input. -/
def fsRefusedWrong : ChangeSpec := { name := "fsRefused", fn := fun _ => fun
  | [d1, d2, d3] => { results := [.lit (.bool false)], args := [d1, d2, d3] }
  | _ => none }
def FsRefusedWrongFalsely : Prop := fsRefusedRow.holds Tryz.pinned (OpenSpec.ofChange fsRefusedWrong)

/-- 'apostillelaw5.FsRoom': WHATEVER THE INPUT: true; the input reads as it did. -/
def fsRoomSpec : ChangeSpec := { name := "fsRoom", fn := fun _ => fun
  | [d1, d2] => { results := [.lit (.bool true)], args := [d1, d2] }
  | _ => none }
def fsRoomRow : OpenClaim := { program := "ytmahmajoelmmeaagreat", sum := "ab49e66e1427a1462d362048adcfe7ad6afdddf156d0ff908727ff02ab89e0d9", func := "apostille/apostillelaw5.FsRoom", spec := "fsRoom", unfollowed := true, recurses := true, apart := false }
def FsRoomSaid : Prop := fsRoomRow.holds Tryz.pinned (OpenSpec.ofChange fsRoomSpec)

/-- ITS FALSE NEIGHBOUR: 'it returns false'. Refute it at one input. -/
def fsRoomWrong : ChangeSpec := { name := "fsRoom", fn := fun _ => fun
  | [d1, d2] => { results := [.lit (.bool false)], args := [d1, d2] }
  | _ => none }
def FsRoomWrongFalsely : Prop := fsRoomRow.holds Tryz.pinned (OpenSpec.ofChange fsRoomWrong)

/-- 'apostillelaw5.FsLast': WHATEVER THE INPUT: true; the input reads as it did. -/
def fsLastSpec : ChangeSpec := { name := "fsLast", fn := fun _ => fun
  | [d] => { results := [.lit (.bool true)], args := [d] }
  | _ => none }
def fsLastRow : OpenClaim := { program := "ytmahmajoelmmeaagreat", sum := "ab49e66e1427a1462d362048adcfe7ad6afdddf156d0ff908727ff02ab89e0d9", func := "apostille/apostillelaw5.FsLast", spec := "fsLast", unfollowed := true, recurses := true, apart := false }
def FsLastSaid : Prop := fsLastRow.holds Tryz.pinned (OpenSpec.ofChange fsLastSpec)

/-- ITS FALSE NEIGHBOUR: 'it returns false'. Refute it at one input. -/
def fsLastWrong : ChangeSpec := { name := "fsLast", fn := fun _ => fun
  | [d] => { results := [.lit (.bool false)], args := [d] }
  | _ => none }
def FsLastWrongFalsely : Prop := fsLastRow.holds Tryz.pinned (OpenSpec.ofChange fsLastWrong)

/-- 'apostillelaw5.FsAgain': WHATEVER THE INPUT: true; the input reads as it did. -/
def fsAgainSpec : ChangeSpec := { name := "fsAgain", fn := fun _ => fun
  | [d1, d2, d3] => { results := [.lit (.bool true)], args := [d1, d2, d3] }
  | _ => none }
def fsAgainRow : OpenClaim := { program := "ytmahmajoelmmeaagreat", sum := "ab49e66e1427a1462d362048adcfe7ad6afdddf156d0ff908727ff02ab89e0d9", func := "apostille/apostillelaw5.FsAgain", spec := "fsAgain", unfollowed := true, recurses := true, apart := false }
def FsAgainSaid : Prop := fsAgainRow.holds Tryz.pinned (OpenSpec.ofChange fsAgainSpec)

/-- ITS FALSE NEIGHBOUR: 'it returns false'. Refute it at one input. -/
def fsAgainWrong : ChangeSpec := { name := "fsAgain", fn := fun _ => fun
  | [d1, d2, d3] => { results := [.lit (.bool false)], args := [d1, d2, d3] }
  | _ => none }
def FsAgainWrongFalsely : Prop := fsAgainRow.holds Tryz.pinned (OpenSpec.ofChange fsAgainWrong)

/-- 'apostillelaw5.FsAll': WHATEVER THE INPUT: true; the input reads as it did. -/
def fsAllSpec : ChangeSpec := { name := "fsAll", fn := fun _ => fun
  | [d1, d2, d3] => { results := [.lit (.bool true)], args := [d1, d2, d3] }
  | _ => none }
def fsAllRow : OpenClaim := { program := "ytmahmajoelmmeaagreat", sum := "ab49e66e1427a1462d362048adcfe7ad6afdddf156d0ff908727ff02ab89e0d9", func := "apostille/apostillelaw5.FsAll", spec := "fsAll", unfollowed := true, recurses := true, apart := false }
def FsAllSaid : Prop := fsAllRow.holds Tryz.pinned (OpenSpec.ofChange fsAllSpec)

/-- ITS FALSE NEIGHBOUR: 'it returns false'. Refute it at one input. -/
def fsAllWrong : ChangeSpec := { name := "fsAll", fn := fun _ => fun
  | [d1, d2, d3] => { results := [.lit (.bool false)], args := [d1, d2, d3] }
  | _ => none }
def FsAllWrongFalsely : Prop := fsAllRow.holds Tryz.pinned (OpenSpec.ofChange fsAllWrong)

/-- 'apostillelaw5.FsPlays': WHATEVER THE INPUT: true; the input reads as it did. -/
def fsPlaysSpec : ChangeSpec := { name := "fsPlays", fn := fun _ => fun
  | [d1, d2] => { results := [.lit (.bool true)], args := [d1, d2] }
  | _ => none }
def fsPlaysRow : OpenClaim := { program := "ytmahmajoelmmeaagreat", sum := "ab49e66e1427a1462d362048adcfe7ad6afdddf156d0ff908727ff02ab89e0d9", func := "apostille/apostillelaw5.FsPlays", spec := "fsPlays", unfollowed := true, recurses := true, apart := false }
def FsPlaysSaid : Prop := fsPlaysRow.holds Tryz.pinned (OpenSpec.ofChange fsPlaysSpec)

/-- ITS FALSE NEIGHBOUR: 'it returns false'. Refute it at one input. -/
def fsPlaysWrong : ChangeSpec := { name := "fsPlays", fn := fun _ => fun
  | [d1, d2] => { results := [.lit (.bool false)], args := [d1, d2] }
  | _ => none }
def FsPlaysWrongFalsely : Prop := fsPlaysRow.holds Tryz.pinned (OpenSpec.ofChange fsPlaysWrong)

/- THE SECOND FORM. 'bulk': how many values and letters a reading holds, each counted each time it is reached (what is shared counts as often as it is met; a slice's spare places count too). A statement '..UptoSaid' is the law's where the arguments, and the package variables that the reading takes, are together of bulk at most 1048576: NARROWER than '..Said'. Prove '..Said' where nothing that the law and all that it calls make is longer than what came in: it says more and counts as full. Else prove '..UptoSaid'. A law counts once. -/
mutual
def uptoBulk {H : Type} : DataW H → Nat
  | .lit (.string bytes) => bytes.length + 1
  | .lit _ => 1
  | .nil => 1
  | .ptr d => uptoBulk d + 1
  | .slice elems spare => uptoBulkAll elems + uptoBulkAll spare + 1
  | .agg parts => uptoBulkAll parts + 1
  | .iface _ d => uptoBulk d + 1
  | .map entries => uptoBulkEntries entries + 1
  | .held _ => 1
def uptoBulkAll {H : Type} : List (DataW H) → Nat
  | [] => 0
  | d :: r => uptoBulk d + uptoBulkAll r
def uptoBulkEntries {H : Type} : List (Lit × DataW H) → Nat
  | [] => 0
  | x :: r => uptoBulkEntry x + uptoBulkEntries r
def uptoBulkEntry {H : Type} : Lit × DataW H → Nat
  | (.string bytes, d) => bytes.length + uptoBulk d + 1
  | (_, d) => uptoBulk d + 1
 end
def uptoSmall : (H : Type) → List (DataW H) → Bool := fun _ ds => decide (uptoBulkAll ds ≤ 1048576)
def OpenSpec.upto (s : _root_.Go.ChangeSpec) : _root_.Go.OpenSpec := { _root_.Go.OpenSpec.ofChange s with cond := some uptoSmall }

/-- 'apostillelaw5.FsRefused', WHERE WHAT IT READS IS OF BULK AT MOST 1048576: true; the input reads as it did. -/
def fsRefusedUptoRow : OpenClaim := { program := "ytmahmajoelmmeaagreat", sum := "ab49e66e1427a1462d362048adcfe7ad6afdddf156d0ff908727ff02ab89e0d9", func := "apostille/apostillelaw5.FsRefused", spec := "fsRefused", unfollowed := true, recurses := true, apart := false, narrowed := true }
def FsRefusedUptoSaid : Prop := fsRefusedUptoRow.holds Tryz.pinned (OpenSpec.upto fsRefusedSpec)

/-- 'apostillelaw5.FsRoom', WHERE WHAT IT READS IS OF BULK AT MOST 1048576: true; the input reads as it did. -/
def fsRoomUptoRow : OpenClaim := { program := "ytmahmajoelmmeaagreat", sum := "ab49e66e1427a1462d362048adcfe7ad6afdddf156d0ff908727ff02ab89e0d9", func := "apostille/apostillelaw5.FsRoom", spec := "fsRoom", unfollowed := true, recurses := true, apart := false, narrowed := true }
def FsRoomUptoSaid : Prop := fsRoomUptoRow.holds Tryz.pinned (OpenSpec.upto fsRoomSpec)

/-- 'apostillelaw5.FsLast', WHERE WHAT IT READS IS OF BULK AT MOST 1048576: true; the input reads as it did. -/
def fsLastUptoRow : OpenClaim := { program := "ytmahmajoelmmeaagreat", sum := "ab49e66e1427a1462d362048adcfe7ad6afdddf156d0ff908727ff02ab89e0d9", func := "apostille/apostillelaw5.FsLast", spec := "fsLast", unfollowed := true, recurses := true, apart := false, narrowed := true }
def FsLastUptoSaid : Prop := fsLastUptoRow.holds Tryz.pinned (OpenSpec.upto fsLastSpec)

/-- 'apostillelaw5.FsAgain', WHERE WHAT IT READS IS OF BULK AT MOST 1048576: true; the input reads as it did. -/
def fsAgainUptoRow : OpenClaim := { program := "ytmahmajoelmmeaagreat", sum := "ab49e66e1427a1462d362048adcfe7ad6afdddf156d0ff908727ff02ab89e0d9", func := "apostille/apostillelaw5.FsAgain", spec := "fsAgain", unfollowed := true, recurses := true, apart := false, narrowed := true }
def FsAgainUptoSaid : Prop := fsAgainUptoRow.holds Tryz.pinned (OpenSpec.upto fsAgainSpec)

/-- 'apostillelaw5.FsAll', WHERE WHAT IT READS IS OF BULK AT MOST 1048576: true; the input reads as it did. -/
def fsAllUptoRow : OpenClaim := { program := "ytmahmajoelmmeaagreat", sum := "ab49e66e1427a1462d362048adcfe7ad6afdddf156d0ff908727ff02ab89e0d9", func := "apostille/apostillelaw5.FsAll", spec := "fsAll", unfollowed := true, recurses := true, apart := false, narrowed := true }
def FsAllUptoSaid : Prop := fsAllUptoRow.holds Tryz.pinned (OpenSpec.upto fsAllSpec)

/-- 'apostillelaw5.FsPlays', WHERE WHAT IT READS IS OF BULK AT MOST 1048576: true; the input reads as it did. -/
def fsPlaysUptoRow : OpenClaim := { program := "ytmahmajoelmmeaagreat", sum := "ab49e66e1427a1462d362048adcfe7ad6afdddf156d0ff908727ff02ab89e0d9", func := "apostille/apostillelaw5.FsPlays", spec := "fsPlays", unfollowed := true, recurses := true, apart := false, narrowed := true }
def FsPlaysUptoSaid : Prop := fsPlaysUptoRow.holds Tryz.pinned (OpenSpec.upto fsPlaysSpec)

end Rows
end Go.Proofs.YtmahmajoelmmeaaGreat
