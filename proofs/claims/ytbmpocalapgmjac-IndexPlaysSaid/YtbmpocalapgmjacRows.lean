/-
  No cell of these rows narrows 'for every input' (looked for: loops, veiled, ifaces, maps, wideKeys, modest, calm, conditions, laid).
  DERIVED. THE GIVEN ROWS OF THIS SEAT. 6 by the template 'for every input the law returns true; each argument reads behind the call as it read before'; 0 by the template 'total and deterministic' (their statements: YtbmpocalapgmjacTotals.lean).
  GIVEN WITH THE SEED: the statements are not yours to turn. If you find one false, say at which input.
  Laid BY PROGRAM, IN A SANDBOX (cutbox-rows.mjs): the forced cells as the released guide's own fill.sh prints them over the translation 50fcf9a827053cfc… (all of the seat's roots in one cut). By AI agents, Wed Nov 11 2026. No macro, syntax, notation, axiom, sorry.
-/
import Derived.Test.YtbmpocalapgmjacChecked
import GoSem.Claim
import GoSem.ClaimJoined
import GoSem.ClaimMapViews
import Derived.JoinedTies
import Derived.KernelRfl
namespace Go.Proofs.Ytbmpocalapgmjac
/- THE CELL 'sum', in the pinned program and in every row, IS THE sha256 OF THE DUMP (.gsa) THAT YtbmpocalapgmjacProg.lean LOADS. Nothing in Lean hashes anything: it is a label: what it is worth is what the hold of that sum in a sandbox is worth. -/
noncomputable def Try.pinned : Pinned := { name := "ytbmpocalapgmjac", sum := "50fcf9a827053cfca8d93068427ea802af3d68e329e1bdf9ff32530aeb90e90a", checked := Try.checked }
namespace Rows
def none {H : Type} : Left H := { results := [], args := [] }

/-- 'lockboxlaw26.AgePlays': WHATEVER THE INPUT: true; the input reads as it did. -/
def agePlaysSpec : ChangeSpec := { name := "agePlays", fn := fun _ => fun
  | [d] => { results := [.lit (.bool true)], args := [d] }
  | _ => none }
def agePlaysRow : OpenClaim := { program := "ytbmpocalapgmjac", sum := "50fcf9a827053cfca8d93068427ea802af3d68e329e1bdf9ff32530aeb90e90a", func := "lockbox/lockboxlaw26.AgePlays", spec := "agePlays", unfollowed := true, recurses := true, apart := false }
def AgePlaysSaid : Prop := agePlaysRow.holds Try.pinned (OpenSpec.ofChange agePlaysSpec)

/-- ITS FALSE NEIGHBOUR: 'it returns false'. Refute it at one input. -/
def agePlaysWrong : ChangeSpec := { name := "agePlays", fn := fun _ => fun
  | [d] => { results := [.lit (.bool false)], args := [d] }
  | _ => none }
def AgePlaysWrongFalsely : Prop := agePlaysRow.holds Try.pinned (OpenSpec.ofChange agePlaysWrong)

/-- 'lockboxlaw26.AgeOrder': WHATEVER THE INPUT: true; the input reads as it did. -/
def ageOrderSpec : ChangeSpec := { name := "ageOrder", fn := fun _ => fun
  | [d] => { results := [.lit (.bool true)], args := [d] }
  | _ => none }
def ageOrderRow : OpenClaim := { program := "ytbmpocalapgmjac", sum := "50fcf9a827053cfca8d93068427ea802af3d68e329e1bdf9ff32530aeb90e90a", func := "lockbox/lockboxlaw26.AgeOrder", spec := "ageOrder", unfollowed := true, recurses := true, apart := false }
def AgeOrderSaid : Prop := ageOrderRow.holds Try.pinned (OpenSpec.ofChange ageOrderSpec)

/-- ITS FALSE NEIGHBOUR: 'it returns false'. Refute it at one input. -/
def ageOrderWrong : ChangeSpec := { name := "ageOrder", fn := fun _ => fun
  | [d] => { results := [.lit (.bool false)], args := [d] }
  | _ => none }
def AgeOrderWrongFalsely : Prop := ageOrderRow.holds Try.pinned (OpenSpec.ofChange ageOrderWrong)

/-- 'lockboxlaw26.AgeLast': WHATEVER THE INPUT: true; the input reads as it did. -/
def ageLastSpec : ChangeSpec := { name := "ageLast", fn := fun _ => fun
  | [d1, d2] => { results := [.lit (.bool true)], args := [d1, d2] }
  | _ => none }
def ageLastRow : OpenClaim := { program := "ytbmpocalapgmjac", sum := "50fcf9a827053cfca8d93068427ea802af3d68e329e1bdf9ff32530aeb90e90a", func := "lockbox/lockboxlaw26.AgeLast", spec := "ageLast", unfollowed := true, recurses := true, apart := false }
def AgeLastSaid : Prop := ageLastRow.holds Try.pinned (OpenSpec.ofChange ageLastSpec)

/-- ITS FALSE NEIGHBOUR: 'it returns false'. Refute it at one input. -/
def ageLastWrong : ChangeSpec := { name := "ageLast", fn := fun _ => fun
  | [d1, d2] => { results := [.lit (.bool false)], args := [d1, d2] }
  | _ => none }
def AgeLastWrongFalsely : Prop := ageLastRow.holds Try.pinned (OpenSpec.ofChange ageLastWrong)

/-- 'lockboxlaw24.IndexMoves': WHATEVER THE INPUT: true; the input reads as it did. -/
def indexMovesSpec : ChangeSpec := { name := "indexMoves", fn := fun _ => fun
  | [d1, d2] => { results := [.lit (.bool true)], args := [d1, d2] }
  | _ => none }
def indexMovesRow : OpenClaim := { program := "ytbmpocalapgmjac", sum := "50fcf9a827053cfca8d93068427ea802af3d68e329e1bdf9ff32530aeb90e90a", func := "lockbox/lockboxlaw24.IndexMoves", spec := "indexMoves", unfollowed := true, recurses := true, apart := false }
def IndexMovesSaid : Prop := indexMovesRow.holds Try.pinned (OpenSpec.ofChange indexMovesSpec)

/-- ITS FALSE NEIGHBOUR: 'it returns false'. Refute it at one input. -/
def indexMovesWrong : ChangeSpec := { name := "indexMoves", fn := fun _ => fun
  | [d1, d2] => { results := [.lit (.bool false)], args := [d1, d2] }
  | _ => none }
def IndexMovesWrongFalsely : Prop := indexMovesRow.holds Try.pinned (OpenSpec.ofChange indexMovesWrong)

/-- 'lockboxlaw24.IndexPlays': WHATEVER THE INPUT: true; the input reads as it did. -/
def indexPlaysSpec : ChangeSpec := { name := "indexPlays", fn := fun _ => fun
  | [d] => { results := [.lit (.bool true)], args := [d] }
  | _ => none }
def indexPlaysRow : OpenClaim := { program := "ytbmpocalapgmjac", sum := "50fcf9a827053cfca8d93068427ea802af3d68e329e1bdf9ff32530aeb90e90a", func := "lockbox/lockboxlaw24.IndexPlays", spec := "indexPlays", unfollowed := true, recurses := true, apart := false }
def IndexPlaysSaid : Prop := indexPlaysRow.holds Try.pinned (OpenSpec.ofChange indexPlaysSpec)

/-- ITS FALSE NEIGHBOUR: 'it returns false'. Refute it at one input. -/
def indexPlaysWrong : ChangeSpec := { name := "indexPlays", fn := fun _ => fun
  | [d] => { results := [.lit (.bool false)], args := [d] }
  | _ => none }
def IndexPlaysWrongFalsely : Prop := indexPlaysRow.holds Try.pinned (OpenSpec.ofChange indexPlaysWrong)

/-- 'lockboxlaw24.IndexOne': WHATEVER THE INPUT: true; the input reads as it did. -/
def indexOneSpec : ChangeSpec := { name := "indexOne", fn := fun _ => fun
  | [d1, d2, d3, d4] => { results := [.lit (.bool true)], args := [d1, d2, d3, d4] }
  | _ => none }
def indexOneRow : OpenClaim := { program := "ytbmpocalapgmjac", sum := "50fcf9a827053cfca8d93068427ea802af3d68e329e1bdf9ff32530aeb90e90a", func := "lockbox/lockboxlaw24.IndexOne", spec := "indexOne", unfollowed := true, recurses := true, apart := false }
def IndexOneSaid : Prop := indexOneRow.holds Try.pinned (OpenSpec.ofChange indexOneSpec)

/-- ITS FALSE NEIGHBOUR: 'it returns false'. Refute it at one input. -/
def indexOneWrong : ChangeSpec := { name := "indexOne", fn := fun _ => fun
  | [d1, d2, d3, d4] => { results := [.lit (.bool false)], args := [d1, d2, d3, d4] }
  | _ => none }
def IndexOneWrongFalsely : Prop := indexOneRow.holds Try.pinned (OpenSpec.ofChange indexOneWrong)

/- THE SECOND FORM. 'bulk': how many values and letters a reading holds, each counted each time it is reached (what is shared counts as often as it is met; a slice's spare places count too). A statement '..UptoSaid' is the law's where the arguments, and the package variables that the reading takes, are together of bulk at most 1048576: NARROWER than '..Said'. Prove '..Said' where nothing that the law and all that it calls make is longer than what came in: it says more and counts as full. Else prove '..UptoSaid'. A law counts once. -/
mutual
def uptoBulk {H : Type} : DataW H → Nat
  | .lit (.string bytes) => bytes.length + 1
  | .lit _ => 1
  | .nil => 1
  | .ptr d => uptoBulk d + 1
  | .slice elems spare => uptoBulkAll elems + uptoBulkAll spare + 1
  | .agg parts => uptoBulkAll parts + 1
  | .iface _ d => uptoBulk d + 1
  | .map entries => uptoBulkEntries entries + 1
  | .held _ => 1
def uptoBulkAll {H : Type} : List (DataW H) → Nat
  | [] => 0
  | d :: r => uptoBulk d + uptoBulkAll r
def uptoBulkEntries {H : Type} : List (Lit × DataW H) → Nat
  | [] => 0
  | x :: r => uptoBulkEntry x + uptoBulkEntries r
def uptoBulkEntry {H : Type} : Lit × DataW H → Nat
  | (.string bytes, d) => bytes.length + uptoBulk d + 1
  | (_, d) => uptoBulk d + 1
 end
def uptoSmall : (H : Type) → List (DataW H) → Bool := fun _ ds => decide (uptoBulkAll ds ≤ 1048576)
def OpenSpec.upto (s : _root_.Go.ChangeSpec) : _root_.Go.OpenSpec := { _root_.Go.OpenSpec.ofChange s with cond := some uptoSmall }

/-- 'lockboxlaw26.AgePlays', WHERE WHAT IT READS IS OF BULK AT MOST 1048576: true; the input reads as it did. -/
def agePlaysUptoRow : OpenClaim := { program := "ytbmpocalapgmjac", sum := "50fcf9a827053cfca8d93068427ea802af3d68e329e1bdf9ff32530aeb90e90a", func := "lockbox/lockboxlaw26.AgePlays", spec := "agePlays", unfollowed := true, recurses := true, apart := false, narrowed := true }
def AgePlaysUptoSaid : Prop := agePlaysUptoRow.holds Try.pinned (OpenSpec.upto agePlaysSpec)

/-- 'lockboxlaw26.AgeOrder', WHERE WHAT IT READS IS OF BULK AT MOST 1048576: true; the input reads as it did. -/
def ageOrderUptoRow : OpenClaim := { program := "ytbmpocalapgmjac", sum := "50fcf9a827053cfca8d93068427ea802af3d68e329e1bdf9ff32530aeb90e90a", func := "lockbox/lockboxlaw26.AgeOrder", spec := "ageOrder", unfollowed := true, recurses := true, apart := false, narrowed := true }
def AgeOrderUptoSaid : Prop := ageOrderUptoRow.holds Try.pinned (OpenSpec.upto ageOrderSpec)

/-- 'lockboxlaw26.AgeLast', WHERE WHAT IT READS IS OF BULK AT MOST 1048576: true; the input reads as it did. -/
def ageLastUptoRow : OpenClaim := { program := "ytbmpocalapgmjac", sum := "50fcf9a827053cfca8d93068427ea802af3d68e329e1bdf9ff32530aeb90e90a", func := "lockbox/lockboxlaw26.AgeLast", spec := "ageLast", unfollowed := true, recurses := true, apart := false, narrowed := true }
def AgeLastUptoSaid : Prop := ageLastUptoRow.holds Try.pinned (OpenSpec.upto ageLastSpec)

/-- 'lockboxlaw24.IndexMoves', WHERE WHAT IT READS IS OF BULK AT MOST 1048576: true; the input reads as it did. -/
def indexMovesUptoRow : OpenClaim := { program := "ytbmpocalapgmjac", sum := "50fcf9a827053cfca8d93068427ea802af3d68e329e1bdf9ff32530aeb90e90a", func := "lockbox/lockboxlaw24.IndexMoves", spec := "indexMoves", unfollowed := true, recurses := true, apart := false, narrowed := true }
def IndexMovesUptoSaid : Prop := indexMovesUptoRow.holds Try.pinned (OpenSpec.upto indexMovesSpec)

/-- 'lockboxlaw24.IndexPlays', WHERE WHAT IT READS IS OF BULK AT MOST 1048576: true; the input reads as it did. -/
def indexPlaysUptoRow : OpenClaim := { program := "ytbmpocalapgmjac", sum := "50fcf9a827053cfca8d93068427ea802af3d68e329e1bdf9ff32530aeb90e90a", func := "lockbox/lockboxlaw24.IndexPlays", spec := "indexPlays", unfollowed := true, recurses := true, apart := false, narrowed := true }
def IndexPlaysUptoSaid : Prop := indexPlaysUptoRow.holds Try.pinned (OpenSpec.upto indexPlaysSpec)

/-- 'lockboxlaw24.IndexOne', WHERE WHAT IT READS IS OF BULK AT MOST 1048576: true; the input reads as it did. -/
def indexOneUptoRow : OpenClaim := { program := "ytbmpocalapgmjac", sum := "50fcf9a827053cfca8d93068427ea802af3d68e329e1bdf9ff32530aeb90e90a", func := "lockbox/lockboxlaw24.IndexOne", spec := "indexOne", unfollowed := true, recurses := true, apart := false, narrowed := true }
def IndexOneUptoSaid : Prop := indexOneUptoRow.holds Try.pinned (OpenSpec.upto indexOneSpec)

end Rows
end Go.Proofs.Ytbmpocalapgmjac
