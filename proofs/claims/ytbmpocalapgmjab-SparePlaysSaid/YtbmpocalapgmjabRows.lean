/-
  No cell of these rows narrows 'for every input' (looked for: loops, veiled, ifaces, maps, wideKeys, modest, calm, conditions, laid).
  DERIVED. THE GIVEN ROWS OF THIS SEAT. 6 by the template 'for every input the law returns true; each argument reads behind the call as it read before'; 0 by the template 'total and deterministic' (their statements: YtbmpocalapgmjabTotals.lean).
  GIVEN WITH THE SEED: the statements are not yours to turn. If you find one false, say at which input.
  Laid BY PROGRAM, IN A SANDBOX (cutbox-rows.mjs): the forced cells as the released guide's own fill.sh prints them over the translation 759c624750eebd15… (all of the seat's roots in one cut). By AI agents, Wed Nov 11 2026. No macro, syntax, notation, axiom, sorry.
-/
import Derived.Test.YtbmpocalapgmjabChecked
import GoSem.Claim
import GoSem.ClaimJoined
import GoSem.ClaimMapViews
import Derived.JoinedTies
import Derived.KernelRfl
namespace Go.Proofs.Ytbmpocalapgmjab
/- THE CELL 'sum', in the pinned program and in every row, IS THE sha256 OF THE DUMP (.gsa) THAT YtbmpocalapgmjabProg.lean LOADS. Nothing in Lean hashes anything: it is a label: what it is worth is what the hold of that sum in a sandbox is worth. -/
noncomputable def Try.pinned : Pinned := { name := "ytbmpocalapgmjab", sum := "759c624750eebd159d4e44306084428d98efc021740a1abec8d99e689a517de8", checked := Try.checked }
namespace Rows
def none {H : Type} : Left H := { results := [], args := [] }

/-- 'lockboxlaw27.ModelLasts': WHATEVER THE INPUT: true; the input reads as it did. -/
def modelLastsSpec : ChangeSpec := { name := "modelLasts", fn := fun _ => fun
  | [d1, d2, d3] => { results := [.lit (.bool true)], args := [d1, d2, d3] }
  | _ => none }
def modelLastsRow : OpenClaim := { program := "ytbmpocalapgmjab", sum := "759c624750eebd159d4e44306084428d98efc021740a1abec8d99e689a517de8", func := "lockbox/lockboxlaw27.ModelLasts", spec := "modelLasts", apart := false }
def ModelLastsSaid : Prop := modelLastsRow.holds Try.pinned (OpenSpec.ofChange modelLastsSpec)

/-- ITS FALSE NEIGHBOUR: 'it returns false'. Refute it at one input. -/
def modelLastsWrong : ChangeSpec := { name := "modelLasts", fn := fun _ => fun
  | [d1, d2, d3] => { results := [.lit (.bool false)], args := [d1, d2, d3] }
  | _ => none }
def ModelLastsWrongFalsely : Prop := modelLastsRow.holds Try.pinned (OpenSpec.ofChange modelLastsWrong)

/-- 'lockboxlaw27.ModelPlays': WHATEVER THE INPUT: true; the input reads as it did. -/
def modelPlaysSpec : ChangeSpec := { name := "modelPlays", fn := fun _ => fun
  | [d1, d2] => { results := [.lit (.bool true)], args := [d1, d2] }
  | _ => none }
def modelPlaysRow : OpenClaim := { program := "ytbmpocalapgmjab", sum := "759c624750eebd159d4e44306084428d98efc021740a1abec8d99e689a517de8", func := "lockbox/lockboxlaw27.ModelPlays", spec := "modelPlays", apart := false }
def ModelPlaysSaid : Prop := modelPlaysRow.holds Try.pinned (OpenSpec.ofChange modelPlaysSpec)

/-- ITS FALSE NEIGHBOUR: 'it returns false'. Refute it at one input. -/
def modelPlaysWrong : ChangeSpec := { name := "modelPlays", fn := fun _ => fun
  | [d1, d2] => { results := [.lit (.bool false)], args := [d1, d2] }
  | _ => none }
def ModelPlaysWrongFalsely : Prop := modelPlaysRow.holds Try.pinned (OpenSpec.ofChange modelPlaysWrong)

/-- 'lockboxlaw27.ModelOwn': WHATEVER THE INPUT: true; the input reads as it did. -/
def modelOwnSpec : ChangeSpec := { name := "modelOwn", fn := fun _ => fun
  | [d1, d2] => { results := [.lit (.bool true)], args := [d1, d2] }
  | _ => none }
def modelOwnRow : OpenClaim := { program := "ytbmpocalapgmjab", sum := "759c624750eebd159d4e44306084428d98efc021740a1abec8d99e689a517de8", func := "lockbox/lockboxlaw27.ModelOwn", spec := "modelOwn", apart := false }
def ModelOwnSaid : Prop := modelOwnRow.holds Try.pinned (OpenSpec.ofChange modelOwnSpec)

/-- ITS FALSE NEIGHBOUR: 'it returns false'. Refute it at one input. -/
def modelOwnWrong : ChangeSpec := { name := "modelOwn", fn := fun _ => fun
  | [d1, d2] => { results := [.lit (.bool false)], args := [d1, d2] }
  | _ => none }
def ModelOwnWrongFalsely : Prop := modelOwnRow.holds Try.pinned (OpenSpec.ofChange modelOwnWrong)

/-- 'lockboxlaw25.SparePlays': WHATEVER THE INPUT: true; the input reads as it did. -/
def sparePlaysSpec : ChangeSpec := { name := "sparePlays", fn := fun _ => fun
  | [d1, d2] => { results := [.lit (.bool true)], args := [d1, d2] }
  | _ => none }
def sparePlaysRow : OpenClaim := { program := "ytbmpocalapgmjab", sum := "759c624750eebd159d4e44306084428d98efc021740a1abec8d99e689a517de8", func := "lockbox/lockboxlaw25.SparePlays", spec := "sparePlays", unfollowed := true, recurses := true, apart := false }
def SparePlaysSaid : Prop := sparePlaysRow.holds Try.pinned (OpenSpec.ofChange sparePlaysSpec)

/-- ITS FALSE NEIGHBOUR: 'it returns false'. Refute it at one input. -/
def sparePlaysWrong : ChangeSpec := { name := "sparePlays", fn := fun _ => fun
  | [d1, d2] => { results := [.lit (.bool false)], args := [d1, d2] }
  | _ => none }
def SparePlaysWrongFalsely : Prop := sparePlaysRow.holds Try.pinned (OpenSpec.ofChange sparePlaysWrong)

/-- 'lockboxlaw25.SpareRises': WHATEVER THE INPUT: true; the input reads as it did. -/
def spareRisesSpec : ChangeSpec := { name := "spareRises", fn := fun _ => fun
  | [d] => { results := [.lit (.bool true)], args := [d] }
  | _ => none }
def spareRisesRow : OpenClaim := { program := "ytbmpocalapgmjab", sum := "759c624750eebd159d4e44306084428d98efc021740a1abec8d99e689a517de8", func := "lockbox/lockboxlaw25.SpareRises", spec := "spareRises", unfollowed := true, recurses := true, apart := false }
def SpareRisesSaid : Prop := spareRisesRow.holds Try.pinned (OpenSpec.ofChange spareRisesSpec)

/-- ITS FALSE NEIGHBOUR: 'it returns false'. Refute it at one input. -/
def spareRisesWrong : ChangeSpec := { name := "spareRises", fn := fun _ => fun
  | [d] => { results := [.lit (.bool false)], args := [d] }
  | _ => none }
def SpareRisesWrongFalsely : Prop := spareRisesRow.holds Try.pinned (OpenSpec.ofChange spareRisesWrong)

/-- 'lockboxlaw25.SpareBack': WHATEVER THE INPUT: true; the input reads as it did. -/
def spareBackSpec : ChangeSpec := { name := "spareBack", fn := fun _ => fun
  | [d1, d2] => { results := [.lit (.bool true)], args := [d1, d2] }
  | _ => none }
def spareBackRow : OpenClaim := { program := "ytbmpocalapgmjab", sum := "759c624750eebd159d4e44306084428d98efc021740a1abec8d99e689a517de8", func := "lockbox/lockboxlaw25.SpareBack", spec := "spareBack", unfollowed := true, recurses := true, apart := false }
def SpareBackSaid : Prop := spareBackRow.holds Try.pinned (OpenSpec.ofChange spareBackSpec)

/-- ITS FALSE NEIGHBOUR: 'it returns false'. Refute it at one input. -/
def spareBackWrong : ChangeSpec := { name := "spareBack", fn := fun _ => fun
  | [d1, d2] => { results := [.lit (.bool false)], args := [d1, d2] }
  | _ => none }
def SpareBackWrongFalsely : Prop := spareBackRow.holds Try.pinned (OpenSpec.ofChange spareBackWrong)

/- THE SECOND FORM. 'bulk': how many values and letters a reading holds, each counted each time it is reached (what is shared counts as often as it is met; a slice's spare places count too). A statement '..UptoSaid' is the law's where the arguments, and the package variables that the reading takes, are together of bulk at most 1048576: NARROWER than '..Said'. Prove '..Said' where nothing that the law and all that it calls make is longer than what came in: it says more and counts as full. Else prove '..UptoSaid'. A law counts once. -/
mutual
def uptoBulk {H : Type} : DataW H → Nat
  | .lit (.string bytes) => bytes.length + 1
  | .lit _ => 1
  | .nil => 1
  | .ptr d => uptoBulk d + 1
  | .slice elems spare => uptoBulkAll elems + uptoBulkAll spare + 1
  | .agg parts => uptoBulkAll parts + 1
  | .iface _ d => uptoBulk d + 1
  | .map entries => uptoBulkEntries entries + 1
  | .held _ => 1
def uptoBulkAll {H : Type} : List (DataW H) → Nat
  | [] => 0
  | d :: r => uptoBulk d + uptoBulkAll r
def uptoBulkEntries {H : Type} : List (Lit × DataW H) → Nat
  | [] => 0
  | x :: r => uptoBulkEntry x + uptoBulkEntries r
def uptoBulkEntry {H : Type} : Lit × DataW H → Nat
  | (.string bytes, d) => bytes.length + uptoBulk d + 1
  | (_, d) => uptoBulk d + 1
 end
def uptoSmall : (H : Type) → List (DataW H) → Bool := fun _ ds => decide (uptoBulkAll ds ≤ 1048576)
def OpenSpec.upto (s : _root_.Go.ChangeSpec) : _root_.Go.OpenSpec := { _root_.Go.OpenSpec.ofChange s with cond := some uptoSmall }

/-- 'lockboxlaw27.ModelLasts', WHERE WHAT IT READS IS OF BULK AT MOST 1048576: true; the input reads as it did. -/
def modelLastsUptoRow : OpenClaim := { program := "ytbmpocalapgmjab", sum := "759c624750eebd159d4e44306084428d98efc021740a1abec8d99e689a517de8", func := "lockbox/lockboxlaw27.ModelLasts", spec := "modelLasts", apart := false, narrowed := true }
def ModelLastsUptoSaid : Prop := modelLastsUptoRow.holds Try.pinned (OpenSpec.upto modelLastsSpec)

/-- 'lockboxlaw27.ModelPlays', WHERE WHAT IT READS IS OF BULK AT MOST 1048576: true; the input reads as it did. -/
def modelPlaysUptoRow : OpenClaim := { program := "ytbmpocalapgmjab", sum := "759c624750eebd159d4e44306084428d98efc021740a1abec8d99e689a517de8", func := "lockbox/lockboxlaw27.ModelPlays", spec := "modelPlays", apart := false, narrowed := true }
def ModelPlaysUptoSaid : Prop := modelPlaysUptoRow.holds Try.pinned (OpenSpec.upto modelPlaysSpec)

/-- 'lockboxlaw27.ModelOwn', WHERE WHAT IT READS IS OF BULK AT MOST 1048576: true; the input reads as it did. -/
def modelOwnUptoRow : OpenClaim := { program := "ytbmpocalapgmjab", sum := "759c624750eebd159d4e44306084428d98efc021740a1abec8d99e689a517de8", func := "lockbox/lockboxlaw27.ModelOwn", spec := "modelOwn", apart := false, narrowed := true }
def ModelOwnUptoSaid : Prop := modelOwnUptoRow.holds Try.pinned (OpenSpec.upto modelOwnSpec)

/-- 'lockboxlaw25.SparePlays', WHERE WHAT IT READS IS OF BULK AT MOST 1048576: true; the input reads as it did. -/
def sparePlaysUptoRow : OpenClaim := { program := "ytbmpocalapgmjab", sum := "759c624750eebd159d4e44306084428d98efc021740a1abec8d99e689a517de8", func := "lockbox/lockboxlaw25.SparePlays", spec := "sparePlays", unfollowed := true, recurses := true, apart := false, narrowed := true }
def SparePlaysUptoSaid : Prop := sparePlaysUptoRow.holds Try.pinned (OpenSpec.upto sparePlaysSpec)

/-- 'lockboxlaw25.SpareRises', WHERE WHAT IT READS IS OF BULK AT MOST 1048576: true; the input reads as it did. -/
def spareRisesUptoRow : OpenClaim := { program := "ytbmpocalapgmjab", sum := "759c624750eebd159d4e44306084428d98efc021740a1abec8d99e689a517de8", func := "lockbox/lockboxlaw25.SpareRises", spec := "spareRises", unfollowed := true, recurses := true, apart := false, narrowed := true }
def SpareRisesUptoSaid : Prop := spareRisesUptoRow.holds Try.pinned (OpenSpec.upto spareRisesSpec)

/-- 'lockboxlaw25.SpareBack', WHERE WHAT IT READS IS OF BULK AT MOST 1048576: true; the input reads as it did. -/
def spareBackUptoRow : OpenClaim := { program := "ytbmpocalapgmjab", sum := "759c624750eebd159d4e44306084428d98efc021740a1abec8d99e689a517de8", func := "lockbox/lockboxlaw25.SpareBack", spec := "spareBack", unfollowed := true, recurses := true, apart := false, narrowed := true }
def SpareBackUptoSaid : Prop := spareBackUptoRow.holds Try.pinned (OpenSpec.upto spareBackSpec)

end Rows
end Go.Proofs.Ytbmpocalapgmjab
