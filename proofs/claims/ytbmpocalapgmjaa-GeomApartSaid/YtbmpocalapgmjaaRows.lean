/-
  No cell of these rows narrows 'for every input' (looked for: loops, veiled, ifaces, maps, wideKeys, modest, calm, conditions, laid).
  DERIVED. THE GIVEN ROWS OF THIS SEAT. 6 by the template 'for every input the law returns true; each argument reads behind the call as it read before'; 0 by the template 'total and deterministic' (their statements: YtbmpocalapgmjaaTotals.lean).
  GIVEN WITH THE SEED: the statements are not yours to turn. If you find one false, say at which input.
  Laid BY PROGRAM, IN A SANDBOX (cutbox-rows.mjs): the forced cells as the released guide's own fill.sh prints them over the translation 6d2cae703458e500… (all of the seat's roots in one cut). By AI agents, Wed Nov 11 2026. No macro, syntax, notation, axiom, sorry.
-/
import Derived.Test.YtbmpocalapgmjaaChecked
import GoSem.Claim
import GoSem.ClaimJoined
import GoSem.ClaimMapViews
import Derived.JoinedTies
import Derived.KernelRfl
namespace Go.Proofs.Ytbmpocalapgmjaa
/- THE CELL 'sum', in the pinned program and in every row, IS THE sha256 OF THE DUMP (.gsa) THAT YtbmpocalapgmjaaProg.lean LOADS. Nothing in Lean hashes anything: it is a label: what it is worth is what the hold of that sum in a sandbox is worth. -/
noncomputable def Try.pinned : Pinned := { name := "ytbmpocalapgmjaa", sum := "6d2cae703458e500931145daf29628e7392932e6b22aa77fb9521e9226690569", checked := Try.checked }
namespace Rows
def none {H : Type} : Left H := { results := [], args := [] }

/-- 'lockboxlaw9.NoncePlays': WHATEVER THE INPUT: true; the input reads as it did. -/
def noncePlaysSpec : ChangeSpec := { name := "noncePlays", fn := fun _ => fun
  | [d1, d2, d3] => { results := [.lit (.bool true)], args := [d1, d2, d3] }
  | _ => none }
def noncePlaysRow : OpenClaim := { program := "ytbmpocalapgmjaa", sum := "6d2cae703458e500931145daf29628e7392932e6b22aa77fb9521e9226690569", func := "lockbox/lockboxlaw9.NoncePlays", spec := "noncePlays", apart := false }
def NoncePlaysSaid : Prop := noncePlaysRow.holds Try.pinned (OpenSpec.ofChange noncePlaysSpec)

/-- ITS FALSE NEIGHBOUR: 'it returns false'. Refute it at one input. -/
def noncePlaysWrong : ChangeSpec := { name := "noncePlays", fn := fun _ => fun
  | [d1, d2, d3] => { results := [.lit (.bool false)], args := [d1, d2, d3] }
  | _ => none }
def NoncePlaysWrongFalsely : Prop := noncePlaysRow.holds Try.pinned (OpenSpec.ofChange noncePlaysWrong)

/-- 'lockboxlaw9.NonceEnds': WHATEVER THE INPUT: true; the input reads as it did. -/
def nonceEndsSpec : ChangeSpec := { name := "nonceEnds", fn := fun _ => fun
  | [d1, d2] => { results := [.lit (.bool true)], args := [d1, d2] }
  | _ => none }
def nonceEndsRow : OpenClaim := { program := "ytbmpocalapgmjaa", sum := "6d2cae703458e500931145daf29628e7392932e6b22aa77fb9521e9226690569", func := "lockbox/lockboxlaw9.NonceEnds", spec := "nonceEnds", apart := false }
def NonceEndsSaid : Prop := nonceEndsRow.holds Try.pinned (OpenSpec.ofChange nonceEndsSpec)

/-- ITS FALSE NEIGHBOUR: 'it returns false'. Refute it at one input. -/
def nonceEndsWrong : ChangeSpec := { name := "nonceEnds", fn := fun _ => fun
  | [d1, d2] => { results := [.lit (.bool false)], args := [d1, d2] }
  | _ => none }
def NonceEndsWrongFalsely : Prop := nonceEndsRow.holds Try.pinned (OpenSpec.ofChange nonceEndsWrong)

/-- 'lockboxlaw9.NonceOnce': WHATEVER THE INPUT: true; the input reads as it did. -/
def nonceOnceSpec : ChangeSpec := { name := "nonceOnce", fn := fun _ => fun
  | [d1, d2, d3, d4, d5] => { results := [.lit (.bool true)], args := [d1, d2, d3, d4, d5] }
  | _ => none }
def nonceOnceRow : OpenClaim := { program := "ytbmpocalapgmjaa", sum := "6d2cae703458e500931145daf29628e7392932e6b22aa77fb9521e9226690569", func := "lockbox/lockboxlaw9.NonceOnce", spec := "nonceOnce", apart := false }
def NonceOnceSaid : Prop := nonceOnceRow.holds Try.pinned (OpenSpec.ofChange nonceOnceSpec)

/-- ITS FALSE NEIGHBOUR: 'it returns false'. Refute it at one input. -/
def nonceOnceWrong : ChangeSpec := { name := "nonceOnce", fn := fun _ => fun
  | [d1, d2, d3, d4, d5] => { results := [.lit (.bool false)], args := [d1, d2, d3, d4, d5] }
  | _ => none }
def NonceOnceWrongFalsely : Prop := nonceOnceRow.holds Try.pinned (OpenSpec.ofChange nonceOnceWrong)

/-- 'lockboxlaw9.NonceSlots': WHATEVER THE INPUT: true; the input reads as it did. -/
def nonceSlotsSpec : ChangeSpec := { name := "nonceSlots", fn := fun _ => fun
  | [d1, d2, d3] => { results := [.lit (.bool true)], args := [d1, d2, d3] }
  | _ => none }
def nonceSlotsRow : OpenClaim := { program := "ytbmpocalapgmjaa", sum := "6d2cae703458e500931145daf29628e7392932e6b22aa77fb9521e9226690569", func := "lockbox/lockboxlaw9.NonceSlots", spec := "nonceSlots", apart := false }
def NonceSlotsSaid : Prop := nonceSlotsRow.holds Try.pinned (OpenSpec.ofChange nonceSlotsSpec)

/-- ITS FALSE NEIGHBOUR: 'it returns false'. Refute it at one input. -/
def nonceSlotsWrong : ChangeSpec := { name := "nonceSlots", fn := fun _ => fun
  | [d1, d2, d3] => { results := [.lit (.bool false)], args := [d1, d2, d3] }
  | _ => none }
def NonceSlotsWrongFalsely : Prop := nonceSlotsRow.holds Try.pinned (OpenSpec.ofChange nonceSlotsWrong)

/-- 'lockboxlaw17.GeomPlaces': WHATEVER THE INPUT: true; the input reads as it did. -/
def geomPlacesSpec : ChangeSpec := { name := "geomPlaces", fn := fun _ => fun
  | [d1, d2, d3] => { results := [.lit (.bool true)], args := [d1, d2, d3] }
  | _ => none }
def geomPlacesRow : OpenClaim := { program := "ytbmpocalapgmjaa", sum := "6d2cae703458e500931145daf29628e7392932e6b22aa77fb9521e9226690569", func := "lockbox/lockboxlaw17.GeomPlaces", spec := "geomPlaces", unfollowed := true, recurses := true, apart := false }
def GeomPlacesSaid : Prop := geomPlacesRow.holds Try.pinned (OpenSpec.ofChange geomPlacesSpec)

/-- ITS FALSE NEIGHBOUR: 'it returns false'. Refute it at one input. -/
def geomPlacesWrong : ChangeSpec := { name := "geomPlaces", fn := fun _ => fun
  | [d1, d2, d3] => { results := [.lit (.bool false)], args := [d1, d2, d3] }
  | _ => none }
def GeomPlacesWrongFalsely : Prop := geomPlacesRow.holds Try.pinned (OpenSpec.ofChange geomPlacesWrong)

/-- 'lockboxlaw17.GeomApart': WHATEVER THE INPUT: true; the input reads as it did. -/
def geomApartSpec : ChangeSpec := { name := "geomApart", fn := fun _ => fun
  | [d] => { results := [.lit (.bool true)], args := [d] }
  | _ => none }
def geomApartRow : OpenClaim := { program := "ytbmpocalapgmjaa", sum := "6d2cae703458e500931145daf29628e7392932e6b22aa77fb9521e9226690569", func := "lockbox/lockboxlaw17.GeomApart", spec := "geomApart", unfollowed := true, recurses := true, apart := false }
def GeomApartSaid : Prop := geomApartRow.holds Try.pinned (OpenSpec.ofChange geomApartSpec)

/-- ITS FALSE NEIGHBOUR: 'it returns false'. Refute it at one input. -/
def geomApartWrong : ChangeSpec := { name := "geomApart", fn := fun _ => fun
  | [d] => { results := [.lit (.bool false)], args := [d] }
  | _ => none }
def GeomApartWrongFalsely : Prop := geomApartRow.holds Try.pinned (OpenSpec.ofChange geomApartWrong)

/- THE SECOND FORM. 'bulk': how many values and letters a reading holds, each counted each time it is reached (what is shared counts as often as it is met; a slice's spare places count too). A statement '..UptoSaid' is the law's where the arguments, and the package variables that the reading takes, are together of bulk at most 1048576: NARROWER than '..Said'. Prove '..Said' where nothing that the law and all that it calls make is longer than what came in: it says more and counts as full. Else prove '..UptoSaid'. A law counts once. -/
mutual
def uptoBulk {H : Type} : DataW H → Nat
  | .lit (.string bytes) => bytes.length + 1
  | .lit _ => 1
  | .nil => 1
  | .ptr d => uptoBulk d + 1
  | .slice elems spare => uptoBulkAll elems + uptoBulkAll spare + 1
  | .agg parts => uptoBulkAll parts + 1
  | .iface _ d => uptoBulk d + 1
  | .map entries => uptoBulkEntries entries + 1
  | .held _ => 1
def uptoBulkAll {H : Type} : List (DataW H) → Nat
  | [] => 0
  | d :: r => uptoBulk d + uptoBulkAll r
def uptoBulkEntries {H : Type} : List (Lit × DataW H) → Nat
  | [] => 0
  | x :: r => uptoBulkEntry x + uptoBulkEntries r
def uptoBulkEntry {H : Type} : Lit × DataW H → Nat
  | (.string bytes, d) => bytes.length + uptoBulk d + 1
  | (_, d) => uptoBulk d + 1
 end
def uptoSmall : (H : Type) → List (DataW H) → Bool := fun _ ds => decide (uptoBulkAll ds ≤ 1048576)
def OpenSpec.upto (s : _root_.Go.ChangeSpec) : _root_.Go.OpenSpec := { _root_.Go.OpenSpec.ofChange s with cond := some uptoSmall }

/-- 'lockboxlaw9.NoncePlays', WHERE WHAT IT READS IS OF BULK AT MOST 1048576: true; the input reads as it did. -/
def noncePlaysUptoRow : OpenClaim := { program := "ytbmpocalapgmjaa", sum := "6d2cae703458e500931145daf29628e7392932e6b22aa77fb9521e9226690569", func := "lockbox/lockboxlaw9.NoncePlays", spec := "noncePlays", apart := false, narrowed := true }
def NoncePlaysUptoSaid : Prop := noncePlaysUptoRow.holds Try.pinned (OpenSpec.upto noncePlaysSpec)

/-- 'lockboxlaw9.NonceEnds', WHERE WHAT IT READS IS OF BULK AT MOST 1048576: true; the input reads as it did. -/
def nonceEndsUptoRow : OpenClaim := { program := "ytbmpocalapgmjaa", sum := "6d2cae703458e500931145daf29628e7392932e6b22aa77fb9521e9226690569", func := "lockbox/lockboxlaw9.NonceEnds", spec := "nonceEnds", apart := false, narrowed := true }
def NonceEndsUptoSaid : Prop := nonceEndsUptoRow.holds Try.pinned (OpenSpec.upto nonceEndsSpec)

/-- 'lockboxlaw9.NonceOnce', WHERE WHAT IT READS IS OF BULK AT MOST 1048576: true; the input reads as it did. -/
def nonceOnceUptoRow : OpenClaim := { program := "ytbmpocalapgmjaa", sum := "6d2cae703458e500931145daf29628e7392932e6b22aa77fb9521e9226690569", func := "lockbox/lockboxlaw9.NonceOnce", spec := "nonceOnce", apart := false, narrowed := true }
def NonceOnceUptoSaid : Prop := nonceOnceUptoRow.holds Try.pinned (OpenSpec.upto nonceOnceSpec)

/-- 'lockboxlaw9.NonceSlots', WHERE WHAT IT READS IS OF BULK AT MOST 1048576: true; the input reads as it did. -/
def nonceSlotsUptoRow : OpenClaim := { program := "ytbmpocalapgmjaa", sum := "6d2cae703458e500931145daf29628e7392932e6b22aa77fb9521e9226690569", func := "lockbox/lockboxlaw9.NonceSlots", spec := "nonceSlots", apart := false, narrowed := true }
def NonceSlotsUptoSaid : Prop := nonceSlotsUptoRow.holds Try.pinned (OpenSpec.upto nonceSlotsSpec)

/-- 'lockboxlaw17.GeomPlaces', WHERE WHAT IT READS IS OF BULK AT MOST 1048576: true; the input reads as it did. -/
def geomPlacesUptoRow : OpenClaim := { program := "ytbmpocalapgmjaa", sum := "6d2cae703458e500931145daf29628e7392932e6b22aa77fb9521e9226690569", func := "lockbox/lockboxlaw17.GeomPlaces", spec := "geomPlaces", unfollowed := true, recurses := true, apart := false, narrowed := true }
def GeomPlacesUptoSaid : Prop := geomPlacesUptoRow.holds Try.pinned (OpenSpec.upto geomPlacesSpec)

/-- 'lockboxlaw17.GeomApart', WHERE WHAT IT READS IS OF BULK AT MOST 1048576: true; the input reads as it did. -/
def geomApartUptoRow : OpenClaim := { program := "ytbmpocalapgmjaa", sum := "6d2cae703458e500931145daf29628e7392932e6b22aa77fb9521e9226690569", func := "lockbox/lockboxlaw17.GeomApart", spec := "geomApart", unfollowed := true, recurses := true, apart := false, narrowed := true }
def GeomApartUptoSaid : Prop := geomApartUptoRow.holds Try.pinned (OpenSpec.upto geomApartSpec)

end Rows
end Go.Proofs.Ytbmpocalapgmjaa
