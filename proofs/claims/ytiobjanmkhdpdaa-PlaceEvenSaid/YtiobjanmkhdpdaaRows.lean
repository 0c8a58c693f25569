/-
  No cell of these rows narrows 'for every input' (looked for: loops, veiled, ifaces, maps, wideKeys, modest, calm, conditions, laid).
  DERIVED. THE GIVEN ROWS OF THIS SEAT. 4 by the template 'for every input the law returns true; each argument reads behind the call as it read before'; 0 by the template 'total and deterministic' (their statements: YtiobjanmkhdpdaaTotals.lean).
  GIVEN WITH THE SEED: the statements are not yours to turn. If you find one false, say at which input.
  Laid BY PROGRAM, IN A SANDBOX (cutbox-rows.mjs): the forced cells as the released guide's own fill.sh prints them over the translation 18106cfa1d8d33c2… (all of the seat's roots in one cut). By AI agents, Wed Nov 11 2026. No macro, syntax, notation, axiom, sorry.
-/
import Derived.Test.YtiobjanmkhdpdaaChecked
import GoSem.Claim
import GoSem.ClaimJoined
import GoSem.ClaimMapViews
import Derived.JoinedTies
import Derived.KernelRfl
namespace Go.Proofs.Ytiobjanmkhdpdaa
/- THE CELL 'sum', in the pinned program and in every row, IS THE sha256 OF THE DUMP (.gsa) THAT YtiobjanmkhdpdaaProg.lean LOADS. Nothing in Lean hashes anything: it is a label: what it is worth is what the hold of that sum in a sandbox is worth. -/
noncomputable def Try.pinned : Pinned := { name := "ytiobjanmkhdpdaa", sum := "18106cfa1d8d33c2a30b7b67cbd488fbb0d68cbaf896a2ad5e789239ee802fa5", checked := Try.checked }
namespace Rows
def none {H : Type} : Left H := { results := [], args := [] }

/-- 'haystacklaw20.PlaceSpreads': WHATEVER THE INPUT: true; the input reads as it did. -/
def placeSpreadsSpec : ChangeSpec := { name := "placeSpreads", fn := fun _ => fun
  | [d1, d2, d3] => { results := [.lit (.bool true)], args := [d1, d2, d3] }
  | _ => none }
def placeSpreadsRow : OpenClaim := { program := "ytiobjanmkhdpdaa", sum := "18106cfa1d8d33c2a30b7b67cbd488fbb0d68cbaf896a2ad5e789239ee802fa5", func := "haystack/haystacklaw20.PlaceSpreads", spec := "placeSpreads", recurses := true, apart := false }
def PlaceSpreadsSaid : Prop := placeSpreadsRow.holds Try.pinned (OpenSpec.ofChange placeSpreadsSpec)

/-- ITS FALSE NEIGHBOUR: 'it returns false'. Refute it at one input. -/
def placeSpreadsWrong : ChangeSpec := { name := "placeSpreads", fn := fun _ => fun
  | [d1, d2, d3] => { results := [.lit (.bool false)], args := [d1, d2, d3] }
  | _ => none }
def PlaceSpreadsWrongFalsely : Prop := placeSpreadsRow.holds Try.pinned (OpenSpec.ofChange placeSpreadsWrong)

/-- 'haystacklaw20.PlaceEven': WHATEVER THE INPUT: true; the input reads as it did. -/
def placeEvenSpec : ChangeSpec := { name := "placeEven", fn := fun _ => fun
  | [d1, d2, d3] => { results := [.lit (.bool true)], args := [d1, d2, d3] }
  | _ => none }
def placeEvenRow : OpenClaim := { program := "ytiobjanmkhdpdaa", sum := "18106cfa1d8d33c2a30b7b67cbd488fbb0d68cbaf896a2ad5e789239ee802fa5", func := "haystack/haystacklaw20.PlaceEven", spec := "placeEven", recurses := true, apart := false }
def PlaceEvenSaid : Prop := placeEvenRow.holds Try.pinned (OpenSpec.ofChange placeEvenSpec)

/-- ITS FALSE NEIGHBOUR: 'it returns false'. Refute it at one input. -/
def placeEvenWrong : ChangeSpec := { name := "placeEven", fn := fun _ => fun
  | [d1, d2, d3] => { results := [.lit (.bool false)], args := [d1, d2, d3] }
  | _ => none }
def PlaceEvenWrongFalsely : Prop := placeEvenRow.holds Try.pinned (OpenSpec.ofChange placeEvenWrong)

/-- 'haystacklaw20.PlaceHashes': WHATEVER THE INPUT: true; the input reads as it did. -/
def placeHashesSpec : ChangeSpec := { name := "placeHashes", fn := fun _ => fun
  | [d1, d2] => { results := [.lit (.bool true)], args := [d1, d2] }
  | _ => none }
def placeHashesRow : OpenClaim := { program := "ytiobjanmkhdpdaa", sum := "18106cfa1d8d33c2a30b7b67cbd488fbb0d68cbaf896a2ad5e789239ee802fa5", func := "haystack/haystacklaw20.PlaceHashes", spec := "placeHashes", recurses := true, apart := false }
def PlaceHashesSaid : Prop := placeHashesRow.holds Try.pinned (OpenSpec.ofChange placeHashesSpec)

/-- ITS FALSE NEIGHBOUR: 'it returns false'. Refute it at one input. -/
def placeHashesWrong : ChangeSpec := { name := "placeHashes", fn := fun _ => fun
  | [d1, d2] => { results := [.lit (.bool false)], args := [d1, d2] }
  | _ => none }
def PlaceHashesWrongFalsely : Prop := placeHashesRow.holds Try.pinned (OpenSpec.ofChange placeHashesWrong)

/-- 'haystacklaw20.PlaceGoes': WHATEVER THE INPUT: true; the input reads as it did. -/
def placeGoesSpec : ChangeSpec := { name := "placeGoes", fn := fun _ => fun
  | [d1, d2] => { results := [.lit (.bool true)], args := [d1, d2] }
  | _ => none }
def placeGoesRow : OpenClaim := { program := "ytiobjanmkhdpdaa", sum := "18106cfa1d8d33c2a30b7b67cbd488fbb0d68cbaf896a2ad5e789239ee802fa5", func := "haystack/haystacklaw20.PlaceGoes", spec := "placeGoes", recurses := true, apart := false }
def PlaceGoesSaid : Prop := placeGoesRow.holds Try.pinned (OpenSpec.ofChange placeGoesSpec)

/-- ITS FALSE NEIGHBOUR: 'it returns false'. Refute it at one input. -/
def placeGoesWrong : ChangeSpec := { name := "placeGoes", fn := fun _ => fun
  | [d1, d2] => { results := [.lit (.bool false)], args := [d1, d2] }
  | _ => none }
def PlaceGoesWrongFalsely : Prop := placeGoesRow.holds Try.pinned (OpenSpec.ofChange placeGoesWrong)

/- THE SECOND FORM. 'bulk': how many values and letters a reading holds, each counted each time it is reached (what is shared counts as often as it is met; a slice's spare places count too). A statement '..UptoSaid' is the law's where the arguments, and the package variables that the reading takes, are together of bulk at most 1048576: NARROWER than '..Said'. Prove '..Said' where nothing that the law and all that it calls make is longer than what came in: it says more and counts as full. Else prove '..UptoSaid'. A law counts once. -/
mutual
def uptoBulk {H : Type} : DataW H → Nat
  | .lit (.string bytes) => bytes.length + 1
  | .lit _ => 1
  | .nil => 1
  | .ptr d => uptoBulk d + 1
  | .slice elems spare => uptoBulkAll elems + uptoBulkAll spare + 1
  | .agg parts => uptoBulkAll parts + 1
  | .iface _ d => uptoBulk d + 1
  | .map entries => uptoBulkEntries entries + 1
  | .held _ => 1
def uptoBulkAll {H : Type} : List (DataW H) → Nat
  | [] => 0
  | d :: r => uptoBulk d + uptoBulkAll r
def uptoBulkEntries {H : Type} : List (Lit × DataW H) → Nat
  | [] => 0
  | x :: r => uptoBulkEntry x + uptoBulkEntries r
def uptoBulkEntry {H : Type} : Lit × DataW H → Nat
  | (.string bytes, d) => bytes.length + uptoBulk d + 1
  | (_, d) => uptoBulk d + 1
 end
def uptoSmall : (H : Type) → List (DataW H) → Bool := fun _ ds => decide (uptoBulkAll ds ≤ 1048576)
def OpenSpec.upto (s : _root_.Go.ChangeSpec) : _root_.Go.OpenSpec := { _root_.Go.OpenSpec.ofChange s with cond := some uptoSmall }

/-- 'haystacklaw20.PlaceSpreads', WHERE WHAT IT READS IS OF BULK AT MOST 1048576: true; the input reads as it did. -/
def placeSpreadsUptoRow : OpenClaim := { program := "ytiobjanmkhdpdaa", sum := "18106cfa1d8d33c2a30b7b67cbd488fbb0d68cbaf896a2ad5e789239ee802fa5", func := "haystack/haystacklaw20.PlaceSpreads", spec := "placeSpreads", recurses := true, apart := false, narrowed := true }
def PlaceSpreadsUptoSaid : Prop := placeSpreadsUptoRow.holds Try.pinned (OpenSpec.upto placeSpreadsSpec)

/-- 'haystacklaw20.PlaceEven', WHERE WHAT IT READS IS OF BULK AT MOST 1048576: true; the input reads as it did. -/
def placeEvenUptoRow : OpenClaim := { program := "ytiobjanmkhdpdaa", sum := "18106cfa1d8d33c2a30b7b67cbd488fbb0d68cbaf896a2ad5e789239ee802fa5", func := "haystack/haystacklaw20.PlaceEven", spec := "placeEven", recurses := true, apart := false, narrowed := true }
def PlaceEvenUptoSaid : Prop := placeEvenUptoRow.holds Try.pinned (OpenSpec.upto placeEvenSpec)

/-- 'haystacklaw20.PlaceHashes', WHERE WHAT IT READS IS OF BULK AT MOST 1048576: true; the input reads as it did. -/
def placeHashesUptoRow : OpenClaim := { program := "ytiobjanmkhdpdaa", sum := "18106cfa1d8d33c2a30b7b67cbd488fbb0d68cbaf896a2ad5e789239ee802fa5", func := "haystack/haystacklaw20.PlaceHashes", spec := "placeHashes", recurses := true, apart := false, narrowed := true }
def PlaceHashesUptoSaid : Prop := placeHashesUptoRow.holds Try.pinned (OpenSpec.upto placeHashesSpec)

/-- 'haystacklaw20.PlaceGoes', WHERE WHAT IT READS IS OF BULK AT MOST 1048576: true; the input reads as it did. -/
def placeGoesUptoRow : OpenClaim := { program := "ytiobjanmkhdpdaa", sum := "18106cfa1d8d33c2a30b7b67cbd488fbb0d68cbaf896a2ad5e789239ee802fa5", func := "haystack/haystacklaw20.PlaceGoes", spec := "placeGoes", recurses := true, apart := false, narrowed := true }
def PlaceGoesUptoSaid : Prop := placeGoesUptoRow.holds Try.pinned (OpenSpec.upto placeGoesSpec)

end Rows
end Go.Proofs.Ytiobjanmkhdpdaa
