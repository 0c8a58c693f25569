/-
  No cell of these rows narrows 'for every input' (looked for: loops, veiled, ifaces, maps, wideKeys, modest, calm, conditions, laid).
  DERIVED. THE GIVEN ROWS OF THIS SEAT. 7 by the template 'for every input the law returns true; each argument reads behind the call as it read before'; 0 by the template 'total and deterministic' (their statements: YtenmgimhgdhgmaaTotals.lean).
  GIVEN WITH THE SEED: the statements are not yours to turn. If you find one false, say at which input.
  Laid BY PROGRAM, IN A SANDBOX (cutbox-rows.mjs): the forced cells as the released guide's own fill.sh prints them over the translation f0eb4444640c25f9… (all of the seat's roots in one cut). By AI agents, Wed Nov 11 2026. No macro, syntax, notation, axiom, sorry.
-/
import Derived.Test.YtenmgimhgdhgmaaChecked
import GoSem.Claim
import GoSem.ClaimJoined
import GoSem.ClaimMapViews
import Derived.JoinedTies
import Derived.KernelRfl
namespace Go.Proofs.Ytenmgimhgdhgmaa
/- THE CELL 'sum', in the pinned program and in every row, IS THE sha256 OF THE DUMP (.gsa) THAT YtenmgimhgdhgmaaProg.lean LOADS. Nothing in Lean hashes anything: it is a label: what it is worth is what the hold of that sum in a sandbox is worth. -/
noncomputable def Try.pinned : Pinned := { name := "ytenmgimhgdhgmaa", sum := "f0eb4444640c25f9e4bb1601216abf10caa7cd3e4e2e1b82f3cfc3cbffdedade", checked := Try.checked }
namespace Rows
def none {H : Type} : Left H := { results := [], args := [] }

/-- 'haystacklaw5.SuffixSorts': WHATEVER THE INPUT: true; the input reads as it did. -/
def suffixSortsSpec : ChangeSpec := { name := "suffixSorts", fn := fun _ => fun
  | [d] => { results := [.lit (.bool true)], args := [d] }
  | _ => none }
def suffixSortsRow : OpenClaim := { program := "ytenmgimhgdhgmaa", sum := "f0eb4444640c25f9e4bb1601216abf10caa7cd3e4e2e1b82f3cfc3cbffdedade", func := "haystack/haystacklaw5.SuffixSorts", spec := "suffixSorts", unfollowed := true, recurses := true, apart := false }
def SuffixSortsSaid : Prop := suffixSortsRow.holds Try.pinned (OpenSpec.ofChange suffixSortsSpec)

/-- ITS FALSE NEIGHBOUR: 'it returns false'. Refute it at one input. -/
def suffixSortsWrong : ChangeSpec := { name := "suffixSorts", fn := fun _ => fun
  | [d] => { results := [.lit (.bool false)], args := [d] }
  | _ => none }
def SuffixSortsWrongFalsely : Prop := suffixSortsRow.holds Try.pinned (OpenSpec.ofChange suffixSortsWrong)

/-- 'haystacklaw5.SuffixOrder': WHATEVER THE INPUT: true; the input reads as it did. -/
def suffixOrderSpec : ChangeSpec := { name := "suffixOrder", fn := fun _ => fun
  | [d] => { results := [.lit (.bool true)], args := [d] }
  | _ => none }
def suffixOrderRow : OpenClaim := { program := "ytenmgimhgdhgmaa", sum := "f0eb4444640c25f9e4bb1601216abf10caa7cd3e4e2e1b82f3cfc3cbffdedade", func := "haystack/haystacklaw5.SuffixOrder", spec := "suffixOrder", unfollowed := true, recurses := true, apart := false }
def SuffixOrderSaid : Prop := suffixOrderRow.holds Try.pinned (OpenSpec.ofChange suffixOrderSpec)

/-- ITS FALSE NEIGHBOUR: 'it returns false'. Refute it at one input. -/
def suffixOrderWrong : ChangeSpec := { name := "suffixOrder", fn := fun _ => fun
  | [d] => { results := [.lit (.bool false)], args := [d] }
  | _ => none }
def SuffixOrderWrongFalsely : Prop := suffixOrderRow.holds Try.pinned (OpenSpec.ofChange suffixOrderWrong)

/-- 'haystacklaw5.SuffixRepeats': WHATEVER THE INPUT: true; the input reads as it did. -/
def suffixRepeatsSpec : ChangeSpec := { name := "suffixRepeats", fn := fun _ => fun
  | [d1, d2] => { results := [.lit (.bool true)], args := [d1, d2] }
  | _ => none }
def suffixRepeatsRow : OpenClaim := { program := "ytenmgimhgdhgmaa", sum := "f0eb4444640c25f9e4bb1601216abf10caa7cd3e4e2e1b82f3cfc3cbffdedade", func := "haystack/haystacklaw5.SuffixRepeats", spec := "suffixRepeats", unfollowed := true, recurses := true, apart := false }
def SuffixRepeatsSaid : Prop := suffixRepeatsRow.holds Try.pinned (OpenSpec.ofChange suffixRepeatsSpec)

/-- ITS FALSE NEIGHBOUR: 'it returns false'. Refute it at one input. -/
def suffixRepeatsWrong : ChangeSpec := { name := "suffixRepeats", fn := fun _ => fun
  | [d1, d2] => { results := [.lit (.bool false)], args := [d1, d2] }
  | _ => none }
def SuffixRepeatsWrongFalsely : Prop := suffixRepeatsRow.holds Try.pinned (OpenSpec.ofChange suffixRepeatsWrong)

/-- 'haystacklaw5.SuffixPlaces': WHATEVER THE INPUT: true; the input reads as it did. -/
def suffixPlacesSpec : ChangeSpec := { name := "suffixPlaces", fn := fun _ => fun
  | [d] => { results := [.lit (.bool true)], args := [d] }
  | _ => none }
def suffixPlacesRow : OpenClaim := { program := "ytenmgimhgdhgmaa", sum := "f0eb4444640c25f9e4bb1601216abf10caa7cd3e4e2e1b82f3cfc3cbffdedade", func := "haystack/haystacklaw5.SuffixPlaces", spec := "suffixPlaces", unfollowed := true, recurses := true, apart := false }
def SuffixPlacesSaid : Prop := suffixPlacesRow.holds Try.pinned (OpenSpec.ofChange suffixPlacesSpec)

/-- ITS FALSE NEIGHBOUR: 'it returns false'. Refute it at one input. -/
def suffixPlacesWrong : ChangeSpec := { name := "suffixPlaces", fn := fun _ => fun
  | [d] => { results := [.lit (.bool false)], args := [d] }
  | _ => none }
def SuffixPlacesWrongFalsely : Prop := suffixPlacesRow.holds Try.pinned (OpenSpec.ofChange suffixPlacesWrong)

/-- 'haystacklaw5.SuffixBack': WHATEVER THE INPUT: true; the input reads as it did. -/
def suffixBackSpec : ChangeSpec := { name := "suffixBack", fn := fun _ => fun
  | [d] => { results := [.lit (.bool true)], args := [d] }
  | _ => none }
def suffixBackRow : OpenClaim := { program := "ytenmgimhgdhgmaa", sum := "f0eb4444640c25f9e4bb1601216abf10caa7cd3e4e2e1b82f3cfc3cbffdedade", func := "haystack/haystacklaw5.SuffixBack", spec := "suffixBack", unfollowed := true, recurses := true, apart := false }
def SuffixBackSaid : Prop := suffixBackRow.holds Try.pinned (OpenSpec.ofChange suffixBackSpec)

/-- ITS FALSE NEIGHBOUR: 'it returns false'. Refute it at one input. -/
def suffixBackWrong : ChangeSpec := { name := "suffixBack", fn := fun _ => fun
  | [d] => { results := [.lit (.bool false)], args := [d] }
  | _ => none }
def SuffixBackWrongFalsely : Prop := suffixBackRow.holds Try.pinned (OpenSpec.ofChange suffixBackWrong)

/-- 'haystacklaw5.SuffixCommon': WHATEVER THE INPUT: true; the input reads as it did. -/
def suffixCommonSpec : ChangeSpec := { name := "suffixCommon", fn := fun _ => fun
  | [d1, d2, d3] => { results := [.lit (.bool true)], args := [d1, d2, d3] }
  | _ => none }
def suffixCommonRow : OpenClaim := { program := "ytenmgimhgdhgmaa", sum := "f0eb4444640c25f9e4bb1601216abf10caa7cd3e4e2e1b82f3cfc3cbffdedade", func := "haystack/haystacklaw5.SuffixCommon", spec := "suffixCommon", unfollowed := true, recurses := true, apart := false }
def SuffixCommonSaid : Prop := suffixCommonRow.holds Try.pinned (OpenSpec.ofChange suffixCommonSpec)

/-- ITS FALSE NEIGHBOUR: 'it returns false'. Refute it at one input. -/
def suffixCommonWrong : ChangeSpec := { name := "suffixCommon", fn := fun _ => fun
  | [d1, d2, d3] => { results := [.lit (.bool false)], args := [d1, d2, d3] }
  | _ => none }
def SuffixCommonWrongFalsely : Prop := suffixCommonRow.holds Try.pinned (OpenSpec.ofChange suffixCommonWrong)

/-- 'haystacklaw5.SuffixAlike': WHATEVER THE INPUT: true; the input reads as it did. -/
def suffixAlikeSpec : ChangeSpec := { name := "suffixAlike", fn := fun _ => fun
  | [d] => { results := [.lit (.bool true)], args := [d] }
  | _ => none }
def suffixAlikeRow : OpenClaim := { program := "ytenmgimhgdhgmaa", sum := "f0eb4444640c25f9e4bb1601216abf10caa7cd3e4e2e1b82f3cfc3cbffdedade", func := "haystack/haystacklaw5.SuffixAlike", spec := "suffixAlike", unfollowed := true, recurses := true, apart := false }
def SuffixAlikeSaid : Prop := suffixAlikeRow.holds Try.pinned (OpenSpec.ofChange suffixAlikeSpec)

/-- ITS FALSE NEIGHBOUR: 'it returns false'. Refute it at one input. -/
def suffixAlikeWrong : ChangeSpec := { name := "suffixAlike", fn := fun _ => fun
  | [d] => { results := [.lit (.bool false)], args := [d] }
  | _ => none }
def SuffixAlikeWrongFalsely : Prop := suffixAlikeRow.holds Try.pinned (OpenSpec.ofChange suffixAlikeWrong)

/- THE SECOND FORM. 'bulk': how many values and letters a reading holds, each counted each time it is reached (what is shared counts as often as it is met; a slice's spare places count too). A statement '..UptoSaid' is the law's where the arguments, and the package variables that the reading takes, are together of bulk at most 1048576: NARROWER than '..Said'. Prove '..Said' where nothing that the law and all that it calls make is longer than what came in: it says more and counts as full. Else prove '..UptoSaid'. A law counts once. -/
mutual
def uptoBulk {H : Type} : DataW H → Nat
  | .lit (.string bytes) => bytes.length + 1
  | .lit _ => 1
  | .nil => 1
  | .ptr d => uptoBulk d + 1
  | .slice elems spare => uptoBulkAll elems + uptoBulkAll spare + 1
  | .agg parts => uptoBulkAll parts + 1
  | .iface _ d => uptoBulk d + 1
  | .map entries => uptoBulkEntries entries + 1
  | .held _ => 1
def uptoBulkAll {H : Type} : List (DataW H) → Nat
  | [] => 0
  | d :: r => uptoBulk d + uptoBulkAll r
def uptoBulkEntries {H : Type} : List (Lit × DataW H) → Nat
  | [] => 0
  | x :: r => uptoBulkEntry x + uptoBulkEntries r
def uptoBulkEntry {H : Type} : Lit × DataW H → Nat
  | (.string bytes, d) => bytes.length + uptoBulk d + 1
  | (_, d) => uptoBulk d + 1
 end
def uptoSmall : (H : Type) → List (DataW H) → Bool := fun _ ds => decide (uptoBulkAll ds ≤ 1048576)
def OpenSpec.upto (s : _root_.Go.ChangeSpec) : _root_.Go.OpenSpec := { _root_.Go.OpenSpec.ofChange s with cond := some uptoSmall }

/-- 'haystacklaw5.SuffixSorts', WHERE WHAT IT READS IS OF BULK AT MOST 1048576: true; the input reads as it did. -/
def suffixSortsUptoRow : OpenClaim := { program := "ytenmgimhgdhgmaa", sum := "f0eb4444640c25f9e4bb1601216abf10caa7cd3e4e2e1b82f3cfc3cbffdedade", func := "haystack/haystacklaw5.SuffixSorts", spec := "suffixSorts", unfollowed := true, recurses := true, apart := false, narrowed := true }
def SuffixSortsUptoSaid : Prop := suffixSortsUptoRow.holds Try.pinned (OpenSpec.upto suffixSortsSpec)

/-- 'haystacklaw5.SuffixOrder', WHERE WHAT IT READS IS OF BULK AT MOST 1048576: true; the input reads as it did. -/
def suffixOrderUptoRow : OpenClaim := { program := "ytenmgimhgdhgmaa", sum := "f0eb4444640c25f9e4bb1601216abf10caa7cd3e4e2e1b82f3cfc3cbffdedade", func := "haystack/haystacklaw5.SuffixOrder", spec := "suffixOrder", unfollowed := true, recurses := true, apart := false, narrowed := true }
def SuffixOrderUptoSaid : Prop := suffixOrderUptoRow.holds Try.pinned (OpenSpec.upto suffixOrderSpec)

/-- 'haystacklaw5.SuffixRepeats', WHERE WHAT IT READS IS OF BULK AT MOST 1048576: true; the input reads as it did. -/
def suffixRepeatsUptoRow : OpenClaim := { program := "ytenmgimhgdhgmaa", sum := "f0eb4444640c25f9e4bb1601216abf10caa7cd3e4e2e1b82f3cfc3cbffdedade", func := "haystack/haystacklaw5.SuffixRepeats", spec := "suffixRepeats", unfollowed := true, recurses := true, apart := false, narrowed := true }
def SuffixRepeatsUptoSaid : Prop := suffixRepeatsUptoRow.holds Try.pinned (OpenSpec.upto suffixRepeatsSpec)

/-- 'haystacklaw5.SuffixPlaces', WHERE WHAT IT READS IS OF BULK AT MOST 1048576: true; the input reads as it did. -/
def suffixPlacesUptoRow : OpenClaim := { program := "ytenmgimhgdhgmaa", sum := "f0eb4444640c25f9e4bb1601216abf10caa7cd3e4e2e1b82f3cfc3cbffdedade", func := "haystack/haystacklaw5.SuffixPlaces", spec := "suffixPlaces", unfollowed := true, recurses := true, apart := false, narrowed := true }
def SuffixPlacesUptoSaid : Prop := suffixPlacesUptoRow.holds Try.pinned (OpenSpec.upto suffixPlacesSpec)

/-- 'haystacklaw5.SuffixBack', WHERE WHAT IT READS IS OF BULK AT MOST 1048576: true; the input reads as it did. -/
def suffixBackUptoRow : OpenClaim := { program := "ytenmgimhgdhgmaa", sum := "f0eb4444640c25f9e4bb1601216abf10caa7cd3e4e2e1b82f3cfc3cbffdedade", func := "haystack/haystacklaw5.SuffixBack", spec := "suffixBack", unfollowed := true, recurses := true, apart := false, narrowed := true }
def SuffixBackUptoSaid : Prop := suffixBackUptoRow.holds Try.pinned (OpenSpec.upto suffixBackSpec)

/-- 'haystacklaw5.SuffixCommon', WHERE WHAT IT READS IS OF BULK AT MOST 1048576: true; the input reads as it did. -/
def suffixCommonUptoRow : OpenClaim := { program := "ytenmgimhgdhgmaa", sum := "f0eb4444640c25f9e4bb1601216abf10caa7cd3e4e2e1b82f3cfc3cbffdedade", func := "haystack/haystacklaw5.SuffixCommon", spec := "suffixCommon", unfollowed := true, recurses := true, apart := false, narrowed := true }
def SuffixCommonUptoSaid : Prop := suffixCommonUptoRow.holds Try.pinned (OpenSpec.upto suffixCommonSpec)

/-- 'haystacklaw5.SuffixAlike', WHERE WHAT IT READS IS OF BULK AT MOST 1048576: true; the input reads as it did. -/
def suffixAlikeUptoRow : OpenClaim := { program := "ytenmgimhgdhgmaa", sum := "f0eb4444640c25f9e4bb1601216abf10caa7cd3e4e2e1b82f3cfc3cbffdedade", func := "haystack/haystacklaw5.SuffixAlike", spec := "suffixAlike", unfollowed := true, recurses := true, apart := false, narrowed := true }
def SuffixAlikeUptoSaid : Prop := suffixAlikeUptoRow.holds Try.pinned (OpenSpec.upto suffixAlikeSpec)

end Rows
end Go.Proofs.Ytenmgimhgdhgmaa
