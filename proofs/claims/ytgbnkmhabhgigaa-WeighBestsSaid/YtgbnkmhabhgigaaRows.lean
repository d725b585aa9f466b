/-
  No cell of these rows narrows 'for every input' (looked for: loops, veiled, ifaces, maps, wideKeys, modest, calm, conditions, laid).
  DERIVED. THE GIVEN ROWS OF THIS SEAT. 12 by the template 'for every input the law returns true; each argument reads behind the call as it read before'; 0 by the template 'total and deterministic' (their statements: YtgbnkmhabhgigaaTotals.lean).
  GIVEN WITH THE SEED: the statements are not yours to turn. If you find one false, say at which input.
  Laid BY PROGRAM, IN A SANDBOX (cutbox-rows.mjs): the forced cells as the released guide's own fill.sh prints them over the translation 2a79bc34c514255b… (all of the seat's roots in one cut). By AI agents, Wed Nov 11 2026. No macro, syntax, notation, axiom, sorry.
-/
import Derived.Test.YtgbnkmhabhgigaaChecked
import GoSem.Claim
import GoSem.ClaimJoined
import GoSem.ClaimMapViews
import Derived.JoinedTies
import Derived.KernelRfl
namespace Go.Proofs.Ytgbnkmhabhgigaa
/- THE CELL 'sum', in the pinned program and in every row, IS THE sha256 OF THE DUMP (.gsa) THAT YtgbnkmhabhgigaaProg.lean LOADS. Nothing in Lean hashes anything: it is a label: what it is worth is what the hold of that sum in a sandbox is worth. -/
noncomputable def Try.pinned : Pinned := { name := "ytgbnkmhabhgigaa", sum := "2a79bc34c514255b047239b8f9e022c3be06a54a924f2356bba4792e02b8d431", checked := Try.checked }
namespace Rows
def none {H : Type} : Left H := { results := [], args := [] }

/-- 'bellpulllaw08.WeighDistinct': WHATEVER THE INPUT: true; the input reads as it did. -/
def weighDistinctSpec : ChangeSpec := { name := "weighDistinct", fn := fun _ => fun
  | [d] => { results := [.lit (.bool true)], args := [d] }
  | _ => none }
def weighDistinctRow : OpenClaim := { program := "ytgbnkmhabhgigaa", sum := "2a79bc34c514255b047239b8f9e022c3be06a54a924f2356bba4792e02b8d431", func := "bellpull/bellpulllaw08.WeighDistinct", spec := "weighDistinct", unfollowed := true, recurses := true, apart := false }
def WeighDistinctSaid : Prop := weighDistinctRow.holds Try.pinned (OpenSpec.ofChange weighDistinctSpec)

/-- ITS FALSE NEIGHBOUR: 'it returns false'. Refute it at one input. -/
def weighDistinctWrong : ChangeSpec := { name := "weighDistinct", fn := fun _ => fun
  | [d] => { results := [.lit (.bool false)], args := [d] }
  | _ => none }
def WeighDistinctWrongFalsely : Prop := weighDistinctRow.holds Try.pinned (OpenSpec.ofChange weighDistinctWrong)

/-- 'bellpulllaw08.WeighSubsets': WHATEVER THE INPUT: true; the input reads as it did. -/
def weighSubsetsSpec : ChangeSpec := { name := "weighSubsets", fn := fun _ => fun
  | [d1, d2] => { results := [.lit (.bool true)], args := [d1, d2] }
  | _ => none }
def weighSubsetsRow : OpenClaim := { program := "ytgbnkmhabhgigaa", sum := "2a79bc34c514255b047239b8f9e022c3be06a54a924f2356bba4792e02b8d431", func := "bellpull/bellpulllaw08.WeighSubsets", spec := "weighSubsets", unfollowed := true, recurses := true, apart := false }
def WeighSubsetsSaid : Prop := weighSubsetsRow.holds Try.pinned (OpenSpec.ofChange weighSubsetsSpec)

/-- ITS FALSE NEIGHBOUR: 'it returns false'. Refute it at one input. -/
def weighSubsetsWrong : ChangeSpec := { name := "weighSubsets", fn := fun _ => fun
  | [d1, d2] => { results := [.lit (.bool false)], args := [d1, d2] }
  | _ => none }
def WeighSubsetsWrongFalsely : Prop := weighSubsetsRow.holds Try.pinned (OpenSpec.ofChange weighSubsetsWrong)

/-- 'bellpulllaw08.WeighPans': WHATEVER THE INPUT: true; the input reads as it did. -/
def weighPansSpec : ChangeSpec := { name := "weighPans", fn := fun _ => fun
  | [d1, d2] => { results := [.lit (.bool true)], args := [d1, d2] }
  | _ => none }
def weighPansRow : OpenClaim := { program := "ytgbnkmhabhgigaa", sum := "2a79bc34c514255b047239b8f9e022c3be06a54a924f2356bba4792e02b8d431", func := "bellpull/bellpulllaw08.WeighPans", spec := "weighPans", unfollowed := true, recurses := true, apart := false }
def WeighPansSaid : Prop := weighPansRow.holds Try.pinned (OpenSpec.ofChange weighPansSpec)

/-- ITS FALSE NEIGHBOUR: 'it returns false'. Refute it at one input. -/
def weighPansWrong : ChangeSpec := { name := "weighPans", fn := fun _ => fun
  | [d1, d2] => { results := [.lit (.bool false)], args := [d1, d2] }
  | _ => none }
def WeighPansWrongFalsely : Prop := weighPansRow.holds Try.pinned (OpenSpec.ofChange weighPansWrong)

/-- 'bellpulllaw08.WeighGuys': WHATEVER THE INPUT: true; the input reads as it did. -/
def weighGuysSpec : ChangeSpec := { name := "weighGuys", fn := fun _ => fun
  | [d] => { results := [.lit (.bool true)], args := [d] }
  | _ => none }
def weighGuysRow : OpenClaim := { program := "ytgbnkmhabhgigaa", sum := "2a79bc34c514255b047239b8f9e022c3be06a54a924f2356bba4792e02b8d431", func := "bellpull/bellpulllaw08.WeighGuys", spec := "weighGuys", unfollowed := true, recurses := true, apart := false }
def WeighGuysSaid : Prop := weighGuysRow.holds Try.pinned (OpenSpec.ofChange weighGuysSpec)

/-- ITS FALSE NEIGHBOUR: 'it returns false'. Refute it at one input. -/
def weighGuysWrong : ChangeSpec := { name := "weighGuys", fn := fun _ => fun
  | [d] => { results := [.lit (.bool false)], args := [d] }
  | _ => none }
def WeighGuysWrongFalsely : Prop := weighGuysRow.holds Try.pinned (OpenSpec.ofChange weighGuysWrong)

/-- 'bellpulllaw08.WeighClash': WHATEVER THE INPUT: true; the input reads as it did. -/
def weighClashSpec : ChangeSpec := { name := "weighClash", fn := fun _ => fun
  | [d] => { results := [.lit (.bool true)], args := [d] }
  | _ => none }
def weighClashRow : OpenClaim := { program := "ytgbnkmhabhgigaa", sum := "2a79bc34c514255b047239b8f9e022c3be06a54a924f2356bba4792e02b8d431", func := "bellpull/bellpulllaw08.WeighClash", spec := "weighClash", unfollowed := true, recurses := true, apart := false }
def WeighClashSaid : Prop := weighClashRow.holds Try.pinned (OpenSpec.ofChange weighClashSpec)

/-- ITS FALSE NEIGHBOUR: 'it returns false'. Refute it at one input. -/
def weighClashWrong : ChangeSpec := { name := "weighClash", fn := fun _ => fun
  | [d] => { results := [.lit (.bool false)], args := [d] }
  | _ => none }
def WeighClashWrongFalsely : Prop := weighClashRow.holds Try.pinned (OpenSpec.ofChange weighClashWrong)

/-- 'bellpulllaw08.WeighConway': WHATEVER THE INPUT: true; the input reads as it did. -/
def weighConwaySpec : ChangeSpec := { name := "weighConway", fn := fun _ => fun
  | [d] => { results := [.lit (.bool true)], args := [d] }
  | _ => none }
def weighConwayRow : OpenClaim := { program := "ytgbnkmhabhgigaa", sum := "2a79bc34c514255b047239b8f9e022c3be06a54a924f2356bba4792e02b8d431", func := "bellpull/bellpulllaw08.WeighConway", spec := "weighConway", unfollowed := true, recurses := true, apart := false }
def WeighConwaySaid : Prop := weighConwayRow.holds Try.pinned (OpenSpec.ofChange weighConwaySpec)

/-- ITS FALSE NEIGHBOUR: 'it returns false'. Refute it at one input. -/
def weighConwayWrong : ChangeSpec := { name := "weighConway", fn := fun _ => fun
  | [d] => { results := [.lit (.bool false)], args := [d] }
  | _ => none }
def WeighConwayWrongFalsely : Prop := weighConwayRow.holds Try.pinned (OpenSpec.ofChange weighConwayWrong)

/-- 'bellpulllaw08.WeighErdos': WHATEVER THE INPUT: true; the input reads as it did. -/
def weighErdosSpec : ChangeSpec := { name := "weighErdos", fn := fun _ => fun
  | [d1, d2] => { results := [.lit (.bool true)], args := [d1, d2] }
  | _ => none }
def weighErdosRow : OpenClaim := { program := "ytgbnkmhabhgigaa", sum := "2a79bc34c514255b047239b8f9e022c3be06a54a924f2356bba4792e02b8d431", func := "bellpull/bellpulllaw08.WeighErdos", spec := "weighErdos", unfollowed := true, recurses := true, apart := false }
def WeighErdosSaid : Prop := weighErdosRow.holds Try.pinned (OpenSpec.ofChange weighErdosSpec)

/-- ITS FALSE NEIGHBOUR: 'it returns false'. Refute it at one input. -/
def weighErdosWrong : ChangeSpec := { name := "weighErdos", fn := fun _ => fun
  | [d1, d2] => { results := [.lit (.bool false)], args := [d1, d2] }
  | _ => none }
def WeighErdosWrongFalsely : Prop := weighErdosRow.holds Try.pinned (OpenSpec.ofChange weighErdosWrong)

/-- 'bellpulllaw08.WeighWays': WHATEVER THE INPUT: true; the input reads as it did. -/
def weighWaysSpec : ChangeSpec := { name := "weighWays", fn := fun _ => fun
  | [d] => { results := [.lit (.bool true)], args := [d] }
  | _ => none }
def weighWaysRow : OpenClaim := { program := "ytgbnkmhabhgigaa", sum := "2a79bc34c514255b047239b8f9e022c3be06a54a924f2356bba4792e02b8d431", func := "bellpull/bellpulllaw08.WeighWays", spec := "weighWays", unfollowed := true, recurses := true, apart := false }
def WeighWaysSaid : Prop := weighWaysRow.holds Try.pinned (OpenSpec.ofChange weighWaysSpec)

/-- ITS FALSE NEIGHBOUR: 'it returns false'. Refute it at one input. -/
def weighWaysWrong : ChangeSpec := { name := "weighWays", fn := fun _ => fun
  | [d] => { results := [.lit (.bool false)], args := [d] }
  | _ => none }
def WeighWaysWrongFalsely : Prop := weighWaysRow.holds Try.pinned (OpenSpec.ofChange weighWaysWrong)

/-- 'bellpulllaw08.WeighParts': WHATEVER THE INPUT: true; the input reads as it did. -/
def weighPartsSpec : ChangeSpec := { name := "weighParts", fn := fun _ => fun
  | [d1, d2, d3] => { results := [.lit (.bool true)], args := [d1, d2, d3] }
  | _ => none }
def weighPartsRow : OpenClaim := { program := "ytgbnkmhabhgigaa", sum := "2a79bc34c514255b047239b8f9e022c3be06a54a924f2356bba4792e02b8d431", func := "bellpull/bellpulllaw08.WeighParts", spec := "weighParts", unfollowed := true, recurses := true, apart := false }
def WeighPartsSaid : Prop := weighPartsRow.holds Try.pinned (OpenSpec.ofChange weighPartsSpec)

/-- ITS FALSE NEIGHBOUR: 'it returns false'. Refute it at one input. -/
def weighPartsWrong : ChangeSpec := { name := "weighParts", fn := fun _ => fun
  | [d1, d2, d3] => { results := [.lit (.bool false)], args := [d1, d2, d3] }
  | _ => none }
def WeighPartsWrongFalsely : Prop := weighPartsRow.holds Try.pinned (OpenSpec.ofChange weighPartsWrong)

/-- 'bellpulllaw08.WeighTernary': WHATEVER THE INPUT: true; the input reads as it did. -/
def weighTernarySpec : ChangeSpec := { name := "weighTernary", fn := fun _ => fun
  | [d1, d2] => { results := [.lit (.bool true)], args := [d1, d2] }
  | _ => none }
def weighTernaryRow : OpenClaim := { program := "ytgbnkmhabhgigaa", sum := "2a79bc34c514255b047239b8f9e022c3be06a54a924f2356bba4792e02b8d431", func := "bellpull/bellpulllaw08.WeighTernary", spec := "weighTernary", unfollowed := true, recurses := true, apart := false }
def WeighTernarySaid : Prop := weighTernaryRow.holds Try.pinned (OpenSpec.ofChange weighTernarySpec)

/-- ITS FALSE NEIGHBOUR: 'it returns false'. Refute it at one input. -/
def weighTernaryWrong : ChangeSpec := { name := "weighTernary", fn := fun _ => fun
  | [d1, d2] => { results := [.lit (.bool false)], args := [d1, d2] }
  | _ => none }
def WeighTernaryWrongFalsely : Prop := weighTernaryRow.holds Try.pinned (OpenSpec.ofChange weighTernaryWrong)

/-- 'bellpulllaw08.WeighBests': WHATEVER THE INPUT: true; the input reads as it did. -/
def weighBestsSpec : ChangeSpec := { name := "weighBests", fn := fun _ => fun
  | [d] => { results := [.lit (.bool true)], args := [d] }
  | _ => none }
def weighBestsRow : OpenClaim := { program := "ytgbnkmhabhgigaa", sum := "2a79bc34c514255b047239b8f9e022c3be06a54a924f2356bba4792e02b8d431", func := "bellpull/bellpulllaw08.WeighBests", spec := "weighBests", unfollowed := true, recurses := true, apart := false }
def WeighBestsSaid : Prop := weighBestsRow.holds Try.pinned (OpenSpec.ofChange weighBestsSpec)

/-- ITS FALSE NEIGHBOUR: 'it returns false'. Refute it at one input. -/
def weighBestsWrong : ChangeSpec := { name := "weighBests", fn := fun _ => fun
  | [d] => { results := [.lit (.bool false)], args := [d] }
  | _ => none }
def WeighBestsWrongFalsely : Prop := weighBestsRow.holds Try.pinned (OpenSpec.ofChange weighBestsWrong)

/-- 'bellpulllaw08.WeighBest': WHATEVER THE INPUT: true; the input reads as it did. -/
def weighBestSpec : ChangeSpec := { name := "weighBest", fn := fun _ => fun
  | [d] => { results := [.lit (.bool true)], args := [d] }
  | _ => none }
def weighBestRow : OpenClaim := { program := "ytgbnkmhabhgigaa", sum := "2a79bc34c514255b047239b8f9e022c3be06a54a924f2356bba4792e02b8d431", func := "bellpull/bellpulllaw08.WeighBest", spec := "weighBest", unfollowed := true, recurses := true, apart := false }
def WeighBestSaid : Prop := weighBestRow.holds Try.pinned (OpenSpec.ofChange weighBestSpec)

/-- ITS FALSE NEIGHBOUR: 'it returns false'. Refute it at one input. -/
def weighBestWrong : ChangeSpec := { name := "weighBest", fn := fun _ => fun
  | [d] => { results := [.lit (.bool false)], args := [d] }
  | _ => none }
def WeighBestWrongFalsely : Prop := weighBestRow.holds Try.pinned (OpenSpec.ofChange weighBestWrong)

/- THE SECOND FORM. 'bulk': how many values and letters a reading holds, each counted each time it is reached (what is shared counts as often as it is met; a slice's spare places count too). A statement '..UptoSaid' is the law's where the arguments, and the package variables that the reading takes, are together of bulk at most 1048576: NARROWER than '..Said'. Prove '..Said' where nothing that the law and all that it calls make is longer than what came in: it says more and counts as full. Else prove '..UptoSaid'. A law counts once. -/
mutual
def uptoBulk {H : Type} : DataW H → Nat
  | .lit (.string bytes) => bytes.length + 1
  | .lit _ => 1
  | .nil => 1
  | .ptr d => uptoBulk d + 1
  | .slice elems spare => uptoBulkAll elems + uptoBulkAll spare + 1
  | .agg parts => uptoBulkAll parts + 1
  | .iface _ d => uptoBulk d + 1
  | .map entries => uptoBulkEntries entries + 1
  | .held _ => 1
def uptoBulkAll {H : Type} : List (DataW H) → Nat
  | [] => 0
  | d :: r => uptoBulk d + uptoBulkAll r
def uptoBulkEntries {H : Type} : List (Lit × DataW H) → Nat
  | [] => 0
  | x :: r => uptoBulkEntry x + uptoBulkEntries r
def uptoBulkEntry {H : Type} : Lit × DataW H → Nat
  | (.string bytes, d) => bytes.length + uptoBulk d + 1
  | (_, d) => uptoBulk d + 1
 end
def uptoSmall : (H : Type) → List (DataW H) → Bool := fun _ ds => decide (uptoBulkAll ds ≤ 1048576)
def OpenSpec.upto (s : _root_.Go.ChangeSpec) : _root_.Go.OpenSpec := { _root_.Go.OpenSpec.ofChange s with cond := some uptoSmall }

/-- 'bellpulllaw08.WeighDistinct', WHERE WHAT IT READS IS OF BULK AT MOST 1048576: true; the input reads as it did. -/
def weighDistinctUptoRow : OpenClaim := { program := "ytgbnkmhabhgigaa", sum := "2a79bc34c514255b047239b8f9e022c3be06a54a924f2356bba4792e02b8d431", func := "bellpull/bellpulllaw08.WeighDistinct", spec := "weighDistinct", unfollowed := true, recurses := true, apart := false, narrowed := true }
def WeighDistinctUptoSaid : Prop := weighDistinctUptoRow.holds Try.pinned (OpenSpec.upto weighDistinctSpec)

/-- 'bellpulllaw08.WeighSubsets', WHERE WHAT IT READS IS OF BULK AT MOST 1048576: true; the input reads as it did. -/
def weighSubsetsUptoRow : OpenClaim := { program := "ytgbnkmhabhgigaa", sum := "2a79bc34c514255b047239b8f9e022c3be06a54a924f2356bba4792e02b8d431", func := "bellpull/bellpulllaw08.WeighSubsets", spec := "weighSubsets", unfollowed := true, recurses := true, apart := false, narrowed := true }
def WeighSubsetsUptoSaid : Prop := weighSubsetsUptoRow.holds Try.pinned (OpenSpec.upto weighSubsetsSpec)

/-- 'bellpulllaw08.WeighPans', WHERE WHAT IT READS IS OF BULK AT MOST 1048576: true; the input reads as it did. -/
def weighPansUptoRow : OpenClaim := { program := "ytgbnkmhabhgigaa", sum := "2a79bc34c514255b047239b8f9e022c3be06a54a924f2356bba4792e02b8d431", func := "bellpull/bellpulllaw08.WeighPans", spec := "weighPans", unfollowed := true, recurses := true, apart := false, narrowed := true }
def WeighPansUptoSaid : Prop := weighPansUptoRow.holds Try.pinned (OpenSpec.upto weighPansSpec)

/-- 'bellpulllaw08.WeighGuys', WHERE WHAT IT READS IS OF BULK AT MOST 1048576: true; the input reads as it did. -/
def weighGuysUptoRow : OpenClaim := { program := "ytgbnkmhabhgigaa", sum := "2a79bc34c514255b047239b8f9e022c3be06a54a924f2356bba4792e02b8d431", func := "bellpull/bellpulllaw08.WeighGuys", spec := "weighGuys", unfollowed := true, recurses := true, apart := false, narrowed := true }
def WeighGuysUptoSaid : Prop := weighGuysUptoRow.holds Try.pinned (OpenSpec.upto weighGuysSpec)

/-- 'bellpulllaw08.WeighClash', WHERE WHAT IT READS IS OF BULK AT MOST 1048576: true; the input reads as it did. -/
def weighClashUptoRow : OpenClaim := { program := "ytgbnkmhabhgigaa", sum := "2a79bc34c514255b047239b8f9e022c3be06a54a924f2356bba4792e02b8d431", func := "bellpull/bellpulllaw08.WeighClash", spec := "weighClash", unfollowed := true, recurses := true, apart := false, narrowed := true }
def WeighClashUptoSaid : Prop := weighClashUptoRow.holds Try.pinned (OpenSpec.upto weighClashSpec)

/-- 'bellpulllaw08.WeighConway', WHERE WHAT IT READS IS OF BULK AT MOST 1048576: true; the input reads as it did. -/
def weighConwayUptoRow : OpenClaim := { program := "ytgbnkmhabhgigaa", sum := "2a79bc34c514255b047239b8f9e022c3be06a54a924f2356bba4792e02b8d431", func := "bellpull/bellpulllaw08.WeighConway", spec := "weighConway", unfollowed := true, recurses := true, apart := false, narrowed := true }
def WeighConwayUptoSaid : Prop := weighConwayUptoRow.holds Try.pinned (OpenSpec.upto weighConwaySpec)

/-- 'bellpulllaw08.WeighErdos', WHERE WHAT IT READS IS OF BULK AT MOST 1048576: true; the input reads as it did. -/
def weighErdosUptoRow : OpenClaim := { program := "ytgbnkmhabhgigaa", sum := "2a79bc34c514255b047239b8f9e022c3be06a54a924f2356bba4792e02b8d431", func := "bellpull/bellpulllaw08.WeighErdos", spec := "weighErdos", unfollowed := true, recurses := true, apart := false, narrowed := true }
def WeighErdosUptoSaid : Prop := weighErdosUptoRow.holds Try.pinned (OpenSpec.upto weighErdosSpec)

/-- 'bellpulllaw08.WeighWays', WHERE WHAT IT READS IS OF BULK AT MOST 1048576: true; the input reads as it did. -/
def weighWaysUptoRow : OpenClaim := { program := "ytgbnkmhabhgigaa", sum := "2a79bc34c514255b047239b8f9e022c3be06a54a924f2356bba4792e02b8d431", func := "bellpull/bellpulllaw08.WeighWays", spec := "weighWays", unfollowed := true, recurses := true, apart := false, narrowed := true }
def WeighWaysUptoSaid : Prop := weighWaysUptoRow.holds Try.pinned (OpenSpec.upto weighWaysSpec)

/-- 'bellpulllaw08.WeighParts', WHERE WHAT IT READS IS OF BULK AT MOST 1048576: true; the input reads as it did. -/
def weighPartsUptoRow : OpenClaim := { program := "ytgbnkmhabhgigaa", sum := "2a79bc34c514255b047239b8f9e022c3be06a54a924f2356bba4792e02b8d431", func := "bellpull/bellpulllaw08.WeighParts", spec := "weighParts", unfollowed := true, recurses := true, apart := false, narrowed := true }
def WeighPartsUptoSaid : Prop := weighPartsUptoRow.holds Try.pinned (OpenSpec.upto weighPartsSpec)

/-- 'bellpulllaw08.WeighTernary', WHERE WHAT IT READS IS OF BULK AT MOST 1048576: true; the input reads as it did. -/
def weighTernaryUptoRow : OpenClaim := { program := "ytgbnkmhabhgigaa", sum := "2a79bc34c514255b047239b8f9e022c3be06a54a924f2356bba4792e02b8d431", func := "bellpull/bellpulllaw08.WeighTernary", spec := "weighTernary", unfollowed := true, recurses := true, apart := false, narrowed := true }
def WeighTernaryUptoSaid : Prop := weighTernaryUptoRow.holds Try.pinned (OpenSpec.upto weighTernarySpec)

/-- 'bellpulllaw08.WeighBests', WHERE WHAT IT READS IS OF BULK AT MOST 1048576: true; the input reads as it did. -/
def weighBestsUptoRow : OpenClaim := { program := "ytgbnkmhabhgigaa", sum := "2a79bc34c514255b047239b8f9e022c3be06a54a924f2356bba4792e02b8d431", func := "bellpull/bellpulllaw08.WeighBests", spec := "weighBests", unfollowed := true, recurses := true, apart := false, narrowed := true }
def WeighBestsUptoSaid : Prop := weighBestsUptoRow.holds Try.pinned (OpenSpec.upto weighBestsSpec)

/-- 'bellpulllaw08.WeighBest', WHERE WHAT IT READS IS OF BULK AT MOST 1048576: true; the input reads as it did. -/
def weighBestUptoRow : OpenClaim := { program := "ytgbnkmhabhgigaa", sum := "2a79bc34c514255b047239b8f9e022c3be06a54a924f2356bba4792e02b8d431", func := "bellpull/bellpulllaw08.WeighBest", spec := "weighBest", unfollowed := true, recurses := true, apart := false, narrowed := true }
def WeighBestUptoSaid : Prop := weighBestUptoRow.holds Try.pinned (OpenSpec.upto weighBestSpec)

end Rows
end Go.Proofs.Ytgbnkmhabhgigaa
