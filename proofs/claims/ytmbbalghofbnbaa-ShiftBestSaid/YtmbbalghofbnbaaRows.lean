/-
  No cell of these rows narrows 'for every input' (looked for: loops, veiled, ifaces, maps, wideKeys, modest, calm, conditions, laid).
  DERIVED. THE GIVEN ROWS OF THIS SEAT. 12 by the template 'for every input the law returns true; each argument reads behind the call as it read before'; 0 by the template 'total and deterministic' (their statements: YtmbbalghofbnbaaTotals.lean).
  GIVEN WITH THE SEED: the statements are not yours to turn. If you find one false, say at which input.
  Laid BY PROGRAM, IN A SANDBOX (cutbox-rows.mjs): the forced cells as the released guide's own fill.sh prints them over the translation a4568bea638e02a4… (all of the seat's roots in one cut). By AI agents, Wed Nov 11 2026. No macro, syntax, notation, axiom, sorry.
-/
import Derived.Test.YtmbbalghofbnbaaChecked
import GoSem.Claim
import GoSem.ClaimJoined
import GoSem.ClaimMapViews
import Derived.JoinedTies
import Derived.KernelRfl
namespace Go.Proofs.Ytmbbalghofbnbaa
/- THE CELL 'sum', in the pinned program and in every row, IS THE sha256 OF THE DUMP (.gsa) THAT YtmbbalghofbnbaaProg.lean LOADS. Nothing in Lean hashes anything: it is a label: what it is worth is what the hold of that sum in a sandbox is worth. -/
noncomputable def Try.pinned : Pinned := { name := "ytmbbalghofbnbaa", sum := "a4568bea638e02a4e7412f1fc9365b138192ccae8223f910db29976b9761342f", checked := Try.checked }
namespace Rows
def none {H : Type} : Left H := { results := [], args := [] }

/-- 'bellpulllaw03.ShiftDepths': WHATEVER THE INPUT: true; the input reads as it did. -/
def shiftDepthsSpec : ChangeSpec := { name := "shiftDepths", fn := fun _ => fun
  | [d] => { results := [.lit (.bool true)], args := [d] }
  | _ => none }
def shiftDepthsRow : OpenClaim := { program := "ytmbbalghofbnbaa", sum := "a4568bea638e02a4e7412f1fc9365b138192ccae8223f910db29976b9761342f", func := "bellpull/bellpulllaw03.ShiftDepths", spec := "shiftDepths", unfollowed := true, recurses := true, apart := false }
def ShiftDepthsSaid : Prop := shiftDepthsRow.holds Try.pinned (OpenSpec.ofChange shiftDepthsSpec)

/-- ITS FALSE NEIGHBOUR: 'it returns false'. Refute it at one input. -/
def shiftDepthsWrong : ChangeSpec := { name := "shiftDepths", fn := fun _ => fun
  | [d] => { results := [.lit (.bool false)], args := [d] }
  | _ => none }
def ShiftDepthsWrongFalsely : Prop := shiftDepthsRow.holds Try.pinned (OpenSpec.ofChange shiftDepthsWrong)

/-- 'bellpulllaw03.ShiftProper': WHATEVER THE INPUT: true; the input reads as it did. -/
def shiftProperSpec : ChangeSpec := { name := "shiftProper", fn := fun _ => fun
  | [d1, d2] => { results := [.lit (.bool true)], args := [d1, d2] }
  | _ => none }
def shiftProperRow : OpenClaim := { program := "ytmbbalghofbnbaa", sum := "a4568bea638e02a4e7412f1fc9365b138192ccae8223f910db29976b9761342f", func := "bellpull/bellpulllaw03.ShiftProper", spec := "shiftProper", unfollowed := true, recurses := true, apart := false }
def ShiftProperSaid : Prop := shiftProperRow.holds Try.pinned (OpenSpec.ofChange shiftProperSpec)

/-- ITS FALSE NEIGHBOUR: 'it returns false'. Refute it at one input. -/
def shiftProperWrong : ChangeSpec := { name := "shiftProper", fn := fun _ => fun
  | [d1, d2] => { results := [.lit (.bool false)], args := [d1, d2] }
  | _ => none }
def ShiftProperWrongFalsely : Prop := shiftProperRow.holds Try.pinned (OpenSpec.ofChange shiftProperWrong)

/-- 'bellpulllaw03.ShiftLevels': WHATEVER THE INPUT: true; the input reads as it did. -/
def shiftLevelsSpec : ChangeSpec := { name := "shiftLevels", fn := fun _ => fun
  | [d] => { results := [.lit (.bool true)], args := [d] }
  | _ => none }
def shiftLevelsRow : OpenClaim := { program := "ytmbbalghofbnbaa", sum := "a4568bea638e02a4e7412f1fc9365b138192ccae8223f910db29976b9761342f", func := "bellpull/bellpulllaw03.ShiftLevels", spec := "shiftLevels", unfollowed := true, recurses := true, apart := false }
def ShiftLevelsSaid : Prop := shiftLevelsRow.holds Try.pinned (OpenSpec.ofChange shiftLevelsSpec)

/-- ITS FALSE NEIGHBOUR: 'it returns false'. Refute it at one input. -/
def shiftLevelsWrong : ChangeSpec := { name := "shiftLevels", fn := fun _ => fun
  | [d] => { results := [.lit (.bool false)], args := [d] }
  | _ => none }
def ShiftLevelsWrongFalsely : Prop := shiftLevelsRow.holds Try.pinned (OpenSpec.ofChange shiftLevelsWrong)

/-- 'bellpulllaw03.ShiftTrotter': WHATEVER THE INPUT: true; the input reads as it did. -/
def shiftTrotterSpec : ChangeSpec := { name := "shiftTrotter", fn := fun _ => fun
  | [d] => { results := [.lit (.bool true)], args := [d] }
  | _ => none }
def shiftTrotterRow : OpenClaim := { program := "ytmbbalghofbnbaa", sum := "a4568bea638e02a4e7412f1fc9365b138192ccae8223f910db29976b9761342f", func := "bellpull/bellpulllaw03.ShiftTrotter", spec := "shiftTrotter", unfollowed := true, recurses := true, apart := false }
def ShiftTrotterSaid : Prop := shiftTrotterRow.holds Try.pinned (OpenSpec.ofChange shiftTrotterSpec)

/-- ITS FALSE NEIGHBOUR: 'it returns false'. Refute it at one input. -/
def shiftTrotterWrong : ChangeSpec := { name := "shiftTrotter", fn := fun _ => fun
  | [d] => { results := [.lit (.bool false)], args := [d] }
  | _ => none }
def ShiftTrotterWrongFalsely : Prop := shiftTrotterRow.holds Try.pinned (OpenSpec.ofChange shiftTrotterWrong)

/-- 'bellpulllaw03.ShiftFirst': WHATEVER THE INPUT: true; the input reads as it did. -/
def shiftFirstSpec : ChangeSpec := { name := "shiftFirst", fn := fun _ => fun
  | [d] => { results := [.lit (.bool true)], args := [d] }
  | _ => none }
def shiftFirstRow : OpenClaim := { program := "ytmbbalghofbnbaa", sum := "a4568bea638e02a4e7412f1fc9365b138192ccae8223f910db29976b9761342f", func := "bellpull/bellpulllaw03.ShiftFirst", spec := "shiftFirst", unfollowed := true, recurses := true, apart := false }
def ShiftFirstSaid : Prop := shiftFirstRow.holds Try.pinned (OpenSpec.ofChange shiftFirstSpec)

/-- ITS FALSE NEIGHBOUR: 'it returns false'. Refute it at one input. -/
def shiftFirstWrong : ChangeSpec := { name := "shiftFirst", fn := fun _ => fun
  | [d] => { results := [.lit (.bool false)], args := [d] }
  | _ => none }
def ShiftFirstWrongFalsely : Prop := shiftFirstRow.holds Try.pinned (OpenSpec.ofChange shiftFirstWrong)

/-- 'bellpulllaw03.ShiftOnline': WHATEVER THE INPUT: true; the input reads as it did. -/
def shiftOnlineSpec : ChangeSpec := { name := "shiftOnline", fn := fun _ => fun
  | [d1, d2] => { results := [.lit (.bool true)], args := [d1, d2] }
  | _ => none }
def shiftOnlineRow : OpenClaim := { program := "ytmbbalghofbnbaa", sum := "a4568bea638e02a4e7412f1fc9365b138192ccae8223f910db29976b9761342f", func := "bellpull/bellpulllaw03.ShiftOnline", spec := "shiftOnline", unfollowed := true, recurses := true, apart := false }
def ShiftOnlineSaid : Prop := shiftOnlineRow.holds Try.pinned (OpenSpec.ofChange shiftOnlineSpec)

/-- ITS FALSE NEIGHBOUR: 'it returns false'. Refute it at one input. -/
def shiftOnlineWrong : ChangeSpec := { name := "shiftOnline", fn := fun _ => fun
  | [d1, d2] => { results := [.lit (.bool false)], args := [d1, d2] }
  | _ => none }
def ShiftOnlineWrongFalsely : Prop := shiftOnlineRow.holds Try.pinned (OpenSpec.ofChange shiftOnlineWrong)

/-- 'bellpulllaw03.ShiftMirrored': WHATEVER THE INPUT: true; the input reads as it did. -/
def shiftMirroredSpec : ChangeSpec := { name := "shiftMirrored", fn := fun _ => fun
  | [d] => { results := [.lit (.bool true)], args := [d] }
  | _ => none }
def shiftMirroredRow : OpenClaim := { program := "ytmbbalghofbnbaa", sum := "a4568bea638e02a4e7412f1fc9365b138192ccae8223f910db29976b9761342f", func := "bellpull/bellpulllaw03.ShiftMirrored", spec := "shiftMirrored", unfollowed := true, recurses := true, apart := false }
def ShiftMirroredSaid : Prop := shiftMirroredRow.holds Try.pinned (OpenSpec.ofChange shiftMirroredSpec)

/-- ITS FALSE NEIGHBOUR: 'it returns false'. Refute it at one input. -/
def shiftMirroredWrong : ChangeSpec := { name := "shiftMirrored", fn := fun _ => fun
  | [d] => { results := [.lit (.bool false)], args := [d] }
  | _ => none }
def ShiftMirroredWrongFalsely : Prop := shiftMirroredRow.holds Try.pinned (OpenSpec.ofChange shiftMirroredWrong)

/-- 'bellpulllaw03.ShiftStretched': WHATEVER THE INPUT: true; the input reads as it did. -/
def shiftStretchedSpec : ChangeSpec := { name := "shiftStretched", fn := fun _ => fun
  | [d1, d2] => { results := [.lit (.bool true)], args := [d1, d2] }
  | _ => none }
def shiftStretchedRow : OpenClaim := { program := "ytmbbalghofbnbaa", sum := "a4568bea638e02a4e7412f1fc9365b138192ccae8223f910db29976b9761342f", func := "bellpull/bellpulllaw03.ShiftStretched", spec := "shiftStretched", unfollowed := true, recurses := true, apart := false }
def ShiftStretchedSaid : Prop := shiftStretchedRow.holds Try.pinned (OpenSpec.ofChange shiftStretchedSpec)

/-- ITS FALSE NEIGHBOUR: 'it returns false'. Refute it at one input. -/
def shiftStretchedWrong : ChangeSpec := { name := "shiftStretched", fn := fun _ => fun
  | [d1, d2] => { results := [.lit (.bool false)], args := [d1, d2] }
  | _ => none }
def ShiftStretchedWrongFalsely : Prop := shiftStretchedRow.holds Try.pinned (OpenSpec.ofChange shiftStretchedWrong)

/-- 'bellpulllaw03.ShiftDeepest': WHATEVER THE INPUT: true; the input reads as it did. -/
def shiftDeepestSpec : ChangeSpec := { name := "shiftDeepest", fn := fun _ => fun
  | [d] => { results := [.lit (.bool true)], args := [d] }
  | _ => none }
def shiftDeepestRow : OpenClaim := { program := "ytmbbalghofbnbaa", sum := "a4568bea638e02a4e7412f1fc9365b138192ccae8223f910db29976b9761342f", func := "bellpull/bellpulllaw03.ShiftDeepest", spec := "shiftDeepest", unfollowed := true, recurses := true, apart := false }
def ShiftDeepestSaid : Prop := shiftDeepestRow.holds Try.pinned (OpenSpec.ofChange shiftDeepestSpec)

/-- ITS FALSE NEIGHBOUR: 'it returns false'. Refute it at one input. -/
def shiftDeepestWrong : ChangeSpec := { name := "shiftDeepest", fn := fun _ => fun
  | [d] => { results := [.lit (.bool false)], args := [d] }
  | _ => none }
def ShiftDeepestWrongFalsely : Prop := shiftDeepestRow.holds Try.pinned (OpenSpec.ofChange shiftDeepestWrong)

/-- 'bellpulllaw03.ShiftFits': WHATEVER THE INPUT: true; the input reads as it did. -/
def shiftFitsSpec : ChangeSpec := { name := "shiftFits", fn := fun _ => fun
  | [d] => { results := [.lit (.bool true)], args := [d] }
  | _ => none }
def shiftFitsRow : OpenClaim := { program := "ytmbbalghofbnbaa", sum := "a4568bea638e02a4e7412f1fc9365b138192ccae8223f910db29976b9761342f", func := "bellpull/bellpulllaw03.ShiftFits", spec := "shiftFits", unfollowed := true, recurses := true, apart := false }
def ShiftFitsSaid : Prop := shiftFitsRow.holds Try.pinned (OpenSpec.ofChange shiftFitsSpec)

/-- ITS FALSE NEIGHBOUR: 'it returns false'. Refute it at one input. -/
def shiftFitsWrong : ChangeSpec := { name := "shiftFits", fn := fun _ => fun
  | [d] => { results := [.lit (.bool false)], args := [d] }
  | _ => none }
def ShiftFitsWrongFalsely : Prop := shiftFitsRow.holds Try.pinned (OpenSpec.ofChange shiftFitsWrong)

/-- 'bellpulllaw03.ShiftAre': WHATEVER THE INPUT: true; the input reads as it did. -/
def shiftAreSpec : ChangeSpec := { name := "shiftAre", fn := fun _ => fun
  | [d] => { results := [.lit (.bool true)], args := [d] }
  | _ => none }
def shiftAreRow : OpenClaim := { program := "ytmbbalghofbnbaa", sum := "a4568bea638e02a4e7412f1fc9365b138192ccae8223f910db29976b9761342f", func := "bellpull/bellpulllaw03.ShiftAre", spec := "shiftAre", unfollowed := true, recurses := true, apart := false }
def ShiftAreSaid : Prop := shiftAreRow.holds Try.pinned (OpenSpec.ofChange shiftAreSpec)

/-- ITS FALSE NEIGHBOUR: 'it returns false'. Refute it at one input. -/
def shiftAreWrong : ChangeSpec := { name := "shiftAre", fn := fun _ => fun
  | [d] => { results := [.lit (.bool false)], args := [d] }
  | _ => none }
def ShiftAreWrongFalsely : Prop := shiftAreRow.holds Try.pinned (OpenSpec.ofChange shiftAreWrong)

/-- 'bellpulllaw03.ShiftBest': WHATEVER THE INPUT: true; the input reads as it did. -/
def shiftBestSpec : ChangeSpec := { name := "shiftBest", fn := fun _ => fun
  | [d1, d2] => { results := [.lit (.bool true)], args := [d1, d2] }
  | _ => none }
def shiftBestRow : OpenClaim := { program := "ytmbbalghofbnbaa", sum := "a4568bea638e02a4e7412f1fc9365b138192ccae8223f910db29976b9761342f", func := "bellpull/bellpulllaw03.ShiftBest", spec := "shiftBest", unfollowed := true, recurses := true, apart := false }
def ShiftBestSaid : Prop := shiftBestRow.holds Try.pinned (OpenSpec.ofChange shiftBestSpec)

/-- ITS FALSE NEIGHBOUR: 'it returns false'. Refute it at one input. -/
def shiftBestWrong : ChangeSpec := { name := "shiftBest", fn := fun _ => fun
  | [d1, d2] => { results := [.lit (.bool false)], args := [d1, d2] }
  | _ => none }
def ShiftBestWrongFalsely : Prop := shiftBestRow.holds Try.pinned (OpenSpec.ofChange shiftBestWrong)

/- THE SECOND FORM. 'bulk': how many values and letters a reading holds, each counted each time it is reached (what is shared counts as often as it is met; a slice's spare places count too). A statement '..UptoSaid' is the law's where the arguments, and the package variables that the reading takes, are together of bulk at most 1048576: NARROWER than '..Said'. Prove '..Said' where nothing that the law and all that it calls make is longer than what came in: it says more and counts as full. Else prove '..UptoSaid'. A law counts once. -/
mutual
def uptoBulk {H : Type} : DataW H → Nat
  | .lit (.string bytes) => bytes.length + 1
  | .lit _ => 1
  | .nil => 1
  | .ptr d => uptoBulk d + 1
  | .slice elems spare => uptoBulkAll elems + uptoBulkAll spare + 1
  | .agg parts => uptoBulkAll parts + 1
  | .iface _ d => uptoBulk d + 1
  | .map entries => uptoBulkEntries entries + 1
  | .held _ => 1
def uptoBulkAll {H : Type} : List (DataW H) → Nat
  | [] => 0
  | d :: r => uptoBulk d + uptoBulkAll r
def uptoBulkEntries {H : Type} : List (Lit × DataW H) → Nat
  | [] => 0
  | x :: r => uptoBulkEntry x + uptoBulkEntries r
def uptoBulkEntry {H : Type} : Lit × DataW H → Nat
  | (.string bytes, d) => bytes.length + uptoBulk d + 1
  | (_, d) => uptoBulk d + 1
 end
def uptoSmall : (H : Type) → List (DataW H) → Bool := fun _ ds => decide (uptoBulkAll ds ≤ 1048576)
def OpenSpec.upto (s : _root_.Go.ChangeSpec) : _root_.Go.OpenSpec := { _root_.Go.OpenSpec.ofChange s with cond := some uptoSmall }

/-- 'bellpulllaw03.ShiftDepths', WHERE WHAT IT READS IS OF BULK AT MOST 1048576: true; the input reads as it did. -/
def shiftDepthsUptoRow : OpenClaim := { program := "ytmbbalghofbnbaa", sum := "a4568bea638e02a4e7412f1fc9365b138192ccae8223f910db29976b9761342f", func := "bellpull/bellpulllaw03.ShiftDepths", spec := "shiftDepths", unfollowed := true, recurses := true, apart := false, narrowed := true }
def ShiftDepthsUptoSaid : Prop := shiftDepthsUptoRow.holds Try.pinned (OpenSpec.upto shiftDepthsSpec)

/-- 'bellpulllaw03.ShiftProper', WHERE WHAT IT READS IS OF BULK AT MOST 1048576: true; the input reads as it did. -/
def shiftProperUptoRow : OpenClaim := { program := "ytmbbalghofbnbaa", sum := "a4568bea638e02a4e7412f1fc9365b138192ccae8223f910db29976b9761342f", func := "bellpull/bellpulllaw03.ShiftProper", spec := "shiftProper", unfollowed := true, recurses := true, apart := false, narrowed := true }
def ShiftProperUptoSaid : Prop := shiftProperUptoRow.holds Try.pinned (OpenSpec.upto shiftProperSpec)

/-- 'bellpulllaw03.ShiftLevels', WHERE WHAT IT READS IS OF BULK AT MOST 1048576: true; the input reads as it did. -/
def shiftLevelsUptoRow : OpenClaim := { program := "ytmbbalghofbnbaa", sum := "a4568bea638e02a4e7412f1fc9365b138192ccae8223f910db29976b9761342f", func := "bellpull/bellpulllaw03.ShiftLevels", spec := "shiftLevels", unfollowed := true, recurses := true, apart := false, narrowed := true }
def ShiftLevelsUptoSaid : Prop := shiftLevelsUptoRow.holds Try.pinned (OpenSpec.upto shiftLevelsSpec)

/-- 'bellpulllaw03.ShiftTrotter', WHERE WHAT IT READS IS OF BULK AT MOST 1048576: true; the input reads as it did. -/
def shiftTrotterUptoRow : OpenClaim := { program := "ytmbbalghofbnbaa", sum := "a4568bea638e02a4e7412f1fc9365b138192ccae8223f910db29976b9761342f", func := "bellpull/bellpulllaw03.ShiftTrotter", spec := "shiftTrotter", unfollowed := true, recurses := true, apart := false, narrowed := true }
def ShiftTrotterUptoSaid : Prop := shiftTrotterUptoRow.holds Try.pinned (OpenSpec.upto shiftTrotterSpec)

/-- 'bellpulllaw03.ShiftFirst', WHERE WHAT IT READS IS OF BULK AT MOST 1048576: true; the input reads as it did. -/
def shiftFirstUptoRow : OpenClaim := { program := "ytmbbalghofbnbaa", sum := "a4568bea638e02a4e7412f1fc9365b138192ccae8223f910db29976b9761342f", func := "bellpull/bellpulllaw03.ShiftFirst", spec := "shiftFirst", unfollowed := true, recurses := true, apart := false, narrowed := true }
def ShiftFirstUptoSaid : Prop := shiftFirstUptoRow.holds Try.pinned (OpenSpec.upto shiftFirstSpec)

/-- 'bellpulllaw03.ShiftOnline', WHERE WHAT IT READS IS OF BULK AT MOST 1048576: true; the input reads as it did. -/
def shiftOnlineUptoRow : OpenClaim := { program := "ytmbbalghofbnbaa", sum := "a4568bea638e02a4e7412f1fc9365b138192ccae8223f910db29976b9761342f", func := "bellpull/bellpulllaw03.ShiftOnline", spec := "shiftOnline", unfollowed := true, recurses := true, apart := false, narrowed := true }
def ShiftOnlineUptoSaid : Prop := shiftOnlineUptoRow.holds Try.pinned (OpenSpec.upto shiftOnlineSpec)

/-- 'bellpulllaw03.ShiftMirrored', WHERE WHAT IT READS IS OF BULK AT MOST 1048576: true; the input reads as it did. -/
def shiftMirroredUptoRow : OpenClaim := { program := "ytmbbalghofbnbaa", sum := "a4568bea638e02a4e7412f1fc9365b138192ccae8223f910db29976b9761342f", func := "bellpull/bellpulllaw03.ShiftMirrored", spec := "shiftMirrored", unfollowed := true, recurses := true, apart := false, narrowed := true }
def ShiftMirroredUptoSaid : Prop := shiftMirroredUptoRow.holds Try.pinned (OpenSpec.upto shiftMirroredSpec)

/-- 'bellpulllaw03.ShiftStretched', WHERE WHAT IT READS IS OF BULK AT MOST 1048576: true; the input reads as it did. -/
def shiftStretchedUptoRow : OpenClaim := { program := "ytmbbalghofbnbaa", sum := "a4568bea638e02a4e7412f1fc9365b138192ccae8223f910db29976b9761342f", func := "bellpull/bellpulllaw03.ShiftStretched", spec := "shiftStretched", unfollowed := true, recurses := true, apart := false, narrowed := true }
def ShiftStretchedUptoSaid : Prop := shiftStretchedUptoRow.holds Try.pinned (OpenSpec.upto shiftStretchedSpec)

/-- 'bellpulllaw03.ShiftDeepest', WHERE WHAT IT READS IS OF BULK AT MOST 1048576: true; the input reads as it did. -/
def shiftDeepestUptoRow : OpenClaim := { program := "ytmbbalghofbnbaa", sum := "a4568bea638e02a4e7412f1fc9365b138192ccae8223f910db29976b9761342f", func := "bellpull/bellpulllaw03.ShiftDeepest", spec := "shiftDeepest", unfollowed := true, recurses := true, apart := false, narrowed := true }
def ShiftDeepestUptoSaid : Prop := shiftDeepestUptoRow.holds Try.pinned (OpenSpec.upto shiftDeepestSpec)

/-- 'bellpulllaw03.ShiftFits', WHERE WHAT IT READS IS OF BULK AT MOST 1048576: true; the input reads as it did. -/
def shiftFitsUptoRow : OpenClaim := { program := "ytmbbalghofbnbaa", sum := "a4568bea638e02a4e7412f1fc9365b138192ccae8223f910db29976b9761342f", func := "bellpull/bellpulllaw03.ShiftFits", spec := "shiftFits", unfollowed := true, recurses := true, apart := false, narrowed := true }
def ShiftFitsUptoSaid : Prop := shiftFitsUptoRow.holds Try.pinned (OpenSpec.upto shiftFitsSpec)

/-- 'bellpulllaw03.ShiftAre', WHERE WHAT IT READS IS OF BULK AT MOST 1048576: true; the input reads as it did. -/
def shiftAreUptoRow : OpenClaim := { program := "ytmbbalghofbnbaa", sum := "a4568bea638e02a4e7412f1fc9365b138192ccae8223f910db29976b9761342f", func := "bellpull/bellpulllaw03.ShiftAre", spec := "shiftAre", unfollowed := true, recurses := true, apart := false, narrowed := true }
def ShiftAreUptoSaid : Prop := shiftAreUptoRow.holds Try.pinned (OpenSpec.upto shiftAreSpec)

/-- 'bellpulllaw03.ShiftBest', WHERE WHAT IT READS IS OF BULK AT MOST 1048576: true; the input reads as it did. -/
def shiftBestUptoRow : OpenClaim := { program := "ytmbbalghofbnbaa", sum := "a4568bea638e02a4e7412f1fc9365b138192ccae8223f910db29976b9761342f", func := "bellpull/bellpulllaw03.ShiftBest", spec := "shiftBest", unfollowed := true, recurses := true, apart := false, narrowed := true }
def ShiftBestUptoSaid : Prop := shiftBestUptoRow.holds Try.pinned (OpenSpec.upto shiftBestSpec)

end Rows
end Go.Proofs.Ytmbbalghofbnbaa
