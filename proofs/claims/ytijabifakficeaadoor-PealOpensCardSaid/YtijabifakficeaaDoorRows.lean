/-
  NARROWER THAN 'FOR EVERY INPUT', by the rows' own cells (each row's printed sentence says how): PealKept: laid · PealOpens: laid · PealDisks: laid · PealSynced: laid · PealRefused: laid · PealForever: laid · PealCloned: laid · PealNobody: laid.
  DERIVED. THE GIVEN ROWS OF THIS SEAT. 8 by the template 'for every input the law returns true; each argument reads behind the call as it read before'; 0 by the template 'total and deterministic' (their statements: YtijabifakficeaaDoorTotals.lean).
  GIVEN WITH THE SEED: the statements are not yours to turn. If you find one false, say at which input.
  Laid BY PROGRAM, IN A SANDBOX (cutbox-rows.mjs): the forced cells as the released guide's own fill.sh prints them over the translation 04b6a8d21be1958e… (all of the seat's roots in one cut). By AI agents, Wed Nov 11 2026. No macro, syntax, notation, axiom, sorry.
-/
import Derived.Test.YtijabifakficeaaDoorChecked
import GoSem.Claim
import GoSem.ClaimJoined
import GoSem.ClaimMapViews
import Derived.JoinedTies
import Derived.KernelRfl
namespace Go.Proofs.YtijabifakficeaaDoor
/- THE CELL 'sum', in the pinned program and in every row, IS THE sha256 OF THE DUMP (.gsa) THAT YtijabifakficeaaDoorProg.lean LOADS. Nothing in Lean hashes anything: it is a label: what it is worth is what the hold of that sum in a sandbox is worth. -/
noncomputable def Tryd.pinned : Pinned := { name := "ytijabifakficeaadoor", sum := "04b6a8d21be1958e3a350513900c18ab8ef155643cd89d946a3202a807d83ee9", checked := Tryd.checked }
namespace Rows
def none {H : Type} : Left H := { results := [], args := [] }

/- WHAT THE LISTED PACKAGE-LEVEL VARIABLES READ AS WHEN THE CALL BEGINS. Each datum BY PROGRAM (the guide's laid-datum.mjs) off the statement by which the dump's own 'gosem.cut.vars' lays the variable. In a bare row this is a premise. The card (YtijabifakficeaaDoorCards.lean) ties it to the program's text. -/
def laid_bellpull_peal_errImage {H : Type} : DataW H := .iface "*errors.errorString" (.ptr (.agg [.lit (.string [109, 97, 108, 102, 111, 114, 109, 101, 100, 32, 105, 109, 97, 103, 101])]))

/-- 'bellpulllaw10.PealKept': WHATEVER THE INPUT: true; the input reads as it did. -/
def pealKeptSpec : ChangeSpec := { name := "pealKept", fn := fun _ => fun
  | [d1, d2] => { results := [.lit (.bool true)], args := [d1, d2] }
  | _ => none }
def pealKeptRow : OpenClaim := { program := "ytijabifakficeaadoor", sum := "04b6a8d21be1958e3a350513900c18ab8ef155643cd89d946a3202a807d83ee9", func := "bellpull/bellpulllaw10.PealKept", spec := "pealKept", unfollowed := true, recurses := true, named := ["bellpull/peal.errImage"], apart := false, laid := [("bellpull/peal.errImage", laid_bellpull_peal_errImage)] }
def PealKeptSaid : Prop := pealKeptRow.holds Tryd.pinned (OpenSpec.ofChange pealKeptSpec)

/-- ITS FALSE NEIGHBOUR: 'it returns false'. Refute it at one input. -/
def pealKeptWrong : ChangeSpec := { name := "pealKept", fn := fun _ => fun
  | [d1, d2] => { results := [.lit (.bool false)], args := [d1, d2] }
  | _ => none }
def PealKeptWrongFalsely : Prop := pealKeptRow.holds Tryd.pinned (OpenSpec.ofChange pealKeptWrong)

/-- 'bellpulllaw10.PealOpens': WHATEVER THE INPUT: true; the input reads as it did. -/
def pealOpensSpec : ChangeSpec := { name := "pealOpens", fn := fun _ => fun
  | [d1, d2] => { results := [.lit (.bool true)], args := [d1, d2] }
  | _ => none }
def pealOpensRow : OpenClaim := { program := "ytijabifakficeaadoor", sum := "04b6a8d21be1958e3a350513900c18ab8ef155643cd89d946a3202a807d83ee9", func := "bellpull/bellpulllaw10.PealOpens", spec := "pealOpens", unfollowed := true, recurses := true, named := ["bellpull/peal.errImage"], apart := false, laid := [("bellpull/peal.errImage", laid_bellpull_peal_errImage)] }
def PealOpensSaid : Prop := pealOpensRow.holds Tryd.pinned (OpenSpec.ofChange pealOpensSpec)

/-- ITS FALSE NEIGHBOUR: 'it returns false'. Refute it at one input. -/
def pealOpensWrong : ChangeSpec := { name := "pealOpens", fn := fun _ => fun
  | [d1, d2] => { results := [.lit (.bool false)], args := [d1, d2] }
  | _ => none }
def PealOpensWrongFalsely : Prop := pealOpensRow.holds Tryd.pinned (OpenSpec.ofChange pealOpensWrong)

/-- 'bellpulllaw10.PealDisks': WHATEVER THE INPUT: true; the input reads as it did. -/
def pealDisksSpec : ChangeSpec := { name := "pealDisks", fn := fun _ => fun
  | [d] => { results := [.lit (.bool true)], args := [d] }
  | _ => none }
def pealDisksRow : OpenClaim := { program := "ytijabifakficeaadoor", sum := "04b6a8d21be1958e3a350513900c18ab8ef155643cd89d946a3202a807d83ee9", func := "bellpull/bellpulllaw10.PealDisks", spec := "pealDisks", inPlace := ["maps.clone"], unfollowed := true, recurses := true, named := ["bellpull/peal.errImage"], apart := false, laid := [("bellpull/peal.errImage", laid_bellpull_peal_errImage)] }
def PealDisksSaid : Prop := pealDisksRow.holds Tryd.pinned (OpenSpec.ofChange pealDisksSpec)

/-- ITS FALSE NEIGHBOUR: 'it returns false'. Refute it at one input. -/
def pealDisksWrong : ChangeSpec := { name := "pealDisks", fn := fun _ => fun
  | [d] => { results := [.lit (.bool false)], args := [d] }
  | _ => none }
def PealDisksWrongFalsely : Prop := pealDisksRow.holds Tryd.pinned (OpenSpec.ofChange pealDisksWrong)

/-- 'bellpulllaw10.PealSynced': WHATEVER THE INPUT: true; the input reads as it did. -/
def pealSyncedSpec : ChangeSpec := { name := "pealSynced", fn := fun _ => fun
  | [d1, d2] => { results := [.lit (.bool true)], args := [d1, d2] }
  | _ => none }
def pealSyncedRow : OpenClaim := { program := "ytijabifakficeaadoor", sum := "04b6a8d21be1958e3a350513900c18ab8ef155643cd89d946a3202a807d83ee9", func := "bellpull/bellpulllaw10.PealSynced", spec := "pealSynced", inPlace := ["maps.clone"], unfollowed := true, recurses := true, named := ["bellpull/peal.errImage"], apart := false, laid := [("bellpull/peal.errImage", laid_bellpull_peal_errImage)] }
def PealSyncedSaid : Prop := pealSyncedRow.holds Tryd.pinned (OpenSpec.ofChange pealSyncedSpec)

/-- ITS FALSE NEIGHBOUR: 'it returns false'. Refute it at one input. -/
def pealSyncedWrong : ChangeSpec := { name := "pealSynced", fn := fun _ => fun
  | [d1, d2] => { results := [.lit (.bool false)], args := [d1, d2] }
  | _ => none }
def PealSyncedWrongFalsely : Prop := pealSyncedRow.holds Tryd.pinned (OpenSpec.ofChange pealSyncedWrong)

/-- 'bellpulllaw10.PealRefused': WHATEVER THE INPUT: true; the input reads as it did. -/
def pealRefusedSpec : ChangeSpec := { name := "pealRefused", fn := fun _ => fun
  | [d] => { results := [.lit (.bool true)], args := [d] }
  | _ => none }
def pealRefusedRow : OpenClaim := { program := "ytijabifakficeaadoor", sum := "04b6a8d21be1958e3a350513900c18ab8ef155643cd89d946a3202a807d83ee9", func := "bellpull/bellpulllaw10.PealRefused", spec := "pealRefused", inPlace := ["maps.clone"], unfollowed := true, recurses := true, named := ["bellpull/peal.errImage"], apart := false, laid := [("bellpull/peal.errImage", laid_bellpull_peal_errImage)] }
def PealRefusedSaid : Prop := pealRefusedRow.holds Tryd.pinned (OpenSpec.ofChange pealRefusedSpec)

/-- ITS FALSE NEIGHBOUR: 'it returns false'. Refute it at one input. -/
def pealRefusedWrong : ChangeSpec := { name := "pealRefused", fn := fun _ => fun
  | [d] => { results := [.lit (.bool false)], args := [d] }
  | _ => none }
def PealRefusedWrongFalsely : Prop := pealRefusedRow.holds Tryd.pinned (OpenSpec.ofChange pealRefusedWrong)

/-- 'bellpulllaw10.PealForever': WHATEVER THE INPUT: true; the input reads as it did. -/
def pealForeverSpec : ChangeSpec := { name := "pealForever", fn := fun _ => fun
  | [d1, d2] => { results := [.lit (.bool true)], args := [d1, d2] }
  | _ => none }
def pealForeverRow : OpenClaim := { program := "ytijabifakficeaadoor", sum := "04b6a8d21be1958e3a350513900c18ab8ef155643cd89d946a3202a807d83ee9", func := "bellpull/bellpulllaw10.PealForever", spec := "pealForever", inPlace := ["maps.clone"], unfollowed := true, recurses := true, named := ["bellpull/peal.errImage"], apart := false, laid := [("bellpull/peal.errImage", laid_bellpull_peal_errImage)] }
def PealForeverSaid : Prop := pealForeverRow.holds Tryd.pinned (OpenSpec.ofChange pealForeverSpec)

/-- ITS FALSE NEIGHBOUR: 'it returns false'. Refute it at one input. -/
def pealForeverWrong : ChangeSpec := { name := "pealForever", fn := fun _ => fun
  | [d1, d2] => { results := [.lit (.bool false)], args := [d1, d2] }
  | _ => none }
def PealForeverWrongFalsely : Prop := pealForeverRow.holds Tryd.pinned (OpenSpec.ofChange pealForeverWrong)

/-- 'bellpulllaw10.PealCloned': WHATEVER THE INPUT: true; the input reads as it did. -/
def pealClonedSpec : ChangeSpec := { name := "pealCloned", fn := fun _ => fun
  | [d1, d2] => { results := [.lit (.bool true)], args := [d1, d2] }
  | _ => none }
def pealClonedRow : OpenClaim := { program := "ytijabifakficeaadoor", sum := "04b6a8d21be1958e3a350513900c18ab8ef155643cd89d946a3202a807d83ee9", func := "bellpull/bellpulllaw10.PealCloned", spec := "pealCloned", inPlace := ["maps.clone"], unfollowed := true, recurses := true, named := ["bellpull/peal.errImage"], apart := false, laid := [("bellpull/peal.errImage", laid_bellpull_peal_errImage)] }
def PealClonedSaid : Prop := pealClonedRow.holds Tryd.pinned (OpenSpec.ofChange pealClonedSpec)

/-- ITS FALSE NEIGHBOUR: 'it returns false'. Refute it at one input. -/
def pealClonedWrong : ChangeSpec := { name := "pealCloned", fn := fun _ => fun
  | [d1, d2] => { results := [.lit (.bool false)], args := [d1, d2] }
  | _ => none }
def PealClonedWrongFalsely : Prop := pealClonedRow.holds Tryd.pinned (OpenSpec.ofChange pealClonedWrong)

/-- 'bellpulllaw10.PealNobody': WHATEVER THE INPUT: true; the input reads as it did. -/
def pealNobodySpec : ChangeSpec := { name := "pealNobody", fn := fun _ => fun
  | [d1, d2] => { results := [.lit (.bool true)], args := [d1, d2] }
  | _ => none }
def pealNobodyRow : OpenClaim := { program := "ytijabifakficeaadoor", sum := "04b6a8d21be1958e3a350513900c18ab8ef155643cd89d946a3202a807d83ee9", func := "bellpull/bellpulllaw10.PealNobody", spec := "pealNobody", inPlace := ["maps.clone"], unfollowed := true, recurses := true, named := ["bellpull/peal.errImage"], apart := false, laid := [("bellpull/peal.errImage", laid_bellpull_peal_errImage)] }
def PealNobodySaid : Prop := pealNobodyRow.holds Tryd.pinned (OpenSpec.ofChange pealNobodySpec)

/-- ITS FALSE NEIGHBOUR: 'it returns false'. Refute it at one input. -/
def pealNobodyWrong : ChangeSpec := { name := "pealNobody", fn := fun _ => fun
  | [d1, d2] => { results := [.lit (.bool false)], args := [d1, d2] }
  | _ => none }
def PealNobodyWrongFalsely : Prop := pealNobodyRow.holds Tryd.pinned (OpenSpec.ofChange pealNobodyWrong)

/- THE SECOND FORM. 'bulk': how many values and letters a reading holds, each counted each time it is reached (what is shared counts as often as it is met; a slice's spare places count too). A statement '..UptoSaid' is the law's where the arguments, and the package variables that the reading takes, are together of bulk at most 1048576: NARROWER than '..Said'. Prove '..Said' where nothing that the law and all that it calls make is longer than what came in: it says more and counts as full. Else prove '..UptoSaid'. A law counts once. -/
mutual
def uptoBulk {H : Type} : DataW H → Nat
  | .lit (.string bytes) => bytes.length + 1
  | .lit _ => 1
  | .nil => 1
  | .ptr d => uptoBulk d + 1
  | .slice elems spare => uptoBulkAll elems + uptoBulkAll spare + 1
  | .agg parts => uptoBulkAll parts + 1
  | .iface _ d => uptoBulk d + 1
  | .map entries => uptoBulkEntries entries + 1
  | .held _ => 1
def uptoBulkAll {H : Type} : List (DataW H) → Nat
  | [] => 0
  | d :: r => uptoBulk d + uptoBulkAll r
def uptoBulkEntries {H : Type} : List (Lit × DataW H) → Nat
  | [] => 0
  | x :: r => uptoBulkEntry x + uptoBulkEntries r
def uptoBulkEntry {H : Type} : Lit × DataW H → Nat
  | (.string bytes, d) => bytes.length + uptoBulk d + 1
  | (_, d) => uptoBulk d + 1
 end
def uptoSmall : (H : Type) → List (DataW H) → Bool := fun _ ds => decide (uptoBulkAll ds ≤ 1048576)
def OpenSpec.upto (s : _root_.Go.ChangeSpec) : _root_.Go.OpenSpec := { _root_.Go.OpenSpec.ofChange s with cond := some uptoSmall }

/-- 'bellpulllaw10.PealKept', WHERE WHAT IT READS IS OF BULK AT MOST 1048576: true; the input reads as it did. -/
def pealKeptUptoRow : OpenClaim := { program := "ytijabifakficeaadoor", sum := "04b6a8d21be1958e3a350513900c18ab8ef155643cd89d946a3202a807d83ee9", func := "bellpull/bellpulllaw10.PealKept", spec := "pealKept", unfollowed := true, recurses := true, named := ["bellpull/peal.errImage"], apart := false, laid := [("bellpull/peal.errImage", laid_bellpull_peal_errImage)], narrowed := true }
def PealKeptUptoSaid : Prop := pealKeptUptoRow.holds Tryd.pinned (OpenSpec.upto pealKeptSpec)

/-- 'bellpulllaw10.PealOpens', WHERE WHAT IT READS IS OF BULK AT MOST 1048576: true; the input reads as it did. -/
def pealOpensUptoRow : OpenClaim := { program := "ytijabifakficeaadoor", sum := "04b6a8d21be1958e3a350513900c18ab8ef155643cd89d946a3202a807d83ee9", func := "bellpull/bellpulllaw10.PealOpens", spec := "pealOpens", unfollowed := true, recurses := true, named := ["bellpull/peal.errImage"], apart := false, laid := [("bellpull/peal.errImage", laid_bellpull_peal_errImage)], narrowed := true }
def PealOpensUptoSaid : Prop := pealOpensUptoRow.holds Tryd.pinned (OpenSpec.upto pealOpensSpec)

/-- 'bellpulllaw10.PealDisks', WHERE WHAT IT READS IS OF BULK AT MOST 1048576: true; the input reads as it did. -/
def pealDisksUptoRow : OpenClaim := { program := "ytijabifakficeaadoor", sum := "04b6a8d21be1958e3a350513900c18ab8ef155643cd89d946a3202a807d83ee9", func := "bellpull/bellpulllaw10.PealDisks", spec := "pealDisks", inPlace := ["maps.clone"], unfollowed := true, recurses := true, named := ["bellpull/peal.errImage"], apart := false, laid := [("bellpull/peal.errImage", laid_bellpull_peal_errImage)], narrowed := true }
def PealDisksUptoSaid : Prop := pealDisksUptoRow.holds Tryd.pinned (OpenSpec.upto pealDisksSpec)

/-- 'bellpulllaw10.PealSynced', WHERE WHAT IT READS IS OF BULK AT MOST 1048576: true; the input reads as it did. -/
def pealSyncedUptoRow : OpenClaim := { program := "ytijabifakficeaadoor", sum := "04b6a8d21be1958e3a350513900c18ab8ef155643cd89d946a3202a807d83ee9", func := "bellpull/bellpulllaw10.PealSynced", spec := "pealSynced", inPlace := ["maps.clone"], unfollowed := true, recurses := true, named := ["bellpull/peal.errImage"], apart := false, laid := [("bellpull/peal.errImage", laid_bellpull_peal_errImage)], narrowed := true }
def PealSyncedUptoSaid : Prop := pealSyncedUptoRow.holds Tryd.pinned (OpenSpec.upto pealSyncedSpec)

/-- 'bellpulllaw10.PealRefused', WHERE WHAT IT READS IS OF BULK AT MOST 1048576: true; the input reads as it did. -/
def pealRefusedUptoRow : OpenClaim := { program := "ytijabifakficeaadoor", sum := "04b6a8d21be1958e3a350513900c18ab8ef155643cd89d946a3202a807d83ee9", func := "bellpull/bellpulllaw10.PealRefused", spec := "pealRefused", inPlace := ["maps.clone"], unfollowed := true, recurses := true, named := ["bellpull/peal.errImage"], apart := false, laid := [("bellpull/peal.errImage", laid_bellpull_peal_errImage)], narrowed := true }
def PealRefusedUptoSaid : Prop := pealRefusedUptoRow.holds Tryd.pinned (OpenSpec.upto pealRefusedSpec)

/-- 'bellpulllaw10.PealForever', WHERE WHAT IT READS IS OF BULK AT MOST 1048576: true; the input reads as it did. -/
def pealForeverUptoRow : OpenClaim := { program := "ytijabifakficeaadoor", sum := "04b6a8d21be1958e3a350513900c18ab8ef155643cd89d946a3202a807d83ee9", func := "bellpull/bellpulllaw10.PealForever", spec := "pealForever", inPlace := ["maps.clone"], unfollowed := true, recurses := true, named := ["bellpull/peal.errImage"], apart := false, laid := [("bellpull/peal.errImage", laid_bellpull_peal_errImage)], narrowed := true }
def PealForeverUptoSaid : Prop := pealForeverUptoRow.holds Tryd.pinned (OpenSpec.upto pealForeverSpec)

/-- 'bellpulllaw10.PealCloned', WHERE WHAT IT READS IS OF BULK AT MOST 1048576: true; the input reads as it did. -/
def pealClonedUptoRow : OpenClaim := { program := "ytijabifakficeaadoor", sum := "04b6a8d21be1958e3a350513900c18ab8ef155643cd89d946a3202a807d83ee9", func := "bellpull/bellpulllaw10.PealCloned", spec := "pealCloned", inPlace := ["maps.clone"], unfollowed := true, recurses := true, named := ["bellpull/peal.errImage"], apart := false, laid := [("bellpull/peal.errImage", laid_bellpull_peal_errImage)], narrowed := true }
def PealClonedUptoSaid : Prop := pealClonedUptoRow.holds Tryd.pinned (OpenSpec.upto pealClonedSpec)

/-- 'bellpulllaw10.PealNobody', WHERE WHAT IT READS IS OF BULK AT MOST 1048576: true; the input reads as it did. -/
def pealNobodyUptoRow : OpenClaim := { program := "ytijabifakficeaadoor", sum := "04b6a8d21be1958e3a350513900c18ab8ef155643cd89d946a3202a807d83ee9", func := "bellpull/bellpulllaw10.PealNobody", spec := "pealNobody", inPlace := ["maps.clone"], unfollowed := true, recurses := true, named := ["bellpull/peal.errImage"], apart := false, laid := [("bellpull/peal.errImage", laid_bellpull_peal_errImage)], narrowed := true }
def PealNobodyUptoSaid : Prop := pealNobodyUptoRow.holds Tryd.pinned (OpenSpec.upto pealNobodySpec)

end Rows
end Go.Proofs.YtijabifakficeaaDoor
