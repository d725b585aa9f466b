/- Printed by VC.lean: what the executor asks. -/
import Derived.Test.YtmbbalghofbnbaaS3
namespace Go.SX.Sh
open Go Go.Proofs
theorem g19_eq  : g19  = (
 (0 : Nat) + (1 : Nat) + (1 : Nat) + (1 : Nat) ≤ (1000 : Nat) ∧
 (0 : Nat) + (1 : Nat) + (1 : Nat) + (1 : Nat) ≤ (1000 : Nat) ∧
 (0 : Nat) + (1 : Nat) + (1 : Nat) + (1 : Nat) ≤ (1000 : Nat) ∧
 (0 : Nat) + (1 : Nat) + (1 : Nat) + (1 : Nat) ≤ (1000 : Nat) ∧
 (0 : Nat) + (1 : Nat) + (1 : Nat) + (1 : Nat) + (1 : Nat) ≤ (1000 : Nat) ∧
 ((0 : Nat) + (1 : Nat) + (1 : Nat) + (1 : Nat) ≤ (1000 : Nat) ∧ (0 : Nat) + (1 : Nat) + (1 : Nat) + (1 : Nat) ≤ (1000 : Nat)) ∧
 ((guardF [((0 : Int), (2 : Int)), ((4 : Int), (6 : Int)), ((1 : Int), (5 : Int))] firstF).fst.length ≤ (1000 : Nat) ∧
 (0 : Nat) + (1 : Nat) + (1 : Nat) + (1 : Nat) ≤ (1000 : Nat)) ∧
 (decide ((guardF [((0 : Int), (2 : Int)), ((4 : Int), (6 : Int)), ((1 : Int), (5 : Int))] firstF).fst = [(0 : Int), (0 : Int), (1 : Int)]) = true →
 decide ((guardF [((0 : Int), (2 : Int)), ((4 : Int), (6 : Int)), ((1 : Int), (5 : Int))] firstF).fst = [(0 : Int), (0 : Int), (1 : Int)]) = true ∧
 decide ((guardF [((0 : Int), (2 : Int)), ((4 : Int), (6 : Int)), ((1 : Int), (5 : Int))] firstF).fst = [(0 : Int), (0 : Int), (1 : Int)]) = true ∧
 ((guardF [((0 : Int), (2 : Int)), ((4 : Int), (6 : Int)), ((1 : Int), (5 : Int))] firstF).snd = (0 : Int) →
 (guardF [((0 : Int), (2 : Int)), ((4 : Int), (6 : Int)), ((1 : Int), (5 : Int))] firstF).snd = (0 : Int) ∧
 (guardF [((0 : Int), (2 : Int)), ((4 : Int), (6 : Int)), ((1 : Int), (5 : Int))] firstF).snd = (0 : Int) ∧
 (guardF [((0 : Int), (2 : Int)), ((4 : Int), (6 : Int)), ((1 : Int), (5 : Int))] firstF).snd = (0 : Int) ∧
 ((guardF [((0 : Int), (2 : Int)), ((4 : Int), (6 : Int)), ((1 : Int), (5 : Int))] levelsF).fst.length ≤ (1000 : Nat) ∧
 (0 : Nat) + (1 : Nat) + (1 : Nat) + (1 : Nat) ≤ (1000 : Nat)) ∧
 (decide ((guardF [((0 : Int), (2 : Int)), ((4 : Int), (6 : Int)), ((1 : Int), (5 : Int))] levelsF).fst = [(1 : Int), (1 : Int), (2 : Int)]) =
 true →
 decide ((guardF [((0 : Int), (2 : Int)), ((4 : Int), (6 : Int)), ((1 : Int), (5 : Int))] levelsF).fst = [(1 : Int), (1 : Int), (2 : Int)]) =
 true ∧
 decide ((guardF [((0 : Int), (2 : Int)), ((4 : Int), (6 : Int)), ((1 : Int), (5 : Int))] levelsF).fst = [(1 : Int), (1 : Int), (2 : Int)]) =
 true ∧
 decide
 ((guardF [((0 : Int), (2 : Int)), ((4 : Int), (6 : Int)), ((1 : Int), (5 : Int))] levelsF).fst =
 [(1 : Int), (1 : Int), (2 : Int)]) =
 true ∧
 ((guardF [((0 : Int), (2 : Int)), ((4 : Int), (6 : Int)), ((1 : Int), (5 : Int))] levelsF).snd = (0 : Int) →
 (guardF [((0 : Int), (2 : Int)), ((4 : Int), (6 : Int)), ((1 : Int), (5 : Int))] levelsF).snd = (0 : Int) ∧
 (guardF [((0 : Int), (2 : Int)), ((4 : Int), (6 : Int)), ((1 : Int), (5 : Int))] levelsF).snd = (0 : Int) ∧
 (guardF [((0 : Int), (2 : Int)), ((4 : Int), (6 : Int)), ((1 : Int), (5 : Int))] levelsF).snd = (0 : Int) ∧
 ((guardF [((0 : Int), (2 : Int)), ((4 : Int), (6 : Int)), ((1 : Int), (5 : Int))] trotF).fst.length ≤ (1000 : Nat) ∧
 (0 : Nat) + (1 : Nat) + (1 : Nat) + (1 : Nat) ≤ (1000 : Nat)) ∧
 (decide
 ((guardF [((0 : Int), (2 : Int)), ((4 : Int), (6 : Int)), ((1 : Int), (5 : Int))] trotF).fst =
 [(0 : Int), (0 : Int), (1 : Int)]) =
 true →
 decide
 ((guardF [((0 : Int), (2 : Int)), ((4 : Int), (6 : Int)), ((1 : Int), (5 : Int))] trotF).fst =
 [(0 : Int), (0 : Int), (1 : Int)]) =
 true ∧
 decide
 ((guardF [((0 : Int), (2 : Int)), ((4 : Int), (6 : Int)), ((1 : Int), (5 : Int))] trotF).fst =
 [(0 : Int), (0 : Int), (1 : Int)]) =
 true ∧
 decide
 ((guardF [((0 : Int), (2 : Int)), ((4 : Int), (6 : Int)), ((1 : Int), (5 : Int))] trotF).fst =
 [(0 : Int), (0 : Int), (1 : Int)]) =
 true ∧
 ((guardF [((0 : Int), (2 : Int)), ((4 : Int), (6 : Int)), ((1 : Int), (5 : Int))] trotF).snd = (0 : Int) →
 (guardF [((0 : Int), (2 : Int)), ((4 : Int), (6 : Int)), ((1 : Int), (5 : Int))] trotF).snd = (0 : Int) ∧
 (guardF [((0 : Int), (2 : Int)), ((4 : Int), (6 : Int)), ((1 : Int), (5 : Int))] trotF).snd = (0 : Int) ∧
 (guardF [((0 : Int), (2 : Int)), ((4 : Int), (6 : Int)), ((1 : Int), (5 : Int))] trotF).snd = (0 : Int) ∧
 ((depthP [((0 : Int), (2 : Int)), ((4 : Int), (6 : Int)), ((1 : Int), (5 : Int))]).fst = (2 : Int) →
 (depthP [((0 : Int), (2 : Int)), ((4 : Int), (6 : Int)), ((1 : Int), (5 : Int))]).fst = (2 : Int) ∧
 (depthP [((0 : Int), (2 : Int)), ((4 : Int), (6 : Int)), ((1 : Int), (5 : Int))]).fst =
 (2 : Int) ∧
 (depthP [((0 : Int), (2 : Int)), ((4 : Int), (6 : Int)), ((1 : Int), (5 : Int))]).fst =
 (2 : Int) ∧
 ((depthP [((0 : Int), (2 : Int)), ((4 : Int), (6 : Int)), ((1 : Int), (5 : Int))]).snd =
 (0 : Int) →
 (depthP [((0 : Int), (2 : Int)), ((4 : Int), (6 : Int)), ((1 : Int), (5 : Int))]).snd =
 (0 : Int) ∧
 (depthP [((0 : Int), (2 : Int)), ((4 : Int), (6 : Int)), ((1 : Int), (5 : Int))]).snd =
 (0 : Int) ∧
 (depthP
 [((0 : Int), (2 : Int)), ((4 : Int), (6 : Int)),
 ((1 : Int), (5 : Int))]).snd =
 (0 : Int) ∧
 ((deepestP
 [((0 : Int), (1 : Int)), ((2 : Int), (5 : Int)), ((1 : Int), (3 : Int)),
 ((0 : Int), (3 : Int))]).fst =
 (2 : Int) →
 (deepestP
 [((0 : Int), (1 : Int)), ((2 : Int), (5 : Int)), ((1 : Int), (3 : Int)),
 ((0 : Int), (3 : Int))]).fst =
 (2 : Int) ∧
 (deepestP
 [((0 : Int), (1 : Int)), ((2 : Int), (5 : Int)),
 ((1 : Int), (3 : Int)), ((0 : Int), (3 : Int))]).fst =
 (2 : Int) ∧
 (deepestP
 [((0 : Int), (1 : Int)), ((2 : Int), (5 : Int)),
 ((1 : Int), (3 : Int)), ((0 : Int), (3 : Int))]).fst =
 (2 : Int) ∧
 ((deepestP
 [((0 : Int), (1 : Int)), ((2 : Int), (5 : Int)),
 ((1 : Int), (3 : Int)),
 ((0 : Int), (3 : Int))]).snd.fst.length ≤
 (1000 : Nat) ∧
 (0 : Nat) + (1 : Nat) + (1 : Nat) + (1 : Nat) ≤ (1000 : Nat)) ∧
 (decide
 ((deepestP
 [((0 : Int), (1 : Int)), ((2 : Int), (5 : Int)),
 ((1 : Int), (3 : Int)),
 ((0 : Int), (3 : Int))]).snd.fst =
 [(1 : Int), (2 : Int), (3 : Int)]) =
 true →
 decide
 ((deepestP
 [((0 : Int), (1 : Int)), ((2 : Int), (5 : Int)),
 ((1 : Int), (3 : Int)),
 ((0 : Int), (3 : Int))]).snd.fst =
 [(1 : Int), (2 : Int), (3 : Int)]) =
 true ∧
 decide
 ((deepestP
 [((0 : Int), (1 : Int)), ((2 : Int), (5 : Int)),
 ((1 : Int), (3 : Int)),
 ((0 : Int), (3 : Int))]).snd.fst =
 [(1 : Int), (2 : Int), (3 : Int)]) =
 true ∧
 decide
 ((deepestP
 [((0 : Int), (1 : Int)), ((2 : Int), (5 : Int)),
 ((1 : Int), (3 : Int)),
 ((0 : Int), (3 : Int))]).snd.fst =
 [(1 : Int), (2 : Int), (3 : Int)]) =
 true ∧
 ((deepestP
 [((0 : Int), (1 : Int)), ((2 : Int), (5 : Int)),
 ((1 : Int), (3 : Int)),
 ((0 : Int), (3 : Int))]).snd.snd =
 (0 : Int) →
 (deepestP
 [((0 : Int), (1 : Int)), ((2 : Int), (5 : Int)),
 ((1 : Int), (3 : Int)),
 ((0 : Int), (3 : Int))]).snd.snd =
 (0 : Int) ∧
 (deepestP
 [((0 : Int), (1 : Int)),
 ((2 : Int), (5 : Int)),
 ((1 : Int), (3 : Int)),
 ((0 : Int), (3 : Int))]).snd.snd =
 (0 : Int) ∧
 (deepestP
 [((0 : Int), (1 : Int)),
 ((2 : Int), (5 : Int)),
 ((1 : Int), (3 : Int)),
 ((0 : Int), (3 : Int))]).snd.snd =
 (0 : Int) ∧
 ((properP
 [((0 : Int), (2 : Int)),
 ((4 : Int), (6 : Int)),
 ((1 : Int), (5 : Int))]
 [(0 : Int), (0 : Int), (1 : Int)]).fst =
 true →
 (properP
 [((0 : Int), (2 : Int)),
 ((4 : Int), (6 : Int)),
 ((1 : Int), (5 : Int))]
 [(0 : Int), (0 : Int), (1 : Int)]).fst =
 true ∧
 (properP
 [((0 : Int), (2 : Int)),
 ((4 : Int), (6 : Int)),
 ((1 : Int), (5 : Int))]
 [(0 : Int), (0 : Int),
 (1 : Int)]).fst =
 true ∧
 (properP
 [((0 : Int), (2 : Int)),
 ((4 : Int), (6 : Int)),
 ((1 : Int), (5 : Int))]
 [(0 : Int), (0 : Int),
 (1 : Int)]).fst =
 true ∧
 (properP
 [((0 : Int), (2 : Int)),
 ((4 : Int), (6 : Int)),
 ((1 : Int), (5 : Int))]
 [(0 : Int), (0 : Int),
 (1 : Int)]).fst =
 true ∧
 (properP
 [((0 : Int), (2 : Int)),
 ((4 : Int), (6 : Int)),
 ((1 : Int), (5 : Int))]
 [(0 : Int), (0 : Int),
 (1 : Int)]).fst =
 true ∧
 decide
 ((properP
 [((0 : Int), (2 : Int)),
 ((4 : Int), (6 : Int)),
 ((1 : Int), (5 : Int))]
 [(0 : Int), (0 : Int),
 (1 : Int)]).snd =
 (0 : Int)) =
 true) ∧
 ((properP
 [((0 : Int), (2 : Int)),
 ((4 : Int), (6 : Int)),
 ((1 : Int), (5 : Int))]
 [(0 : Int), (0 : Int), (1 : Int)]).fst =
 false →
 (properP
 [((0 : Int), (2 : Int)),
 ((4 : Int), (6 : Int)),
 ((1 : Int), (5 : Int))]
 [(0 : Int), (0 : Int), (1 : Int)]).fst =
 false ∧
 (properP
 [((0 : Int), (2 : Int)),
 ((4 : Int), (6 : Int)),
 ((1 : Int), (5 : Int))]
 [(0 : Int), (0 : Int),
 (1 : Int)]).fst =
 false ∧
 (properP
 [((0 : Int), (2 : Int)),
 ((4 : Int), (6 : Int)),
 ((1 : Int), (5 : Int))]
 [(0 : Int), (0 : Int),
 (1 : Int)]).fst =
 false ∧
 (properP
 [((0 : Int), (2 : Int)),
 ((4 : Int), (6 : Int)),
 ((1 : Int), (5 : Int))]
 [(0 : Int), (0 : Int),
 (1 : Int)]).fst =
 false ∧
 (properP
 [((0 : Int), (2 : Int)),
 ((4 : Int), (6 : Int)),
 ((1 : Int), (5 : Int))]
 [(0 : Int), (0 : Int),
 (1 : Int)]).fst =
 false ∧
 false = true)) ∧
 (¬(deepestP
 [((0 : Int), (1 : Int)), ((2 : Int), (5 : Int)),
 ((1 : Int), (3 : Int)),
 ((0 : Int), (3 : Int))]).snd.snd =
 (0 : Int) →
 ¬(deepestP
 [((0 : Int), (1 : Int)),
 ((2 : Int), (5 : Int)),
 ((1 : Int), (3 : Int)),
 ((0 : Int), (3 : Int))]).snd.snd =
 (0 : Int) ∧
 ¬(deepestP
 [((0 : Int), (1 : Int)),
 ((2 : Int), (5 : Int)),
 ((1 : Int), (3 : Int)),
 ((0 : Int), (3 : Int))]).snd.snd =
 (0 : Int) ∧
 ¬(deepestP
 [((0 : Int), (1 : Int)),
 ((2 : Int), (5 : Int)),
 ((1 : Int), (3 : Int)),
 ((0 : Int), (3 : Int))]).snd.snd =
 (0 : Int) ∧
 false = true)) ∧
 (decide
 ((deepestP
 [((0 : Int), (1 : Int)), ((2 : Int), (5 : Int)),
 ((1 : Int), (3 : Int)),
 ((0 : Int), (3 : Int))]).snd.fst =
 [(1 : Int), (2 : Int), (3 : Int)]) =
 false →
 decide
 ((deepestP
 [((0 : Int), (1 : Int)), ((2 : Int), (5 : Int)),
 ((1 : Int), (3 : Int)),
 ((0 : Int), (3 : Int))]).snd.fst =
 [(1 : Int), (2 : Int), (3 : Int)]) =
 false ∧
 decide
 ((deepestP
 [((0 : Int), (1 : Int)), ((2 : Int), (5 : Int)),
 ((1 : Int), (3 : Int)),
 ((0 : Int), (3 : Int))]).snd.fst =
 [(1 : Int), (2 : Int), (3 : Int)]) =
 false ∧
 decide
 ((deepestP
 [((0 : Int), (1 : Int)), ((2 : Int), (5 : Int)),
 ((1 : Int), (3 : Int)),
 ((0 : Int), (3 : Int))]).snd.fst =
 [(1 : Int), (2 : Int), (3 : Int)]) =
 false ∧
 false = true)) ∧
 (¬(deepestP
 [((0 : Int), (1 : Int)), ((2 : Int), (5 : Int)), ((1 : Int), (3 : Int)),
 ((0 : Int), (3 : Int))]).fst =
 (2 : Int) →
 ¬(deepestP
 [((0 : Int), (1 : Int)), ((2 : Int), (5 : Int)),
 ((1 : Int), (3 : Int)), ((0 : Int), (3 : Int))]).fst =
 (2 : Int) ∧
 ¬(deepestP
 [((0 : Int), (1 : Int)), ((2 : Int), (5 : Int)),
 ((1 : Int), (3 : Int)), ((0 : Int), (3 : Int))]).fst =
 (2 : Int) ∧
 ¬(deepestP
 [((0 : Int), (1 : Int)), ((2 : Int), (5 : Int)),
 ((1 : Int), (3 : Int)), ((0 : Int), (3 : Int))]).fst =
 (2 : Int) ∧
 false = true)) ∧
 (¬(depthP [((0 : Int), (2 : Int)), ((4 : Int), (6 : Int)), ((1 : Int), (5 : Int))]).snd =
 (0 : Int) →
 ¬(depthP [((0 : Int), (2 : Int)), ((4 : Int), (6 : Int)), ((1 : Int), (5 : Int))]).snd =
 (0 : Int) ∧
 ¬(depthP [((0 : Int), (2 : Int)), ((4 : Int), (6 : Int)), ((1 : Int), (5 : Int))]).snd =
 (0 : Int) ∧
 ¬(depthP
 [((0 : Int), (2 : Int)), ((4 : Int), (6 : Int)),
 ((1 : Int), (5 : Int))]).snd =
 (0 : Int) ∧
 false = true)) ∧
 (¬(depthP [((0 : Int), (2 : Int)), ((4 : Int), (6 : Int)), ((1 : Int), (5 : Int))]).fst = (2 : Int) →
 ¬(depthP [((0 : Int), (2 : Int)), ((4 : Int), (6 : Int)), ((1 : Int), (5 : Int))]).fst = (2 : Int) ∧
 ¬(depthP [((0 : Int), (2 : Int)), ((4 : Int), (6 : Int)), ((1 : Int), (5 : Int))]).fst =
 (2 : Int) ∧
 ¬(depthP [((0 : Int), (2 : Int)), ((4 : Int), (6 : Int)), ((1 : Int), (5 : Int))]).fst =
 (2 : Int) ∧
 false = true)) ∧
 (¬(guardF [((0 : Int), (2 : Int)), ((4 : Int), (6 : Int)), ((1 : Int), (5 : Int))] trotF).snd = (0 : Int) →
 ¬(guardF [((0 : Int), (2 : Int)), ((4 : Int), (6 : Int)), ((1 : Int), (5 : Int))] trotF).snd = (0 : Int) ∧
 ¬(guardF [((0 : Int), (2 : Int)), ((4 : Int), (6 : Int)), ((1 : Int), (5 : Int))] trotF).snd = (0 : Int) ∧
 ¬(guardF [((0 : Int), (2 : Int)), ((4 : Int), (6 : Int)), ((1 : Int), (5 : Int))] trotF).snd = (0 : Int) ∧
 false = true)) ∧
 (decide
 ((guardF [((0 : Int), (2 : Int)), ((4 : Int), (6 : Int)), ((1 : Int), (5 : Int))] trotF).fst =
 [(0 : Int), (0 : Int), (1 : Int)]) =
 false →
 decide
 ((guardF [((0 : Int), (2 : Int)), ((4 : Int), (6 : Int)), ((1 : Int), (5 : Int))] trotF).fst =
 [(0 : Int), (0 : Int), (1 : Int)]) =
 false ∧
 decide
 ((guardF [((0 : Int), (2 : Int)), ((4 : Int), (6 : Int)), ((1 : Int), (5 : Int))] trotF).fst =
 [(0 : Int), (0 : Int), (1 : Int)]) =
 false ∧
 decide
 ((guardF [((0 : Int), (2 : Int)), ((4 : Int), (6 : Int)), ((1 : Int), (5 : Int))] trotF).fst =
 [(0 : Int), (0 : Int), (1 : Int)]) =
 false ∧
 false = true)) ∧
 (¬(guardF [((0 : Int), (2 : Int)), ((4 : Int), (6 : Int)), ((1 : Int), (5 : Int))] levelsF).snd = (0 : Int) →
 ¬(guardF [((0 : Int), (2 : Int)), ((4 : Int), (6 : Int)), ((1 : Int), (5 : Int))] levelsF).snd = (0 : Int) ∧
 ¬(guardF [((0 : Int), (2 : Int)), ((4 : Int), (6 : Int)), ((1 : Int), (5 : Int))] levelsF).snd = (0 : Int) ∧
 ¬(guardF [((0 : Int), (2 : Int)), ((4 : Int), (6 : Int)), ((1 : Int), (5 : Int))] levelsF).snd = (0 : Int) ∧ false = true)) ∧
 (decide ((guardF [((0 : Int), (2 : Int)), ((4 : Int), (6 : Int)), ((1 : Int), (5 : Int))] levelsF).fst = [(1 : Int), (1 : Int), (2 : Int)]) =
 false →
 decide ((guardF [((0 : Int), (2 : Int)), ((4 : Int), (6 : Int)), ((1 : Int), (5 : Int))] levelsF).fst = [(1 : Int), (1 : Int), (2 : Int)]) =
 false ∧
 decide ((guardF [((0 : Int), (2 : Int)), ((4 : Int), (6 : Int)), ((1 : Int), (5 : Int))] levelsF).fst = [(1 : Int), (1 : Int), (2 : Int)]) =
 false ∧
 decide
 ((guardF [((0 : Int), (2 : Int)), ((4 : Int), (6 : Int)), ((1 : Int), (5 : Int))] levelsF).fst =
 [(1 : Int), (1 : Int), (2 : Int)]) =
 false ∧
 false = true)) ∧
 (¬(guardF [((0 : Int), (2 : Int)), ((4 : Int), (6 : Int)), ((1 : Int), (5 : Int))] firstF).snd = (0 : Int) →
 ¬(guardF [((0 : Int), (2 : Int)), ((4 : Int), (6 : Int)), ((1 : Int), (5 : Int))] firstF).snd = (0 : Int) ∧
 ¬(guardF [((0 : Int), (2 : Int)), ((4 : Int), (6 : Int)), ((1 : Int), (5 : Int))] firstF).snd = (0 : Int) ∧
 ¬(guardF [((0 : Int), (2 : Int)), ((4 : Int), (6 : Int)), ((1 : Int), (5 : Int))] firstF).snd = (0 : Int) ∧ false = true)) ∧
 (decide ((guardF [((0 : Int), (2 : Int)), ((4 : Int), (6 : Int)), ((1 : Int), (5 : Int))] firstF).fst = [(0 : Int), (0 : Int), (1 : Int)]) = false →
 decide ((guardF [((0 : Int), (2 : Int)), ((4 : Int), (6 : Int)), ((1 : Int), (5 : Int))] firstF).fst = [(0 : Int), (0 : Int), (1 : Int)]) = false ∧
 decide ((guardF [((0 : Int), (2 : Int)), ((4 : Int), (6 : Int)), ((1 : Int), (5 : Int))] firstF).fst = [(0 : Int), (0 : Int), (1 : Int)]) = false ∧
 false = true)) := by
 kernel_rfl

theorem g4_eq (xs : List Sp) (c : List Int) : g4 xs c = (
 ((0 : Int) ≤ (↑(0 : Nat) : Int) ∧ (↑(0 : Nat) : Int) ≤ min (↑c.length : Int) (41 : Int) ∧ min (↑c.length : Int) (41 : Int) ≤ (↑c.length : Int)) ∧
 True ∧
 (True ∧
 Small ((0 : Nat) + (List.drop (↑(0 : Nat) : Int).toNat (List.take (min (↑c.length : Int) (41 : Int)).toNat c)).length) ∧
 ((List.take (41 : Nat) xs).length ≤ (1000 : Nat) ∧ (List.drop (↑(0 : Nat) : Int).toNat (List.take (min (↑c.length : Int) (41 : Int)).toNat c)).length ≤ (1000 : Nat)) ∧
 (List.take (41 : Nat) xs).length ≤ (1000 : Nat) ∧
 (checkF (List.take (41 : Nat) xs) = (0 : Int) →
 checkF (List.take (41 : Nat) xs) = (0 : Int) ∧
 checkF (List.take (41 : Nat) xs) = (0 : Int) ∧
 (¬(↑(List.drop (↑(0 : Nat) : Int).toNat (List.take (min (↑c.length : Int) (41 : Int)).toNat c)).length : Int) = (↑(List.take (41 : Nat) xs).length : Int) →
 ¬(↑(List.drop (↑(0 : Nat) : Int).toNat (List.take (min (↑c.length : Int) (41 : Int)).toNat c)).length : Int) = (↑(List.take (41 : Nat) xs).length : Int) ∧
 ¬(↑(List.drop (↑(0 : Nat) : Int).toNat (List.take (min (↑c.length : Int) (41 : Int)).toNat c)).length : Int) =
 (↑(List.take (41 : Nat) xs).length : Int) ∧
 (∃ (x0 : Nat),
 (x0 ≤ (List.take (41 : Nat) c).length ∧ True) ∧
 (List.drop (↑(0 : Nat) : Int).toNat (List.take (min (↑c.length : Int) (41 : Int)).toNat c) =
 List.drop (↑(0 : Nat) : Int).toNat (List.take (min (↑c.length : Int) (41 : Int)).toNat c) ∧
 True) ∧
 (0 : Int) = (↑x0 : Int) ∧
 (1 : Int) = badArg (List.take (41 : Nat) xs) (List.take (41 : Nat) c) x0 ∧
 (properP (List.take (41 : Nat) xs) (List.drop (↑(0 : Nat) : Int).toNat (List.take (min (↑c.length : Int) (41 : Int)).toNat c))).snd =
 (properP (List.take (41 : Nat) xs) (List.drop (↑(0 : Nat) : Int).toNat (List.take (min (↑c.length : Int) (41 : Int)).toNat c))).snd ∧
 (properP (List.take (41 : Nat) xs) (List.drop (↑(0 : Nat) : Int).toNat (List.take (min (↑c.length : Int) (41 : Int)).toNat c))).fst =
 (properP (List.take (41 : Nat) xs)
 (List.drop (↑(0 : Nat) : Int).toNat (List.take (min (↑c.length : Int) (41 : Int)).toNat c))).fst ∧
 True ∧ List.take (41 : Nat) xs = List.take (41 : Nat) xs ∧ True) ∧
 ∀ (x : Nat),
 x ≤ (List.take (41 : Nat) c).length ∧ True →
 ((↑x : Int) < (↑(List.drop (↑(0 : Nat) : Int).toNat (List.take (min (↑c.length : Int) (41 : Int)).toNat c)).length : Int) →
 (↑x : Int) < (↑(List.drop (↑(0 : Nat) : Int).toNat (List.take (min (↑c.length : Int) (41 : Int)).toNat c)).length : Int) ∧
 (↑x : Int) < (↑(List.drop (↑(0 : Nat) : Int).toNat (List.take (min (↑c.length : Int) (41 : Int)).toNat c)).length : Int) ∧
 (badArg (List.take (41 : Nat) xs) (List.take (41 : Nat) c) x = (0 : Int) →
 badArg (List.take (41 : Nat) xs) (List.take (41 : Nat) c) x = (0 : Int) ∧
 badArg (List.take (41 : Nat) xs) (List.take (41 : Nat) c) x = (0 : Int) ∧
 ((0 : Int) ≤ (↑x : Int) ∧
 (↑x : Int) < (↑(List.drop (↑(0 : Nat) : Int).toNat (List.take (min (↑c.length : Int) (41 : Int)).toNat c)).length : Int)) ∧
 ((List.drop (↑(0 : Nat) : Int).toNat (List.take (min (↑c.length : Int) (41 : Int)).toNat c)).getD (↑x : Int).toNat (0 : Int) <
 (0 : Int) →
 (List.drop (↑(0 : Nat) : Int).toNat (List.take (min (↑c.length : Int) (41 : Int)).toNat c)).getD (↑x : Int).toNat
 (0 : Int) <
 (0 : Int) ∧
 Fits IntKind.i64 ((↑x : Int) + (1 : Int)) ∧
 ∃ (x' : Nat),
 (x' ≤ (List.take (41 : Nat) c).length ∧ True) ∧
 (List.take (41 : Nat) c).length - x' < (List.take (41 : Nat) c).length - x ∧
 (List.drop (↑(0 : Nat) : Int).toNat (List.take (min (↑c.length : Int) (41 : Int)).toNat c) =
 List.drop (↑(0 : Nat) : Int).toNat (List.take (min (↑c.length : Int) (41 : Int)).toNat c) ∧
 True) ∧
 (↑x : Int) + (1 : Int) = (↑x' : Int) ∧
 (1 : Int) = badArg (List.take (41 : Nat) xs) (List.take (41 : Nat) c) x' ∧
 (properP (List.take (41 : Nat) xs)
 (List.drop (↑(0 : Nat) : Int).toNat (List.take (min (↑c.length : Int) (41 : Int)).toNat c))).snd =
 (properP (List.take (41 : Nat) xs)
 (List.drop (↑(0 : Nat) : Int).toNat (List.take (min (↑c.length : Int) (41 : Int)).toNat c))).snd ∧
 (properP (List.take (41 : Nat) xs)
 (List.drop (↑(0 : Nat) : Int).toNat
 (List.take (min (↑c.length : Int) (41 : Int)).toNat c))).fst =
 (properP (List.take (41 : Nat) xs)
 (List.drop (↑(0 : Nat) : Int).toNat
 (List.take (min (↑c.length : Int) (41 : Int)).toNat c))).fst ∧
 True ∧ List.take (41 : Nat) xs = List.take (41 : Nat) xs ∧ True) ∧
 (¬(List.drop (↑(0 : Nat) : Int).toNat (List.take (min (↑c.length : Int) (41 : Int)).toNat c)).getD (↑x : Int).toNat
 (0 : Int) <
 (0 : Int) →
 ¬(List.drop (↑(0 : Nat) : Int).toNat (List.take (min (↑c.length : Int) (41 : Int)).toNat c)).getD (↑x : Int).toNat
 (0 : Int) <
 (0 : Int) ∧
 Fits IntKind.i64 ((↑x : Int) + (1 : Int)) ∧
 ∃ (x' : Nat),
 (x' ≤ (List.take (41 : Nat) c).length ∧ True) ∧
 (List.take (41 : Nat) c).length - x' < (List.take (41 : Nat) c).length - x ∧
 (List.drop (↑(0 : Nat) : Int).toNat (List.take (min (↑c.length : Int) (41 : Int)).toNat c) =
 List.drop (↑(0 : Nat) : Int).toNat (List.take (min (↑c.length : Int) (41 : Int)).toNat c) ∧
 True) ∧
 (↑x : Int) + (1 : Int) = (↑x' : Int) ∧
 badArg (List.take (41 : Nat) xs) (List.take (41 : Nat) c) x =
 badArg (List.take (41 : Nat) xs) (List.take (41 : Nat) c) x' ∧
 (properP (List.take (41 : Nat) xs)
 (List.drop (↑(0 : Nat) : Int).toNat (List.take (min (↑c.length : Int) (41 : Int)).toNat c))).snd =
 (properP (List.take (41 : Nat) xs)
 (List.drop (↑(0 : Nat) : Int).toNat (List.take (min (↑c.length : Int) (41 : Int)).toNat c))).snd ∧
 (properP (List.take (41 : Nat) xs)
 (List.drop (↑(0 : Nat) : Int).toNat
 (List.take (min (↑c.length : Int) (41 : Int)).toNat c))).fst =
 (properP (List.take (41 : Nat) xs)
 (List.drop (↑(0 : Nat) : Int).toNat
 (List.take (min (↑c.length : Int) (41 : Int)).toNat c))).fst ∧
 True ∧ List.take (41 : Nat) xs = List.take (41 : Nat) xs ∧ True)) ∧
 (¬badArg (List.take (41 : Nat) xs) (List.take (41 : Nat) c) x = (0 : Int) →
 ¬badArg (List.take (41 : Nat) xs) (List.take (41 : Nat) c) x = (0 : Int) ∧
 ¬badArg (List.take (41 : Nat) xs) (List.take (41 : Nat) c) x = (0 : Int) ∧
 (¬badArg (List.take (41 : Nat) xs) (List.take (41 : Nat) c) x = (0 : Int) →
 ¬badArg (List.take (41 : Nat) xs) (List.take (41 : Nat) c) x = (0 : Int) ∧
 ((!(properP (List.take (41 : Nat) xs)
 (List.drop (↑(0 : Nat) : Int).toNat (List.take (min (↑c.length : Int) (41 : Int)).toNat c))).fst) =
 true →
 (!(properP (List.take (41 : Nat) xs)
 (List.drop (↑(0 : Nat) : Int).toNat (List.take (min (↑c.length : Int) (41 : Int)).toNat c))).fst) =
 true ∧
 (!(properP (List.take (41 : Nat) xs)
 (List.drop (↑(0 : Nat) : Int).toNat (List.take (min (↑c.length : Int) (41 : Int)).toNat c))).fst) =
 true ∧
 ((properP (List.take (41 : Nat) xs)
 (List.drop (↑(0 : Nat) : Int).toNat (List.take (min (↑c.length : Int) (41 : Int)).toNat c))).snd =
 badArg (List.take (41 : Nat) xs) (List.take (41 : Nat) c) x →
 (properP (List.take (41 : Nat) xs)
 (List.drop (↑(0 : Nat) : Int).toNat (List.take (min (↑c.length : Int) (41 : Int)).toNat c))).snd =
 badArg (List.take (41 : Nat) xs) (List.take (41 : Nat) c) x ∧
 (properP (List.take (41 : Nat) xs)
 (List.drop (↑(0 : Nat) : Int).toNat (List.take (min (↑c.length : Int) (41 : Int)).toNat c))).snd =
 badArg (List.take (41 : Nat) xs) (List.take (41 : Nat) c) x ∧
 (properP (List.take (41 : Nat) xs)
 (List.drop (↑(0 : Nat) : Int).toNat (List.take (min (↑c.length : Int) (41 : Int)).toNat c))).snd =
 badArg (List.take (41 : Nat) xs) (List.take (41 : Nat) c) x ∧
 True ∧ true = true) ∧
 (¬(properP (List.take (41 : Nat) xs)
 (List.drop (↑(0 : Nat) : Int).toNat (List.take (min (↑c.length : Int) (41 : Int)).toNat c))).snd =
 badArg (List.take (41 : Nat) xs) (List.take (41 : Nat) c) x →
 ¬(properP (List.take (41 : Nat) xs)
 (List.drop (↑(0 : Nat) : Int).toNat (List.take (min (↑c.length : Int) (41 : Int)).toNat c))).snd =
 badArg (List.take (41 : Nat) xs) (List.take (41 : Nat) c) x ∧
 ¬(properP (List.take (41 : Nat) xs)
 (List.drop (↑(0 : Nat) : Int).toNat (List.take (min (↑c.length : Int) (41 : Int)).toNat c))).snd =
 badArg (List.take (41 : Nat) xs) (List.take (41 : Nat) c) x ∧
 ¬(properP (List.take (41 : Nat) xs)
 (List.drop (↑(0 : Nat) : Int).toNat
 (List.take (min (↑c.length : Int) (41 : Int)).toNat c))).snd =
 badArg (List.take (41 : Nat) xs) (List.take (41 : Nat) c) x ∧
 false = true)) ∧
 ((!(properP (List.take (41 : Nat) xs)
 (List.drop (↑(0 : Nat) : Int).toNat (List.take (min (↑c.length : Int) (41 : Int)).toNat c))).fst) =
 false →
 (!(properP (List.take (41 : Nat) xs)
 (List.drop (↑(0 : Nat) : Int).toNat (List.take (min (↑c.length : Int) (41 : Int)).toNat c))).fst) =
 false ∧
 (!(properP (List.take (41 : Nat) xs)
 (List.drop (↑(0 : Nat) : Int).toNat (List.take (min (↑c.length : Int) (41 : Int)).toNat c))).fst) =
 false ∧
 false = true)) ∧
 (¬¬badArg (List.take (41 : Nat) xs) (List.take (41 : Nat) c) x = (0 : Int) →
 ¬¬badArg (List.take (41 : Nat) xs) (List.take (41 : Nat) c) x = (0 : Int) ∧
 ((List.take (41 : Nat) xs).length ≤ (1000 : Nat) ∧
 (List.drop (↑(0 : Nat) : Int).toNat (List.take (min (↑c.length : Int) (41 : Int)).toNat c)).length =
 (List.take (41 : Nat) xs).length) ∧
 ((properP (List.take (41 : Nat) xs)
 (List.drop (↑(0 : Nat) : Int).toNat (List.take (min (↑c.length : Int) (41 : Int)).toNat c))).fst =
 properR (List.take (41 : Nat) xs)
 (List.drop (↑(0 : Nat) : Int).toNat (List.take (min (↑c.length : Int) (41 : Int)).toNat c)) →
 (properP (List.take (41 : Nat) xs)
 (List.drop (↑(0 : Nat) : Int).toNat (List.take (min (↑c.length : Int) (41 : Int)).toNat c))).fst =
 properR (List.take (41 : Nat) xs)
 (List.drop (↑(0 : Nat) : Int).toNat (List.take (min (↑c.length : Int) (41 : Int)).toNat c)) ∧
 (properP (List.take (41 : Nat) xs)
 (List.drop (↑(0 : Nat) : Int).toNat (List.take (min (↑c.length : Int) (41 : Int)).toNat c))).fst =
 properR (List.take (41 : Nat) xs)
 (List.drop (↑(0 : Nat) : Int).toNat (List.take (min (↑c.length : Int) (41 : Int)).toNat c)) ∧
 ((properP (List.take (41 : Nat) xs)
 (List.drop (↑(0 : Nat) : Int).toNat (List.take (min (↑c.length : Int) (41 : Int)).toNat c))).snd =
 (0 : Int) →
 (properP (List.take (41 : Nat) xs)
 (List.drop (↑(0 : Nat) : Int).toNat (List.take (min (↑c.length : Int) (41 : Int)).toNat c))).snd =
 (0 : Int) ∧
 (properP (List.take (41 : Nat) xs)
 (List.drop (↑(0 : Nat) : Int).toNat (List.take (min (↑c.length : Int) (41 : Int)).toNat c))).snd =
 (0 : Int) ∧
 (properP (List.take (41 : Nat) xs)
 (List.drop (↑(0 : Nat) : Int).toNat
 (List.take (min (↑c.length : Int) (41 : Int)).toNat c))).snd =
 (0 : Int) ∧
 True ∧ true = true) ∧
 (¬(properP (List.take (41 : Nat) xs)
 (List.drop (↑(0 : Nat) : Int).toNat (List.take (min (↑c.length : Int) (41 : Int)).toNat c))).snd =
 (0 : Int) →
 ¬(properP (List.take (41 : Nat) xs)
 (List.drop (↑(0 : Nat) : Int).toNat (List.take (min (↑c.length : Int) (41 : Int)).toNat c))).snd =
 (0 : Int) ∧
 ¬(properP (List.take (41 : Nat) xs)
 (List.drop (↑(0 : Nat) : Int).toNat
 (List.take (min (↑c.length : Int) (41 : Int)).toNat c))).snd =
 (0 : Int) ∧
 ¬(properP (List.take (41 : Nat) xs)
 (List.drop (↑(0 : Nat) : Int).toNat
 (List.take (min (↑c.length : Int) (41 : Int)).toNat c))).snd =
 (0 : Int) ∧
 false = true)) ∧
 (¬(properP (List.take (41 : Nat) xs)
 (List.drop (↑(0 : Nat) : Int).toNat (List.take (min (↑c.length : Int) (41 : Int)).toNat c))).fst =
 properR (List.take (41 : Nat) xs)
 (List.drop (↑(0 : Nat) : Int).toNat (List.take (min (↑c.length : Int) (41 : Int)).toNat c)) →
 ¬(properP (List.take (41 : Nat) xs)
 (List.drop (↑(0 : Nat) : Int).toNat (List.take (min (↑c.length : Int) (41 : Int)).toNat c))).fst =
 properR (List.take (41 : Nat) xs)
 (List.drop (↑(0 : Nat) : Int).toNat (List.take (min (↑c.length : Int) (41 : Int)).toNat c)) ∧
 ¬(properP (List.take (41 : Nat) xs)
 (List.drop (↑(0 : Nat) : Int).toNat (List.take (min (↑c.length : Int) (41 : Int)).toNat c))).fst =
 properR (List.take (41 : Nat) xs)
 (List.drop (↑(0 : Nat) : Int).toNat (List.take (min (↑c.length : Int) (41 : Int)).toNat c)) ∧
 false = true)))) ∧
 (¬(↑x : Int) < (↑(List.drop (↑(0 : Nat) : Int).toNat (List.take (min (↑c.length : Int) (41 : Int)).toNat c)).length : Int) →
 ¬(↑x : Int) < (↑(List.drop (↑(0 : Nat) : Int).toNat (List.take (min (↑c.length : Int) (41 : Int)).toNat c)).length : Int) ∧
 ¬(↑x : Int) < (↑(List.drop (↑(0 : Nat) : Int).toNat (List.take (min (↑c.length : Int) (41 : Int)).toNat c)).length : Int) ∧
 (¬badArg (List.take (41 : Nat) xs) (List.take (41 : Nat) c) x = (0 : Int) →
 ¬badArg (List.take (41 : Nat) xs) (List.take (41 : Nat) c) x = (0 : Int) ∧
 ((!(properP (List.take (41 : Nat) xs)
 (List.drop (↑(0 : Nat) : Int).toNat (List.take (min (↑c.length : Int) (41 : Int)).toNat c))).fst) =
 true →
 (!(properP (List.take (41 : Nat) xs)
 (List.drop (↑(0 : Nat) : Int).toNat (List.take (min (↑c.length : Int) (41 : Int)).toNat c))).fst) =
 true ∧
 (!(properP (List.take (41 : Nat) xs)
 (List.drop (↑(0 : Nat) : Int).toNat (List.take (min (↑c.length : Int) (41 : Int)).toNat c))).fst) =
 true ∧
 ((properP (List.take (41 : Nat) xs)
 (List.drop (↑(0 : Nat) : Int).toNat (List.take (min (↑c.length : Int) (41 : Int)).toNat c))).snd =
 badArg (List.take (41 : Nat) xs) (List.take (41 : Nat) c) x →
 (properP (List.take (41 : Nat) xs)
 (List.drop (↑(0 : Nat) : Int).toNat (List.take (min (↑c.length : Int) (41 : Int)).toNat c))).snd =
 badArg (List.take (41 : Nat) xs) (List.take (41 : Nat) c) x ∧
 (properP (List.take (41 : Nat) xs)
 (List.drop (↑(0 : Nat) : Int).toNat (List.take (min (↑c.length : Int) (41 : Int)).toNat c))).snd =
 badArg (List.take (41 : Nat) xs) (List.take (41 : Nat) c) x ∧
 (properP (List.take (41 : Nat) xs)
 (List.drop (↑(0 : Nat) : Int).toNat (List.take (min (↑c.length : Int) (41 : Int)).toNat c))).snd =
 badArg (List.take (41 : Nat) xs) (List.take (41 : Nat) c) x ∧
 True ∧ true = true) ∧
 (¬(properP (List.take (41 : Nat) xs)
 (List.drop (↑(0 : Nat) : Int).toNat (List.take (min (↑c.length : Int) (41 : Int)).toNat c))).snd =
 badArg (List.take (41 : Nat) xs) (List.take (41 : Nat) c) x →
 ¬(properP (List.take (41 : Nat) xs)
 (List.drop (↑(0 : Nat) : Int).toNat (List.take (min (↑c.length : Int) (41 : Int)).toNat c))).snd =
 badArg (List.take (41 : Nat) xs) (List.take (41 : Nat) c) x ∧
 ¬(properP (List.take (41 : Nat) xs)
 (List.drop (↑(0 : Nat) : Int).toNat (List.take (min (↑c.length : Int) (41 : Int)).toNat c))).snd =
 badArg (List.take (41 : Nat) xs) (List.take (41 : Nat) c) x ∧
 ¬(properP (List.take (41 : Nat) xs)
 (List.drop (↑(0 : Nat) : Int).toNat (List.take (min (↑c.length : Int) (41 : Int)).toNat c))).snd =
 badArg (List.take (41 : Nat) xs) (List.take (41 : Nat) c) x ∧
 false = true)) ∧
 ((!(properP (List.take (41 : Nat) xs)
 (List.drop (↑(0 : Nat) : Int).toNat (List.take (min (↑c.length : Int) (41 : Int)).toNat c))).fst) =
 false →
 (!(properP (List.take (41 : Nat) xs)
 (List.drop (↑(0 : Nat) : Int).toNat (List.take (min (↑c.length : Int) (41 : Int)).toNat c))).fst) =
 false ∧
 (!(properP (List.take (41 : Nat) xs)
 (List.drop (↑(0 : Nat) : Int).toNat (List.take (min (↑c.length : Int) (41 : Int)).toNat c))).fst) =
 false ∧
 false = true)) ∧
 (¬¬badArg (List.take (41 : Nat) xs) (List.take (41 : Nat) c) x = (0 : Int) →
 ¬¬badArg (List.take (41 : Nat) xs) (List.take (41 : Nat) c) x = (0 : Int) ∧
 ((List.take (41 : Nat) xs).length ≤ (1000 : Nat) ∧
 (List.drop (↑(0 : Nat) : Int).toNat (List.take (min (↑c.length : Int) (41 : Int)).toNat c)).length =
 (List.take (41 : Nat) xs).length) ∧
 ((properP (List.take (41 : Nat) xs)
 (List.drop (↑(0 : Nat) : Int).toNat (List.take (min (↑c.length : Int) (41 : Int)).toNat c))).fst =
 properR (List.take (41 : Nat) xs)
 (List.drop (↑(0 : Nat) : Int).toNat (List.take (min (↑c.length : Int) (41 : Int)).toNat c)) →
 (properP (List.take (41 : Nat) xs)
 (List.drop (↑(0 : Nat) : Int).toNat (List.take (min (↑c.length : Int) (41 : Int)).toNat c))).fst =
 properR (List.take (41 : Nat) xs)
 (List.drop (↑(0 : Nat) : Int).toNat (List.take (min (↑c.length : Int) (41 : Int)).toNat c)) ∧
 (properP (List.take (41 : Nat) xs)
 (List.drop (↑(0 : Nat) : Int).toNat (List.take (min (↑c.length : Int) (41 : Int)).toNat c))).fst =
 properR (List.take (41 : Nat) xs)
 (List.drop (↑(0 : Nat) : Int).toNat (List.take (min (↑c.length : Int) (41 : Int)).toNat c)) ∧
 ((properP (List.take (41 : Nat) xs)
 (List.drop (↑(0 : Nat) : Int).toNat (List.take (min (↑c.length : Int) (41 : Int)).toNat c))).snd =
 (0 : Int) →
 (properP (List.take (41 : Nat) xs)
 (List.drop (↑(0 : Nat) : Int).toNat (List.take (min (↑c.length : Int) (41 : Int)).toNat c))).snd =
 (0 : Int) ∧
 (properP (List.take (41 : Nat) xs)
 (List.drop (↑(0 : Nat) : Int).toNat (List.take (min (↑c.length : Int) (41 : Int)).toNat c))).snd =
 (0 : Int) ∧
 (properP (List.take (41 : Nat) xs)
 (List.drop (↑(0 : Nat) : Int).toNat (List.take (min (↑c.length : Int) (41 : Int)).toNat c))).snd =
 (0 : Int) ∧
 True ∧ true = true) ∧
 (¬(properP (List.take (41 : Nat) xs)
 (List.drop (↑(0 : Nat) : Int).toNat (List.take (min (↑c.length : Int) (41 : Int)).toNat c))).snd =
 (0 : Int) →
 ¬(properP (List.take (41 : Nat) xs)
 (List.drop (↑(0 : Nat) : Int).toNat (List.take (min (↑c.length : Int) (41 : Int)).toNat c))).snd =
 (0 : Int) ∧
 ¬(properP (List.take (41 : Nat) xs)
 (List.drop (↑(0 : Nat) : Int).toNat (List.take (min (↑c.length : Int) (41 : Int)).toNat c))).snd =
 (0 : Int) ∧
 ¬(properP (List.take (41 : Nat) xs)
 (List.drop (↑(0 : Nat) : Int).toNat (List.take (min (↑c.length : Int) (41 : Int)).toNat c))).snd =
 (0 : Int) ∧
 false = true)) ∧
 (¬(properP (List.take (41 : Nat) xs)
 (List.drop (↑(0 : Nat) : Int).toNat (List.take (min (↑c.length : Int) (41 : Int)).toNat c))).fst =
 properR (List.take (41 : Nat) xs)
 (List.drop (↑(0 : Nat) : Int).toNat (List.take (min (↑c.length : Int) (41 : Int)).toNat c)) →
 ¬(properP (List.take (41 : Nat) xs)
 (List.drop (↑(0 : Nat) : Int).toNat (List.take (min (↑c.length : Int) (41 : Int)).toNat c))).fst =
 properR (List.take (41 : Nat) xs)
 (List.drop (↑(0 : Nat) : Int).toNat (List.take (min (↑c.length : Int) (41 : Int)).toNat c)) ∧
 ¬(properP (List.take (41 : Nat) xs)
 (List.drop (↑(0 : Nat) : Int).toNat (List.take (min (↑c.length : Int) (41 : Int)).toNat c))).fst =
 properR (List.take (41 : Nat) xs)
 (List.drop (↑(0 : Nat) : Int).toNat (List.take (min (↑c.length : Int) (41 : Int)).toNat c)) ∧
 false = true)))) ∧
 (¬¬(↑(List.drop (↑(0 : Nat) : Int).toNat (List.take (min (↑c.length : Int) (41 : Int)).toNat c)).length : Int) = (↑(List.take (41 : Nat) xs).length : Int) →
 ¬¬(↑(List.drop (↑(0 : Nat) : Int).toNat (List.take (min (↑c.length : Int) (41 : Int)).toNat c)).length : Int) =
 (↑(List.take (41 : Nat) xs).length : Int) ∧
 ¬¬(↑(List.drop (↑(0 : Nat) : Int).toNat (List.take (min (↑c.length : Int) (41 : Int)).toNat c)).length : Int) =
 (↑(List.take (41 : Nat) xs).length : Int) ∧
 (∃ (x0 : Nat),
 (x0 ≤ (List.take (41 : Nat) c).length ∧ True) ∧
 (List.drop (↑(0 : Nat) : Int).toNat (List.take (min (↑c.length : Int) (41 : Int)).toNat c) =
 List.drop (↑(0 : Nat) : Int).toNat (List.take (min (↑c.length : Int) (41 : Int)).toNat c) ∧
 True) ∧
 (0 : Int) = (↑x0 : Int) ∧
 checkF (List.take (41 : Nat) xs) = badArg (List.take (41 : Nat) xs) (List.take (41 : Nat) c) x0 ∧
 (properP (List.take (41 : Nat) xs) (List.drop (↑(0 : Nat) : Int).toNat (List.take (min (↑c.length : Int) (41 : Int)).toNat c))).snd =
 (properP (List.take (41 : Nat) xs) (List.drop (↑(0 : Nat) : Int).toNat (List.take (min (↑c.length : Int) (41 : Int)).toNat c))).snd ∧
 (properP (List.take (41 : Nat) xs) (List.drop (↑(0 : Nat) : Int).toNat (List.take (min (↑c.length : Int) (41 : Int)).toNat c))).fst =
 (properP (List.take (41 : Nat) xs)
 (List.drop (↑(0 : Nat) : Int).toNat (List.take (min (↑c.length : Int) (41 : Int)).toNat c))).fst ∧
 True ∧ List.take (41 : Nat) xs = List.take (41 : Nat) xs ∧ True) ∧
 ∀ (x : Nat),
 x ≤ (List.take (41 : Nat) c).length ∧ True →
 ((↑x : Int) < (↑(List.drop (↑(0 : Nat) : Int).toNat (List.take (min (↑c.length : Int) (41 : Int)).toNat c)).length : Int) →
 (↑x : Int) < (↑(List.drop (↑(0 : Nat) : Int).toNat (List.take (min (↑c.length : Int) (41 : Int)).toNat c)).length : Int) ∧
 (↑x : Int) < (↑(List.drop (↑(0 : Nat) : Int).toNat (List.take (min (↑c.length : Int) (41 : Int)).toNat c)).length : Int) ∧
 (badArg (List.take (41 : Nat) xs) (List.take (41 : Nat) c) x = (0 : Int) →
 badArg (List.take (41 : Nat) xs) (List.take (41 : Nat) c) x = (0 : Int) ∧
 badArg (List.take (41 : Nat) xs) (List.take (41 : Nat) c) x = (0 : Int) ∧
 ((0 : Int) ≤ (↑x : Int) ∧
 (↑x : Int) < (↑(List.drop (↑(0 : Nat) : Int).toNat (List.take (min (↑c.length : Int) (41 : Int)).toNat c)).length : Int)) ∧
 ((List.drop (↑(0 : Nat) : Int).toNat (List.take (min (↑c.length : Int) (41 : Int)).toNat c)).getD (↑x : Int).toNat (0 : Int) <
 (0 : Int) →
 (List.drop (↑(0 : Nat) : Int).toNat (List.take (min (↑c.length : Int) (41 : Int)).toNat c)).getD (↑x : Int).toNat
 (0 : Int) <
 (0 : Int) ∧
 Fits IntKind.i64 ((↑x : Int) + (1 : Int)) ∧
 ∃ (x' : Nat),
 (x' ≤ (List.take (41 : Nat) c).length ∧ True) ∧
 (List.take (41 : Nat) c).length - x' < (List.take (41 : Nat) c).length - x ∧
 (List.drop (↑(0 : Nat) : Int).toNat (List.take (min (↑c.length : Int) (41 : Int)).toNat c) =
 List.drop (↑(0 : Nat) : Int).toNat (List.take (min (↑c.length : Int) (41 : Int)).toNat c) ∧
 True) ∧
 (↑x : Int) + (1 : Int) = (↑x' : Int) ∧
 (1 : Int) = badArg (List.take (41 : Nat) xs) (List.take (41 : Nat) c) x' ∧
 (properP (List.take (41 : Nat) xs)
 (List.drop (↑(0 : Nat) : Int).toNat (List.take (min (↑c.length : Int) (41 : Int)).toNat c))).snd =
 (properP (List.take (41 : Nat) xs)
 (List.drop (↑(0 : Nat) : Int).toNat (List.take (min (↑c.length : Int) (41 : Int)).toNat c))).snd ∧
 (properP (List.take (41 : Nat) xs)
 (List.drop (↑(0 : Nat) : Int).toNat
 (List.take (min (↑c.length : Int) (41 : Int)).toNat c))).fst =
 (properP (List.take (41 : Nat) xs)
 (List.drop (↑(0 : Nat) : Int).toNat
 (List.take (min (↑c.length : Int) (41 : Int)).toNat c))).fst ∧
 True ∧ List.take (41 : Nat) xs = List.take (41 : Nat) xs ∧ True) ∧
 (¬(List.drop (↑(0 : Nat) : Int).toNat (List.take (min (↑c.length : Int) (41 : Int)).toNat c)).getD (↑x : Int).toNat
 (0 : Int) <
 (0 : Int) →
 ¬(List.drop (↑(0 : Nat) : Int).toNat (List.take (min (↑c.length : Int) (41 : Int)).toNat c)).getD (↑x : Int).toNat
 (0 : Int) <
 (0 : Int) ∧
 Fits IntKind.i64 ((↑x : Int) + (1 : Int)) ∧
 ∃ (x' : Nat),
 (x' ≤ (List.take (41 : Nat) c).length ∧ True) ∧
 (List.take (41 : Nat) c).length - x' < (List.take (41 : Nat) c).length - x ∧
 (List.drop (↑(0 : Nat) : Int).toNat (List.take (min (↑c.length : Int) (41 : Int)).toNat c) =
 List.drop (↑(0 : Nat) : Int).toNat (List.take (min (↑c.length : Int) (41 : Int)).toNat c) ∧
 True) ∧
 (↑x : Int) + (1 : Int) = (↑x' : Int) ∧
 badArg (List.take (41 : Nat) xs) (List.take (41 : Nat) c) x =
 badArg (List.take (41 : Nat) xs) (List.take (41 : Nat) c) x' ∧
 (properP (List.take (41 : Nat) xs)
 (List.drop (↑(0 : Nat) : Int).toNat (List.take (min (↑c.length : Int) (41 : Int)).toNat c))).snd =
 (properP (List.take (41 : Nat) xs)
 (List.drop (↑(0 : Nat) : Int).toNat (List.take (min (↑c.length : Int) (41 : Int)).toNat c))).snd ∧
 (properP (List.take (41 : Nat) xs)
 (List.drop (↑(0 : Nat) : Int).toNat
 (List.take (min (↑c.length : Int) (41 : Int)).toNat c))).fst =
 (properP (List.take (41 : Nat) xs)
 (List.drop (↑(0 : Nat) : Int).toNat
 (List.take (min (↑c.length : Int) (41 : Int)).toNat c))).fst ∧
 True ∧ List.take (41 : Nat) xs = List.take (41 : Nat) xs ∧ True)) ∧
 (¬badArg (List.take (41 : Nat) xs) (List.take (41 : Nat) c) x = (0 : Int) →
 ¬badArg (List.take (41 : Nat) xs) (List.take (41 : Nat) c) x = (0 : Int) ∧
 ¬badArg (List.take (41 : Nat) xs) (List.take (41 : Nat) c) x = (0 : Int) ∧
 (¬badArg (List.take (41 : Nat) xs) (List.take (41 : Nat) c) x = (0 : Int) →
 ¬badArg (List.take (41 : Nat) xs) (List.take (41 : Nat) c) x = (0 : Int) ∧
 ((!(properP (List.take (41 : Nat) xs)
 (List.drop (↑(0 : Nat) : Int).toNat (List.take (min (↑c.length : Int) (41 : Int)).toNat c))).fst) =
 true →
 (!(properP (List.take (41 : Nat) xs)
 (List.drop (↑(0 : Nat) : Int).toNat (List.take (min (↑c.length : Int) (41 : Int)).toNat c))).fst) =
 true ∧
 (!(properP (List.take (41 : Nat) xs)
 (List.drop (↑(0 : Nat) : Int).toNat (List.take (min (↑c.length : Int) (41 : Int)).toNat c))).fst) =
 true ∧
 ((properP (List.take (41 : Nat) xs)
 (List.drop (↑(0 : Nat) : Int).toNat (List.take (min (↑c.length : Int) (41 : Int)).toNat c))).snd =
 badArg (List.take (41 : Nat) xs) (List.take (41 : Nat) c) x →
 (properP (List.take (41 : Nat) xs)
 (List.drop (↑(0 : Nat) : Int).toNat (List.take (min (↑c.length : Int) (41 : Int)).toNat c))).snd =
 badArg (List.take (41 : Nat) xs) (List.take (41 : Nat) c) x ∧
 (properP (List.take (41 : Nat) xs)
 (List.drop (↑(0 : Nat) : Int).toNat (List.take (min (↑c.length : Int) (41 : Int)).toNat c))).snd =
 badArg (List.take (41 : Nat) xs) (List.take (41 : Nat) c) x ∧
 (properP (List.take (41 : Nat) xs)
 (List.drop (↑(0 : Nat) : Int).toNat (List.take (min (↑c.length : Int) (41 : Int)).toNat c))).snd =
 badArg (List.take (41 : Nat) xs) (List.take (41 : Nat) c) x ∧
 True ∧ true = true) ∧
 (¬(properP (List.take (41 : Nat) xs)
 (List.drop (↑(0 : Nat) : Int).toNat (List.take (min (↑c.length : Int) (41 : Int)).toNat c))).snd =
 badArg (List.take (41 : Nat) xs) (List.take (41 : Nat) c) x →
 ¬(properP (List.take (41 : Nat) xs)
 (List.drop (↑(0 : Nat) : Int).toNat (List.take (min (↑c.length : Int) (41 : Int)).toNat c))).snd =
 badArg (List.take (41 : Nat) xs) (List.take (41 : Nat) c) x ∧
 ¬(properP (List.take (41 : Nat) xs)
 (List.drop (↑(0 : Nat) : Int).toNat (List.take (min (↑c.length : Int) (41 : Int)).toNat c))).snd =
 badArg (List.take (41 : Nat) xs) (List.take (41 : Nat) c) x ∧
 ¬(properP (List.take (41 : Nat) xs)
 (List.drop (↑(0 : Nat) : Int).toNat
 (List.take (min (↑c.length : Int) (41 : Int)).toNat c))).snd =
 badArg (List.take (41 : Nat) xs) (List.take (41 : Nat) c) x ∧
 false = true)) ∧
 ((!(properP (List.take (41 : Nat) xs)
 (List.drop (↑(0 : Nat) : Int).toNat (List.take (min (↑c.length : Int) (41 : Int)).toNat c))).fst) =
 false →
 (!(properP (List.take (41 : Nat) xs)
 (List.drop (↑(0 : Nat) : Int).toNat (List.take (min (↑c.length : Int) (41 : Int)).toNat c))).fst) =
 false ∧
 (!(properP (List.take (41 : Nat) xs)
 (List.drop (↑(0 : Nat) : Int).toNat (List.take (min (↑c.length : Int) (41 : Int)).toNat c))).fst) =
 false ∧
 false = true)) ∧
 (¬¬badArg (List.take (41 : Nat) xs) (List.take (41 : Nat) c) x = (0 : Int) →
 ¬¬badArg (List.take (41 : Nat) xs) (List.take (41 : Nat) c) x = (0 : Int) ∧
 ((List.take (41 : Nat) xs).length ≤ (1000 : Nat) ∧
 (List.drop (↑(0 : Nat) : Int).toNat (List.take (min (↑c.length : Int) (41 : Int)).toNat c)).length =
 (List.take (41 : Nat) xs).length) ∧
 ((properP (List.take (41 : Nat) xs)
 (List.drop (↑(0 : Nat) : Int).toNat (List.take (min (↑c.length : Int) (41 : Int)).toNat c))).fst =
 properR (List.take (41 : Nat) xs)
 (List.drop (↑(0 : Nat) : Int).toNat (List.take (min (↑c.length : Int) (41 : Int)).toNat c)) →
 (properP (List.take (41 : Nat) xs)
 (List.drop (↑(0 : Nat) : Int).toNat (List.take (min (↑c.length : Int) (41 : Int)).toNat c))).fst =
 properR (List.take (41 : Nat) xs)
 (List.drop (↑(0 : Nat) : Int).toNat (List.take (min (↑c.length : Int) (41 : Int)).toNat c)) ∧
 (properP (List.take (41 : Nat) xs)
 (List.drop (↑(0 : Nat) : Int).toNat (List.take (min (↑c.length : Int) (41 : Int)).toNat c))).fst =
 properR (List.take (41 : Nat) xs)
 (List.drop (↑(0 : Nat) : Int).toNat (List.take (min (↑c.length : Int) (41 : Int)).toNat c)) ∧
 ((properP (List.take (41 : Nat) xs)
 (List.drop (↑(0 : Nat) : Int).toNat (List.take (min (↑c.length : Int) (41 : Int)).toNat c))).snd =
 (0 : Int) →
 (properP (List.take (41 : Nat) xs)
 (List.drop (↑(0 : Nat) : Int).toNat (List.take (min (↑c.length : Int) (41 : Int)).toNat c))).snd =
 (0 : Int) ∧
 (properP (List.take (41 : Nat) xs)
 (List.drop (↑(0 : Nat) : Int).toNat (List.take (min (↑c.length : Int) (41 : Int)).toNat c))).snd =
 (0 : Int) ∧
 (properP (List.take (41 : Nat) xs)
 (List.drop (↑(0 : Nat) : Int).toNat
 (List.take (min (↑c.length : Int) (41 : Int)).toNat c))).snd =
 (0 : Int) ∧
 True ∧ true = true) ∧
 (¬(properP (List.take (41 : Nat) xs)
 (List.drop (↑(0 : Nat) : Int).toNat (List.take (min (↑c.length : Int) (41 : Int)).toNat c))).snd =
 (0 : Int) →
 ¬(properP (List.take (41 : Nat) xs)
 (List.drop (↑(0 : Nat) : Int).toNat (List.take (min (↑c.length : Int) (41 : Int)).toNat c))).snd =
 (0 : Int) ∧
 ¬(properP (List.take (41 : Nat) xs)
 (List.drop (↑(0 : Nat) : Int).toNat
 (List.take (min (↑c.length : Int) (41 : Int)).toNat c))).snd =
 (0 : Int) ∧
 ¬(properP (List.take (41 : Nat) xs)
 (List.drop (↑(0 : Nat) : Int).toNat
 (List.take (min (↑c.length : Int) (41 : Int)).toNat c))).snd =
 (0 : Int) ∧
 false = true)) ∧
 (¬(properP (List.take (41 : Nat) xs)
 (List.drop (↑(0 : Nat) : Int).toNat (List.take (min (↑c.length : Int) (41 : Int)).toNat c))).fst =
 properR (List.take (41 : Nat) xs)
 (List.drop (↑(0 : Nat) : Int).toNat (List.take (min (↑c.length : Int) (41 : Int)).toNat c)) →
 ¬(properP (List.take (41 : Nat) xs)
 (List.drop (↑(0 : Nat) : Int).toNat (List.take (min (↑c.length : Int) (41 : Int)).toNat c))).fst =
 properR (List.take (41 : Nat) xs)
 (List.drop (↑(0 : Nat) : Int).toNat (List.take (min (↑c.length : Int) (41 : Int)).toNat c)) ∧
 ¬(properP (List.take (41 : Nat) xs)
 (List.drop (↑(0 : Nat) : Int).toNat (List.take (min (↑c.length : Int) (41 : Int)).toNat c))).fst =
 properR (List.take (41 : Nat) xs)
 (List.drop (↑(0 : Nat) : Int).toNat (List.take (min (↑c.length : Int) (41 : Int)).toNat c)) ∧
 false = true)))) ∧
 (¬(↑x : Int) < (↑(List.drop (↑(0 : Nat) : Int).toNat (List.take (min (↑c.length : Int) (41 : Int)).toNat c)).length : Int) →
 ¬(↑x : Int) < (↑(List.drop (↑(0 : Nat) : Int).toNat (List.take (min (↑c.length : Int) (41 : Int)).toNat c)).length : Int) ∧
 ¬(↑x : Int) < (↑(List.drop (↑(0 : Nat) : Int).toNat (List.take (min (↑c.length : Int) (41 : Int)).toNat c)).length : Int) ∧
 (¬badArg (List.take (41 : Nat) xs) (List.take (41 : Nat) c) x = (0 : Int) →
 ¬badArg (List.take (41 : Nat) xs) (List.take (41 : Nat) c) x = (0 : Int) ∧
 ((!(properP (List.take (41 : Nat) xs)
 (List.drop (↑(0 : Nat) : Int).toNat (List.take (min (↑c.length : Int) (41 : Int)).toNat c))).fst) =
 true →
 (!(properP (List.take (41 : Nat) xs)
 (List.drop (↑(0 : Nat) : Int).toNat (List.take (min (↑c.length : Int) (41 : Int)).toNat c))).fst) =
 true ∧
 (!(properP (List.take (41 : Nat) xs)
 (List.drop (↑(0 : Nat) : Int).toNat (List.take (min (↑c.length : Int) (41 : Int)).toNat c))).fst) =
 true ∧
 ((properP (List.take (41 : Nat) xs)
 (List.drop (↑(0 : Nat) : Int).toNat (List.take (min (↑c.length : Int) (41 : Int)).toNat c))).snd =
 badArg (List.take (41 : Nat) xs) (List.take (41 : Nat) c) x →
 (properP (List.take (41 : Nat) xs)
 (List.drop (↑(0 : Nat) : Int).toNat (List.take (min (↑c.length : Int) (41 : Int)).toNat c))).snd =
 badArg (List.take (41 : Nat) xs) (List.take (41 : Nat) c) x ∧
 (properP (List.take (41 : Nat) xs)
 (List.drop (↑(0 : Nat) : Int).toNat (List.take (min (↑c.length : Int) (41 : Int)).toNat c))).snd =
 badArg (List.take (41 : Nat) xs) (List.take (41 : Nat) c) x ∧
 (properP (List.take (41 : Nat) xs)
 (List.drop (↑(0 : Nat) : Int).toNat (List.take (min (↑c.length : Int) (41 : Int)).toNat c))).snd =
 badArg (List.take (41 : Nat) xs) (List.take (41 : Nat) c) x ∧
 True ∧ true = true) ∧
 (¬(properP (List.take (41 : Nat) xs)
 (List.drop (↑(0 : Nat) : Int).toNat (List.take (min (↑c.length : Int) (41 : Int)).toNat c))).snd =
 badArg (List.take (41 : Nat) xs) (List.take (41 : Nat) c) x →
 ¬(properP (List.take (41 : Nat) xs)
 (List.drop (↑(0 : Nat) : Int).toNat (List.take (min (↑c.length : Int) (41 : Int)).toNat c))).snd =
 badArg (List.take (41 : Nat) xs) (List.take (41 : Nat) c) x ∧
 ¬(properP (List.take (41 : Nat) xs)
 (List.drop (↑(0 : Nat) : Int).toNat (List.take (min (↑c.length : Int) (41 : Int)).toNat c))).snd =
 badArg (List.take (41 : Nat) xs) (List.take (41 : Nat) c) x ∧
 ¬(properP (List.take (41 : Nat) xs)
 (List.drop (↑(0 : Nat) : Int).toNat (List.take (min (↑c.length : Int) (41 : Int)).toNat c))).snd =
 badArg (List.take (41 : Nat) xs) (List.take (41 : Nat) c) x ∧
 false = true)) ∧
 ((!(properP (List.take (41 : Nat) xs)
 (List.drop (↑(0 : Nat) : Int).toNat (List.take (min (↑c.length : Int) (41 : Int)).toNat c))).fst) =
 false →
 (!(properP (List.take (41 : Nat) xs)
 (List.drop (↑(0 : Nat) : Int).toNat (List.take (min (↑c.length : Int) (41 : Int)).toNat c))).fst) =
 false ∧
 (!(properP (List.take (41 : Nat) xs)
 (List.drop (↑(0 : Nat) : Int).toNat (List.take (min (↑c.length : Int) (41 : Int)).toNat c))).fst) =
 false ∧
 false = true)) ∧
 (¬¬badArg (List.take (41 : Nat) xs) (List.take (41 : Nat) c) x = (0 : Int) →
 ¬¬badArg (List.take (41 : Nat) xs) (List.take (41 : Nat) c) x = (0 : Int) ∧
 ((List.take (41 : Nat) xs).length ≤ (1000 : Nat) ∧
 (List.drop (↑(0 : Nat) : Int).toNat (List.take (min (↑c.length : Int) (41 : Int)).toNat c)).length =
 (List.take (41 : Nat) xs).length) ∧
 ((properP (List.take (41 : Nat) xs)
 (List.drop (↑(0 : Nat) : Int).toNat (List.take (min (↑c.length : Int) (41 : Int)).toNat c))).fst =
 properR (List.take (41 : Nat) xs)
 (List.drop (↑(0 : Nat) : Int).toNat (List.take (min (↑c.length : Int) (41 : Int)).toNat c)) →
 (properP (List.take (41 : Nat) xs)
 (List.drop (↑(0 : Nat) : Int).toNat (List.take (min (↑c.length : Int) (41 : Int)).toNat c))).fst =
 properR (List.take (41 : Nat) xs)
 (List.drop (↑(0 : Nat) : Int).toNat (List.take (min (↑c.length : Int) (41 : Int)).toNat c)) ∧
 (properP (List.take (41 : Nat) xs)
 (List.drop (↑(0 : Nat) : Int).toNat (List.take (min (↑c.length : Int) (41 : Int)).toNat c))).fst =
 properR (List.take (41 : Nat) xs)
 (List.drop (↑(0 : Nat) : Int).toNat (List.take (min (↑c.length : Int) (41 : Int)).toNat c)) ∧
 ((properP (List.take (41 : Nat) xs)
 (List.drop (↑(0 : Nat) : Int).toNat (List.take (min (↑c.length : Int) (41 : Int)).toNat c))).snd =
 (0 : Int) →
 (properP (List.take (41 : Nat) xs)
 (List.drop (↑(0 : Nat) : Int).toNat (List.take (min (↑c.length : Int) (41 : Int)).toNat c))).snd =
 (0 : Int) ∧
 (properP (List.take (41 : Nat) xs)
 (List.drop (↑(0 : Nat) : Int).toNat (List.take (min (↑c.length : Int) (41 : Int)).toNat c))).snd =
 (0 : Int) ∧
 (properP (List.take (41 : Nat) xs)
 (List.drop (↑(0 : Nat) : Int).toNat (List.take (min (↑c.length : Int) (41 : Int)).toNat c))).snd =
 (0 : Int) ∧
 True ∧ true = true) ∧
 (¬(properP (List.take (41 : Nat) xs)
 (List.drop (↑(0 : Nat) : Int).toNat (List.take (min (↑c.length : Int) (41 : Int)).toNat c))).snd =
 (0 : Int) →
 ¬(properP (List.take (41 : Nat) xs)
 (List.drop (↑(0 : Nat) : Int).toNat (List.take (min (↑c.length : Int) (41 : Int)).toNat c))).snd =
 (0 : Int) ∧
 ¬(properP (List.take (41 : Nat) xs)
 (List.drop (↑(0 : Nat) : Int).toNat (List.take (min (↑c.length : Int) (41 : Int)).toNat c))).snd =
 (0 : Int) ∧
 ¬(properP (List.take (41 : Nat) xs)
 (List.drop (↑(0 : Nat) : Int).toNat (List.take (min (↑c.length : Int) (41 : Int)).toNat c))).snd =
 (0 : Int) ∧
 false = true)) ∧
 (¬(properP (List.take (41 : Nat) xs)
 (List.drop (↑(0 : Nat) : Int).toNat (List.take (min (↑c.length : Int) (41 : Int)).toNat c))).fst =
 properR (List.take (41 : Nat) xs)
 (List.drop (↑(0 : Nat) : Int).toNat (List.take (min (↑c.length : Int) (41 : Int)).toNat c)) →
 ¬(properP (List.take (41 : Nat) xs)
 (List.drop (↑(0 : Nat) : Int).toNat (List.take (min (↑c.length : Int) (41 : Int)).toNat c))).fst =
 properR (List.take (41 : Nat) xs)
 (List.drop (↑(0 : Nat) : Int).toNat (List.take (min (↑c.length : Int) (41 : Int)).toNat c)) ∧
 ¬(properP (List.take (41 : Nat) xs)
 (List.drop (↑(0 : Nat) : Int).toNat (List.take (min (↑c.length : Int) (41 : Int)).toNat c))).fst =
 properR (List.take (41 : Nat) xs)
 (List.drop (↑(0 : Nat) : Int).toNat (List.take (min (↑c.length : Int) (41 : Int)).toNat c)) ∧
 false = true))))) ∧
 (¬checkF (List.take (41 : Nat) xs) = (0 : Int) →
 ¬checkF (List.take (41 : Nat) xs) = (0 : Int) ∧
 ¬checkF (List.take (41 : Nat) xs) = (0 : Int) ∧
 (∃ (x0 : Nat),
 (x0 ≤ (List.take (41 : Nat) c).length ∧ True) ∧
 (List.drop (↑(0 : Nat) : Int).toNat (List.take (min (↑c.length : Int) (41 : Int)).toNat c) =
 List.drop (↑(0 : Nat) : Int).toNat (List.take (min (↑c.length : Int) (41 : Int)).toNat c) ∧
 True) ∧
 (0 : Int) = (↑x0 : Int) ∧
 checkF (List.take (41 : Nat) xs) = badArg (List.take (41 : Nat) xs) (List.take (41 : Nat) c) x0 ∧
 (properP (List.take (41 : Nat) xs) (List.drop (↑(0 : Nat) : Int).toNat (List.take (min (↑c.length : Int) (41 : Int)).toNat c))).snd =
 (properP (List.take (41 : Nat) xs) (List.drop (↑(0 : Nat) : Int).toNat (List.take (min (↑c.length : Int) (41 : Int)).toNat c))).snd ∧
 (properP (List.take (41 : Nat) xs) (List.drop (↑(0 : Nat) : Int).toNat (List.take (min (↑c.length : Int) (41 : Int)).toNat c))).fst =
 (properP (List.take (41 : Nat) xs) (List.drop (↑(0 : Nat) : Int).toNat (List.take (min (↑c.length : Int) (41 : Int)).toNat c))).fst ∧
 True ∧ List.take (41 : Nat) xs = List.take (41 : Nat) xs ∧ True) ∧
 ∀ (x : Nat),
 x ≤ (List.take (41 : Nat) c).length ∧ True →
 ((↑x : Int) < (↑(List.drop (↑(0 : Nat) : Int).toNat (List.take (min (↑c.length : Int) (41 : Int)).toNat c)).length : Int) →
 (↑x : Int) < (↑(List.drop (↑(0 : Nat) : Int).toNat (List.take (min (↑c.length : Int) (41 : Int)).toNat c)).length : Int) ∧
 (↑x : Int) < (↑(List.drop (↑(0 : Nat) : Int).toNat (List.take (min (↑c.length : Int) (41 : Int)).toNat c)).length : Int) ∧
 (badArg (List.take (41 : Nat) xs) (List.take (41 : Nat) c) x = (0 : Int) →
 badArg (List.take (41 : Nat) xs) (List.take (41 : Nat) c) x = (0 : Int) ∧
 badArg (List.take (41 : Nat) xs) (List.take (41 : Nat) c) x = (0 : Int) ∧
 ((0 : Int) ≤ (↑x : Int) ∧
 (↑x : Int) < (↑(List.drop (↑(0 : Nat) : Int).toNat (List.take (min (↑c.length : Int) (41 : Int)).toNat c)).length : Int)) ∧
 ((List.drop (↑(0 : Nat) : Int).toNat (List.take (min (↑c.length : Int) (41 : Int)).toNat c)).getD (↑x : Int).toNat (0 : Int) <
 (0 : Int) →
 (List.drop (↑(0 : Nat) : Int).toNat (List.take (min (↑c.length : Int) (41 : Int)).toNat c)).getD (↑x : Int).toNat (0 : Int) <
 (0 : Int) ∧
 Fits IntKind.i64 ((↑x : Int) + (1 : Int)) ∧
 ∃ (x' : Nat),
 (x' ≤ (List.take (41 : Nat) c).length ∧ True) ∧
 (List.take (41 : Nat) c).length - x' < (List.take (41 : Nat) c).length - x ∧
 (List.drop (↑(0 : Nat) : Int).toNat (List.take (min (↑c.length : Int) (41 : Int)).toNat c) =
 List.drop (↑(0 : Nat) : Int).toNat (List.take (min (↑c.length : Int) (41 : Int)).toNat c) ∧
 True) ∧
 (↑x : Int) + (1 : Int) = (↑x' : Int) ∧
 (1 : Int) = badArg (List.take (41 : Nat) xs) (List.take (41 : Nat) c) x' ∧
 (properP (List.take (41 : Nat) xs)
 (List.drop (↑(0 : Nat) : Int).toNat (List.take (min (↑c.length : Int) (41 : Int)).toNat c))).snd =
 (properP (List.take (41 : Nat) xs)
 (List.drop (↑(0 : Nat) : Int).toNat (List.take (min (↑c.length : Int) (41 : Int)).toNat c))).snd ∧
 (properP (List.take (41 : Nat) xs)
 (List.drop (↑(0 : Nat) : Int).toNat (List.take (min (↑c.length : Int) (41 : Int)).toNat c))).fst =
 (properP (List.take (41 : Nat) xs)
 (List.drop (↑(0 : Nat) : Int).toNat (List.take (min (↑c.length : Int) (41 : Int)).toNat c))).fst ∧
 True ∧ List.take (41 : Nat) xs = List.take (41 : Nat) xs ∧ True) ∧
 (¬(List.drop (↑(0 : Nat) : Int).toNat (List.take (min (↑c.length : Int) (41 : Int)).toNat c)).getD (↑x : Int).toNat (0 : Int) <
 (0 : Int) →
 ¬(List.drop (↑(0 : Nat) : Int).toNat (List.take (min (↑c.length : Int) (41 : Int)).toNat c)).getD (↑x : Int).toNat (0 : Int) <
 (0 : Int) ∧
 Fits IntKind.i64 ((↑x : Int) + (1 : Int)) ∧
 ∃ (x' : Nat),
 (x' ≤ (List.take (41 : Nat) c).length ∧ True) ∧
 (List.take (41 : Nat) c).length - x' < (List.take (41 : Nat) c).length - x ∧
 (List.drop (↑(0 : Nat) : Int).toNat (List.take (min (↑c.length : Int) (41 : Int)).toNat c) =
 List.drop (↑(0 : Nat) : Int).toNat (List.take (min (↑c.length : Int) (41 : Int)).toNat c) ∧
 True) ∧
 (↑x : Int) + (1 : Int) = (↑x' : Int) ∧
 badArg (List.take (41 : Nat) xs) (List.take (41 : Nat) c) x =
 badArg (List.take (41 : Nat) xs) (List.take (41 : Nat) c) x' ∧
 (properP (List.take (41 : Nat) xs)
 (List.drop (↑(0 : Nat) : Int).toNat (List.take (min (↑c.length : Int) (41 : Int)).toNat c))).snd =
 (properP (List.take (41 : Nat) xs)
 (List.drop (↑(0 : Nat) : Int).toNat (List.take (min (↑c.length : Int) (41 : Int)).toNat c))).snd ∧
 (properP (List.take (41 : Nat) xs)
 (List.drop (↑(0 : Nat) : Int).toNat (List.take (min (↑c.length : Int) (41 : Int)).toNat c))).fst =
 (properP (List.take (41 : Nat) xs)
 (List.drop (↑(0 : Nat) : Int).toNat (List.take (min (↑c.length : Int) (41 : Int)).toNat c))).fst ∧
 True ∧ List.take (41 : Nat) xs = List.take (41 : Nat) xs ∧ True)) ∧
 (¬badArg (List.take (41 : Nat) xs) (List.take (41 : Nat) c) x = (0 : Int) →
 ¬badArg (List.take (41 : Nat) xs) (List.take (41 : Nat) c) x = (0 : Int) ∧
 ¬badArg (List.take (41 : Nat) xs) (List.take (41 : Nat) c) x = (0 : Int) ∧
 (¬badArg (List.take (41 : Nat) xs) (List.take (41 : Nat) c) x = (0 : Int) →
 ¬badArg (List.take (41 : Nat) xs) (List.take (41 : Nat) c) x = (0 : Int) ∧
 ((!(properP (List.take (41 : Nat) xs)
 (List.drop (↑(0 : Nat) : Int).toNat (List.take (min (↑c.length : Int) (41 : Int)).toNat c))).fst) =
 true →
 (!(properP (List.take (41 : Nat) xs)
 (List.drop (↑(0 : Nat) : Int).toNat (List.take (min (↑c.length : Int) (41 : Int)).toNat c))).fst) =
 true ∧
 (!(properP (List.take (41 : Nat) xs)
 (List.drop (↑(0 : Nat) : Int).toNat (List.take (min (↑c.length : Int) (41 : Int)).toNat c))).fst) =
 true ∧
 ((properP (List.take (41 : Nat) xs)
 (List.drop (↑(0 : Nat) : Int).toNat (List.take (min (↑c.length : Int) (41 : Int)).toNat c))).snd =
 badArg (List.take (41 : Nat) xs) (List.take (41 : Nat) c) x →
 (properP (List.take (41 : Nat) xs)
 (List.drop (↑(0 : Nat) : Int).toNat (List.take (min (↑c.length : Int) (41 : Int)).toNat c))).snd =
 badArg (List.take (41 : Nat) xs) (List.take (41 : Nat) c) x ∧
 (properP (List.take (41 : Nat) xs)
 (List.drop (↑(0 : Nat) : Int).toNat (List.take (min (↑c.length : Int) (41 : Int)).toNat c))).snd =
 badArg (List.take (41 : Nat) xs) (List.take (41 : Nat) c) x ∧
 (properP (List.take (41 : Nat) xs)
 (List.drop (↑(0 : Nat) : Int).toNat (List.take (min (↑c.length : Int) (41 : Int)).toNat c))).snd =
 badArg (List.take (41 : Nat) xs) (List.take (41 : Nat) c) x ∧
 True ∧ true = true) ∧
 (¬(properP (List.take (41 : Nat) xs)
 (List.drop (↑(0 : Nat) : Int).toNat (List.take (min (↑c.length : Int) (41 : Int)).toNat c))).snd =
 badArg (List.take (41 : Nat) xs) (List.take (41 : Nat) c) x →
 ¬(properP (List.take (41 : Nat) xs)
 (List.drop (↑(0 : Nat) : Int).toNat (List.take (min (↑c.length : Int) (41 : Int)).toNat c))).snd =
 badArg (List.take (41 : Nat) xs) (List.take (41 : Nat) c) x ∧
 ¬(properP (List.take (41 : Nat) xs)
 (List.drop (↑(0 : Nat) : Int).toNat (List.take (min (↑c.length : Int) (41 : Int)).toNat c))).snd =
 badArg (List.take (41 : Nat) xs) (List.take (41 : Nat) c) x ∧
 ¬(properP (List.take (41 : Nat) xs)
 (List.drop (↑(0 : Nat) : Int).toNat (List.take (min (↑c.length : Int) (41 : Int)).toNat c))).snd =
 badArg (List.take (41 : Nat) xs) (List.take (41 : Nat) c) x ∧
 false = true)) ∧
 ((!(properP (List.take (41 : Nat) xs)
 (List.drop (↑(0 : Nat) : Int).toNat (List.take (min (↑c.length : Int) (41 : Int)).toNat c))).fst) =
 false →
 (!(properP (List.take (41 : Nat) xs)
 (List.drop (↑(0 : Nat) : Int).toNat (List.take (min (↑c.length : Int) (41 : Int)).toNat c))).fst) =
 false ∧
 (!(properP (List.take (41 : Nat) xs)
 (List.drop (↑(0 : Nat) : Int).toNat (List.take (min (↑c.length : Int) (41 : Int)).toNat c))).fst) =
 false ∧
 false = true)) ∧
 (¬¬badArg (List.take (41 : Nat) xs) (List.take (41 : Nat) c) x = (0 : Int) →
 ¬¬badArg (List.take (41 : Nat) xs) (List.take (41 : Nat) c) x = (0 : Int) ∧
 ((List.take (41 : Nat) xs).length ≤ (1000 : Nat) ∧
 (List.drop (↑(0 : Nat) : Int).toNat (List.take (min (↑c.length : Int) (41 : Int)).toNat c)).length =
 (List.take (41 : Nat) xs).length) ∧
 ((properP (List.take (41 : Nat) xs)
 (List.drop (↑(0 : Nat) : Int).toNat (List.take (min (↑c.length : Int) (41 : Int)).toNat c))).fst =
 properR (List.take (41 : Nat) xs)
 (List.drop (↑(0 : Nat) : Int).toNat (List.take (min (↑c.length : Int) (41 : Int)).toNat c)) →
 (properP (List.take (41 : Nat) xs)
 (List.drop (↑(0 : Nat) : Int).toNat (List.take (min (↑c.length : Int) (41 : Int)).toNat c))).fst =
 properR (List.take (41 : Nat) xs)
 (List.drop (↑(0 : Nat) : Int).toNat (List.take (min (↑c.length : Int) (41 : Int)).toNat c)) ∧
 (properP (List.take (41 : Nat) xs)
 (List.drop (↑(0 : Nat) : Int).toNat (List.take (min (↑c.length : Int) (41 : Int)).toNat c))).fst =
 properR (List.take (41 : Nat) xs)
 (List.drop (↑(0 : Nat) : Int).toNat (List.take (min (↑c.length : Int) (41 : Int)).toNat c)) ∧
 ((properP (List.take (41 : Nat) xs)
 (List.drop (↑(0 : Nat) : Int).toNat (List.take (min (↑c.length : Int) (41 : Int)).toNat c))).snd =
 (0 : Int) →
 (properP (List.take (41 : Nat) xs)
 (List.drop (↑(0 : Nat) : Int).toNat (List.take (min (↑c.length : Int) (41 : Int)).toNat c))).snd =
 (0 : Int) ∧
 (properP (List.take (41 : Nat) xs)
 (List.drop (↑(0 : Nat) : Int).toNat (List.take (min (↑c.length : Int) (41 : Int)).toNat c))).snd =
 (0 : Int) ∧
 (properP (List.take (41 : Nat) xs)
 (List.drop (↑(0 : Nat) : Int).toNat (List.take (min (↑c.length : Int) (41 : Int)).toNat c))).snd =
 (0 : Int) ∧
 True ∧ true = true) ∧
 (¬(properP (List.take (41 : Nat) xs)
 (List.drop (↑(0 : Nat) : Int).toNat (List.take (min (↑c.length : Int) (41 : Int)).toNat c))).snd =
 (0 : Int) →
 ¬(properP (List.take (41 : Nat) xs)
 (List.drop (↑(0 : Nat) : Int).toNat (List.take (min (↑c.length : Int) (41 : Int)).toNat c))).snd =
 (0 : Int) ∧
 ¬(properP (List.take (41 : Nat) xs)
 (List.drop (↑(0 : Nat) : Int).toNat (List.take (min (↑c.length : Int) (41 : Int)).toNat c))).snd =
 (0 : Int) ∧
 ¬(properP (List.take (41 : Nat) xs)
 (List.drop (↑(0 : Nat) : Int).toNat (List.take (min (↑c.length : Int) (41 : Int)).toNat c))).snd =
 (0 : Int) ∧
 false = true)) ∧
 (¬(properP (List.take (41 : Nat) xs)
 (List.drop (↑(0 : Nat) : Int).toNat (List.take (min (↑c.length : Int) (41 : Int)).toNat c))).fst =
 properR (List.take (41 : Nat) xs)
 (List.drop (↑(0 : Nat) : Int).toNat (List.take (min (↑c.length : Int) (41 : Int)).toNat c)) →
 ¬(properP (List.take (41 : Nat) xs)
 (List.drop (↑(0 : Nat) : Int).toNat (List.take (min (↑c.length : Int) (41 : Int)).toNat c))).fst =
 properR (List.take (41 : Nat) xs)
 (List.drop (↑(0 : Nat) : Int).toNat (List.take (min (↑c.length : Int) (41 : Int)).toNat c)) ∧
 ¬(properP (List.take (41 : Nat) xs)
 (List.drop (↑(0 : Nat) : Int).toNat (List.take (min (↑c.length : Int) (41 : Int)).toNat c))).fst =
 properR (List.take (41 : Nat) xs)
 (List.drop (↑(0 : Nat) : Int).toNat (List.take (min (↑c.length : Int) (41 : Int)).toNat c)) ∧
 false = true)))) ∧
 (¬(↑x : Int) < (↑(List.drop (↑(0 : Nat) : Int).toNat (List.take (min (↑c.length : Int) (41 : Int)).toNat c)).length : Int) →
 ¬(↑x : Int) < (↑(List.drop (↑(0 : Nat) : Int).toNat (List.take (min (↑c.length : Int) (41 : Int)).toNat c)).length : Int) ∧
 ¬(↑x : Int) < (↑(List.drop (↑(0 : Nat) : Int).toNat (List.take (min (↑c.length : Int) (41 : Int)).toNat c)).length : Int) ∧
 (¬badArg (List.take (41 : Nat) xs) (List.take (41 : Nat) c) x = (0 : Int) →
 ¬badArg (List.take (41 : Nat) xs) (List.take (41 : Nat) c) x = (0 : Int) ∧
 ((!(properP (List.take (41 : Nat) xs) (List.drop (↑(0 : Nat) : Int).toNat (List.take (min (↑c.length : Int) (41 : Int)).toNat c))).fst) =
 true →
 (!(properP (List.take (41 : Nat) xs)
 (List.drop (↑(0 : Nat) : Int).toNat (List.take (min (↑c.length : Int) (41 : Int)).toNat c))).fst) =
 true ∧
 (!(properP (List.take (41 : Nat) xs)
 (List.drop (↑(0 : Nat) : Int).toNat (List.take (min (↑c.length : Int) (41 : Int)).toNat c))).fst) =
 true ∧
 ((properP (List.take (41 : Nat) xs)
 (List.drop (↑(0 : Nat) : Int).toNat (List.take (min (↑c.length : Int) (41 : Int)).toNat c))).snd =
 badArg (List.take (41 : Nat) xs) (List.take (41 : Nat) c) x →
 (properP (List.take (41 : Nat) xs)
 (List.drop (↑(0 : Nat) : Int).toNat (List.take (min (↑c.length : Int) (41 : Int)).toNat c))).snd =
 badArg (List.take (41 : Nat) xs) (List.take (41 : Nat) c) x ∧
 (properP (List.take (41 : Nat) xs)
 (List.drop (↑(0 : Nat) : Int).toNat (List.take (min (↑c.length : Int) (41 : Int)).toNat c))).snd =
 badArg (List.take (41 : Nat) xs) (List.take (41 : Nat) c) x ∧
 (properP (List.take (41 : Nat) xs)
 (List.drop (↑(0 : Nat) : Int).toNat (List.take (min (↑c.length : Int) (41 : Int)).toNat c))).snd =
 badArg (List.take (41 : Nat) xs) (List.take (41 : Nat) c) x ∧
 True ∧ true = true) ∧
 (¬(properP (List.take (41 : Nat) xs)
 (List.drop (↑(0 : Nat) : Int).toNat (List.take (min (↑c.length : Int) (41 : Int)).toNat c))).snd =
 badArg (List.take (41 : Nat) xs) (List.take (41 : Nat) c) x →
 ¬(properP (List.take (41 : Nat) xs)
 (List.drop (↑(0 : Nat) : Int).toNat (List.take (min (↑c.length : Int) (41 : Int)).toNat c))).snd =
 badArg (List.take (41 : Nat) xs) (List.take (41 : Nat) c) x ∧
 ¬(properP (List.take (41 : Nat) xs)
 (List.drop (↑(0 : Nat) : Int).toNat (List.take (min (↑c.length : Int) (41 : Int)).toNat c))).snd =
 badArg (List.take (41 : Nat) xs) (List.take (41 : Nat) c) x ∧
 ¬(properP (List.take (41 : Nat) xs)
 (List.drop (↑(0 : Nat) : Int).toNat (List.take (min (↑c.length : Int) (41 : Int)).toNat c))).snd =
 badArg (List.take (41 : Nat) xs) (List.take (41 : Nat) c) x ∧
 false = true)) ∧
 ((!(properP (List.take (41 : Nat) xs)
 (List.drop (↑(0 : Nat) : Int).toNat (List.take (min (↑c.length : Int) (41 : Int)).toNat c))).fst) =
 false →
 (!(properP (List.take (41 : Nat) xs)
 (List.drop (↑(0 : Nat) : Int).toNat (List.take (min (↑c.length : Int) (41 : Int)).toNat c))).fst) =
 false ∧
 (!(properP (List.take (41 : Nat) xs)
 (List.drop (↑(0 : Nat) : Int).toNat (List.take (min (↑c.length : Int) (41 : Int)).toNat c))).fst) =
 false ∧
 false = true)) ∧
 (¬¬badArg (List.take (41 : Nat) xs) (List.take (41 : Nat) c) x = (0 : Int) →
 ¬¬badArg (List.take (41 : Nat) xs) (List.take (41 : Nat) c) x = (0 : Int) ∧
 ((List.take (41 : Nat) xs).length ≤ (1000 : Nat) ∧
 (List.drop (↑(0 : Nat) : Int).toNat (List.take (min (↑c.length : Int) (41 : Int)).toNat c)).length =
 (List.take (41 : Nat) xs).length) ∧
 ((properP (List.take (41 : Nat) xs) (List.drop (↑(0 : Nat) : Int).toNat (List.take (min (↑c.length : Int) (41 : Int)).toNat c))).fst =
 properR (List.take (41 : Nat) xs) (List.drop (↑(0 : Nat) : Int).toNat (List.take (min (↑c.length : Int) (41 : Int)).toNat c)) →
 (properP (List.take (41 : Nat) xs)
 (List.drop (↑(0 : Nat) : Int).toNat (List.take (min (↑c.length : Int) (41 : Int)).toNat c))).fst =
 properR (List.take (41 : Nat) xs) (List.drop (↑(0 : Nat) : Int).toNat (List.take (min (↑c.length : Int) (41 : Int)).toNat c)) ∧
 (properP (List.take (41 : Nat) xs)
 (List.drop (↑(0 : Nat) : Int).toNat (List.take (min (↑c.length : Int) (41 : Int)).toNat c))).fst =
 properR (List.take (41 : Nat) xs)
 (List.drop (↑(0 : Nat) : Int).toNat (List.take (min (↑c.length : Int) (41 : Int)).toNat c)) ∧
 ((properP (List.take (41 : Nat) xs)
 (List.drop (↑(0 : Nat) : Int).toNat (List.take (min (↑c.length : Int) (41 : Int)).toNat c))).snd =
 (0 : Int) →
 (properP (List.take (41 : Nat) xs)
 (List.drop (↑(0 : Nat) : Int).toNat (List.take (min (↑c.length : Int) (41 : Int)).toNat c))).snd =
 (0 : Int) ∧
 (properP (List.take (41 : Nat) xs)
 (List.drop (↑(0 : Nat) : Int).toNat (List.take (min (↑c.length : Int) (41 : Int)).toNat c))).snd =
 (0 : Int) ∧
 (properP (List.take (41 : Nat) xs)
 (List.drop (↑(0 : Nat) : Int).toNat (List.take (min (↑c.length : Int) (41 : Int)).toNat c))).snd =
 (0 : Int) ∧
 True ∧ true = true) ∧
 (¬(properP (List.take (41 : Nat) xs)
 (List.drop (↑(0 : Nat) : Int).toNat (List.take (min (↑c.length : Int) (41 : Int)).toNat c))).snd =
 (0 : Int) →
 ¬(properP (List.take (41 : Nat) xs)
 (List.drop (↑(0 : Nat) : Int).toNat (List.take (min (↑c.length : Int) (41 : Int)).toNat c))).snd =
 (0 : Int) ∧
 ¬(properP (List.take (41 : Nat) xs)
 (List.drop (↑(0 : Nat) : Int).toNat (List.take (min (↑c.length : Int) (41 : Int)).toNat c))).snd =
 (0 : Int) ∧
 ¬(properP (List.take (41 : Nat) xs)
 (List.drop (↑(0 : Nat) : Int).toNat (List.take (min (↑c.length : Int) (41 : Int)).toNat c))).snd =
 (0 : Int) ∧
 false = true)) ∧
 (¬(properP (List.take (41 : Nat) xs)
 (List.drop (↑(0 : Nat) : Int).toNat (List.take (min (↑c.length : Int) (41 : Int)).toNat c))).fst =
 properR (List.take (41 : Nat) xs) (List.drop (↑(0 : Nat) : Int).toNat (List.take (min (↑c.length : Int) (41 : Int)).toNat c)) →
 ¬(properP (List.take (41 : Nat) xs)
 (List.drop (↑(0 : Nat) : Int).toNat (List.take (min (↑c.length : Int) (41 : Int)).toNat c))).fst =
 properR (List.take (41 : Nat) xs)
 (List.drop (↑(0 : Nat) : Int).toNat (List.take (min (↑c.length : Int) (41 : Int)).toNat c)) ∧
 ¬(properP (List.take (41 : Nat) xs)
 (List.drop (↑(0 : Nat) : Int).toNat (List.take (min (↑c.length : Int) (41 : Int)).toNat c))).fst =
 properR (List.take (41 : Nat) xs)
 (List.drop (↑(0 : Nat) : Int).toNat (List.take (min (↑c.length : Int) (41 : Int)).toNat c)) ∧
 false = true))))) ∧
 True ∧
 Small ((0 : Nat) + (List.drop (↑(0 : Nat) : Int).toNat (List.take (min (↑c.length : Int) (41 : Int)).toNat c)).length) ∧
 ((List.take (41 : Nat) xs).length ≤ (1000 : Nat) ∧ (List.drop (↑(0 : Nat) : Int).toNat (List.take (min (↑c.length : Int) (41 : Int)).toNat c)).length ≤ (1000 : Nat)) ∧
 (List.take (41 : Nat) xs).length ≤ (1000 : Nat) ∧
 (checkF (List.take (41 : Nat) xs) = (0 : Int) →
 checkF (List.take (41 : Nat) xs) = (0 : Int) ∧
 checkF (List.take (41 : Nat) xs) = (0 : Int) ∧
 (¬(↑(List.drop (↑(0 : Nat) : Int).toNat (List.take (min (↑c.length : Int) (41 : Int)).toNat c)).length : Int) = (↑(List.take (41 : Nat) xs).length : Int) →
 ¬(↑(List.drop (↑(0 : Nat) : Int).toNat (List.take (min (↑c.length : Int) (41 : Int)).toNat c)).length : Int) = (↑(List.take (41 : Nat) xs).length : Int) ∧
 ¬(↑(List.drop (↑(0 : Nat) : Int).toNat (List.take (min (↑c.length : Int) (41 : Int)).toNat c)).length : Int) =
 (↑(List.take (41 : Nat) xs).length : Int) ∧
 (∃ (x0 : Nat),
 (x0 ≤ (List.take (41 : Nat) c).length ∧ True) ∧
 (List.drop (↑(0 : Nat) : Int).toNat (List.take (min (↑c.length : Int) (41 : Int)).toNat c) =
 List.drop (↑(0 : Nat) : Int).toNat (List.take (min (↑c.length : Int) (41 : Int)).toNat c) ∧
 True) ∧
 (0 : Int) = (↑x0 : Int) ∧
 (1 : Int) = badArg (List.take (41 : Nat) xs) (List.take (41 : Nat) c) x0 ∧
 (properP (List.take (41 : Nat) xs) (List.drop (↑(0 : Nat) : Int).toNat (List.take (min (↑c.length : Int) (41 : Int)).toNat c))).snd =
 (properP (List.take (41 : Nat) xs) (List.drop (↑(0 : Nat) : Int).toNat (List.take (min (↑c.length : Int) (41 : Int)).toNat c))).snd ∧
 (properP (List.take (41 : Nat) xs) (List.drop (↑(0 : Nat) : Int).toNat (List.take (min (↑c.length : Int) (41 : Int)).toNat c))).fst =
 (properP (List.take (41 : Nat) xs)
 (List.drop (↑(0 : Nat) : Int).toNat (List.take (min (↑c.length : Int) (41 : Int)).toNat c))).fst ∧
 True ∧ List.take (41 : Nat) xs = List.take (41 : Nat) xs ∧ True) ∧
 ∀ (x : Nat),
 x ≤ (List.take (41 : Nat) c).length ∧ True →
 ((↑x : Int) < (↑(List.drop (↑(0 : Nat) : Int).toNat (List.take (min (↑c.length : Int) (41 : Int)).toNat c)).length : Int) →
 (↑x : Int) < (↑(List.drop (↑(0 : Nat) : Int).toNat (List.take (min (↑c.length : Int) (41 : Int)).toNat c)).length : Int) ∧
 (↑x : Int) < (↑(List.drop (↑(0 : Nat) : Int).toNat (List.take (min (↑c.length : Int) (41 : Int)).toNat c)).length : Int) ∧
 (badArg (List.take (41 : Nat) xs) (List.take (41 : Nat) c) x = (0 : Int) →
 badArg (List.take (41 : Nat) xs) (List.take (41 : Nat) c) x = (0 : Int) ∧
 badArg (List.take (41 : Nat) xs) (List.take (41 : Nat) c) x = (0 : Int) ∧
 ((0 : Int) ≤ (↑x : Int) ∧
 (↑x : Int) < (↑(List.drop (↑(0 : Nat) : Int).toNat (List.take (min (↑c.length : Int) (41 : Int)).toNat c)).length : Int)) ∧
 ((List.drop (↑(0 : Nat) : Int).toNat (List.take (min (↑c.length : Int) (41 : Int)).toNat c)).getD (↑x : Int).toNat (0 : Int) <
 (0 : Int) →
 (List.drop (↑(0 : Nat) : Int).toNat (List.take (min (↑c.length : Int) (41 : Int)).toNat c)).getD (↑x : Int).toNat
 (0 : Int) <
 (0 : Int) ∧
 Fits IntKind.i64 ((↑x : Int) + (1 : Int)) ∧
 ∃ (x' : Nat),
 (x' ≤ (List.take (41 : Nat) c).length ∧ True) ∧
 (List.take (41 : Nat) c).length - x' < (List.take (41 : Nat) c).length - x ∧
 (List.drop (↑(0 : Nat) : Int).toNat (List.take (min (↑c.length : Int) (41 : Int)).toNat c) =
 List.drop (↑(0 : Nat) : Int).toNat (List.take (min (↑c.length : Int) (41 : Int)).toNat c) ∧
 True) ∧
 (↑x : Int) + (1 : Int) = (↑x' : Int) ∧
 (1 : Int) = badArg (List.take (41 : Nat) xs) (List.take (41 : Nat) c) x' ∧
 (properP (List.take (41 : Nat) xs)
 (List.drop (↑(0 : Nat) : Int).toNat (List.take (min (↑c.length : Int) (41 : Int)).toNat c))).snd =
 (properP (List.take (41 : Nat) xs)
 (List.drop (↑(0 : Nat) : Int).toNat (List.take (min (↑c.length : Int) (41 : Int)).toNat c))).snd ∧
 (properP (List.take (41 : Nat) xs)
 (List.drop (↑(0 : Nat) : Int).toNat
 (List.take (min (↑c.length : Int) (41 : Int)).toNat c))).fst =
 (properP (List.take (41 : Nat) xs)
 (List.drop (↑(0 : Nat) : Int).toNat
 (List.take (min (↑c.length : Int) (41 : Int)).toNat c))).fst ∧
 True ∧ List.take (41 : Nat) xs = List.take (41 : Nat) xs ∧ True) ∧
 (¬(List.drop (↑(0 : Nat) : Int).toNat (List.take (min (↑c.length : Int) (41 : Int)).toNat c)).getD (↑x : Int).toNat
 (0 : Int) <
 (0 : Int) →
 ¬(List.drop (↑(0 : Nat) : Int).toNat (List.take (min (↑c.length : Int) (41 : Int)).toNat c)).getD (↑x : Int).toNat
 (0 : Int) <
 (0 : Int) ∧
 Fits IntKind.i64 ((↑x : Int) + (1 : Int)) ∧
 ∃ (x' : Nat),
 (x' ≤ (List.take (41 : Nat) c).length ∧ True) ∧
 (List.take (41 : Nat) c).length - x' < (List.take (41 : Nat) c).length - x ∧
 (List.drop (↑(0 : Nat) : Int).toNat (List.take (min (↑c.length : Int) (41 : Int)).toNat c) =
 List.drop (↑(0 : Nat) : Int).toNat (List.take (min (↑c.length : Int) (41 : Int)).toNat c) ∧
 True) ∧
 (↑x : Int) + (1 : Int) = (↑x' : Int) ∧
 badArg (List.take (41 : Nat) xs) (List.take (41 : Nat) c) x =
 badArg (List.take (41 : Nat) xs) (List.take (41 : Nat) c) x' ∧
 (properP (List.take (41 : Nat) xs)
 (List.drop (↑(0 : Nat) : Int).toNat (List.take (min (↑c.length : Int) (41 : Int)).toNat c))).snd =
 (properP (List.take (41 : Nat) xs)
 (List.drop (↑(0 : Nat) : Int).toNat (List.take (min (↑c.length : Int) (41 : Int)).toNat c))).snd ∧
 (properP (List.take (41 : Nat) xs)
 (List.drop (↑(0 : Nat) : Int).toNat
 (List.take (min (↑c.length : Int) (41 : Int)).toNat c))).fst =
 (properP (List.take (41 : Nat) xs)
 (List.drop (↑(0 : Nat) : Int).toNat
 (List.take (min (↑c.length : Int) (41 : Int)).toNat c))).fst ∧
 True ∧ List.take (41 : Nat) xs = List.take (41 : Nat) xs ∧ True)) ∧
 (¬badArg (List.take (41 : Nat) xs) (List.take (41 : Nat) c) x = (0 : Int) →
 ¬badArg (List.take (41 : Nat) xs) (List.take (41 : Nat) c) x = (0 : Int) ∧
 ¬badArg (List.take (41 : Nat) xs) (List.take (41 : Nat) c) x = (0 : Int) ∧
 (¬badArg (List.take (41 : Nat) xs) (List.take (41 : Nat) c) x = (0 : Int) →
 ¬badArg (List.take (41 : Nat) xs) (List.take (41 : Nat) c) x = (0 : Int) ∧
 ((!(properP (List.take (41 : Nat) xs)
 (List.drop (↑(0 : Nat) : Int).toNat (List.take (min (↑c.length : Int) (41 : Int)).toNat c))).fst) =
 true →
 (!(properP (List.take (41 : Nat) xs)
 (List.drop (↑(0 : Nat) : Int).toNat (List.take (min (↑c.length : Int) (41 : Int)).toNat c))).fst) =
 true ∧
 (!(properP (List.take (41 : Nat) xs)
 (List.drop (↑(0 : Nat) : Int).toNat (List.take (min (↑c.length : Int) (41 : Int)).toNat c))).fst) =
 true ∧
 ((properP (List.take (41 : Nat) xs)
 (List.drop (↑(0 : Nat) : Int).toNat (List.take (min (↑c.length : Int) (41 : Int)).toNat c))).snd =
 badArg (List.take (41 : Nat) xs) (List.take (41 : Nat) c) x →
 (properP (List.take (41 : Nat) xs)
 (List.drop (↑(0 : Nat) : Int).toNat (List.take (min (↑c.length : Int) (41 : Int)).toNat c))).snd =
 badArg (List.take (41 : Nat) xs) (List.take (41 : Nat) c) x ∧
 (properP (List.take (41 : Nat) xs)
 (List.drop (↑(0 : Nat) : Int).toNat (List.take (min (↑c.length : Int) (41 : Int)).toNat c))).snd =
 badArg (List.take (41 : Nat) xs) (List.take (41 : Nat) c) x ∧
 (properP (List.take (41 : Nat) xs)
 (List.drop (↑(0 : Nat) : Int).toNat (List.take (min (↑c.length : Int) (41 : Int)).toNat c))).snd =
 badArg (List.take (41 : Nat) xs) (List.take (41 : Nat) c) x ∧
 True ∧ true = true) ∧
 (¬(properP (List.take (41 : Nat) xs)
 (List.drop (↑(0 : Nat) : Int).toNat (List.take (min (↑c.length : Int) (41 : Int)).toNat c))).snd =
 badArg (List.take (41 : Nat) xs) (List.take (41 : Nat) c) x →
 ¬(properP (List.take (41 : Nat) xs)
 (List.drop (↑(0 : Nat) : Int).toNat (List.take (min (↑c.length : Int) (41 : Int)).toNat c))).snd =
 badArg (List.take (41 : Nat) xs) (List.take (41 : Nat) c) x ∧
 ¬(properP (List.take (41 : Nat) xs)
 (List.drop (↑(0 : Nat) : Int).toNat (List.take (min (↑c.length : Int) (41 : Int)).toNat c))).snd =
 badArg (List.take (41 : Nat) xs) (List.take (41 : Nat) c) x ∧
 ¬(properP (List.take (41 : Nat) xs)
 (List.drop (↑(0 : Nat) : Int).toNat
 (List.take (min (↑c.length : Int) (41 : Int)).toNat c))).snd =
 badArg (List.take (41 : Nat) xs) (List.take (41 : Nat) c) x ∧
 false = true)) ∧
 ((!(properP (List.take (41 : Nat) xs)
 (List.drop (↑(0 : Nat) : Int).toNat (List.take (min (↑c.length : Int) (41 : Int)).toNat c))).fst) =
 false →
 (!(properP (List.take (41 : Nat) xs)
 (List.drop (↑(0 : Nat) : Int).toNat (List.take (min (↑c.length : Int) (41 : Int)).toNat c))).fst) =
 false ∧
 (!(properP (List.take (41 : Nat) xs)
 (List.drop (↑(0 : Nat) : Int).toNat (List.take (min (↑c.length : Int) (41 : Int)).toNat c))).fst) =
 false ∧
 false = true)) ∧
 (¬¬badArg (List.take (41 : Nat) xs) (List.take (41 : Nat) c) x = (0 : Int) →
 ¬¬badArg (List.take (41 : Nat) xs) (List.take (41 : Nat) c) x = (0 : Int) ∧
 ((List.take (41 : Nat) xs).length ≤ (1000 : Nat) ∧
 (List.drop (↑(0 : Nat) : Int).toNat (List.take (min (↑c.length : Int) (41 : Int)).toNat c)).length =
 (List.take (41 : Nat) xs).length) ∧
 ((properP (List.take (41 : Nat) xs)
 (List.drop (↑(0 : Nat) : Int).toNat (List.take (min (↑c.length : Int) (41 : Int)).toNat c))).fst =
 properR (List.take (41 : Nat) xs)
 (List.drop (↑(0 : Nat) : Int).toNat (List.take (min (↑c.length : Int) (41 : Int)).toNat c)) →
 (properP (List.take (41 : Nat) xs)
 (List.drop (↑(0 : Nat) : Int).toNat (List.take (min (↑c.length : Int) (41 : Int)).toNat c))).fst =
 properR (List.take (41 : Nat) xs)
 (List.drop (↑(0 : Nat) : Int).toNat (List.take (min (↑c.length : Int) (41 : Int)).toNat c)) ∧
 (properP (List.take (41 : Nat) xs)
 (List.drop (↑(0 : Nat) : Int).toNat (List.take (min (↑c.length : Int) (41 : Int)).toNat c))).fst =
 properR (List.take (41 : Nat) xs)
 (List.drop (↑(0 : Nat) : Int).toNat (List.take (min (↑c.length : Int) (41 : Int)).toNat c)) ∧
 ((properP (List.take (41 : Nat) xs)
 (List.drop (↑(0 : Nat) : Int).toNat (List.take (min (↑c.length : Int) (41 : Int)).toNat c))).snd =
 (0 : Int) →
 (properP (List.take (41 : Nat) xs)
 (List.drop (↑(0 : Nat) : Int).toNat (List.take (min (↑c.length : Int) (41 : Int)).toNat c))).snd =
 (0 : Int) ∧
 (properP (List.take (41 : Nat) xs)
 (List.drop (↑(0 : Nat) : Int).toNat (List.take (min (↑c.length : Int) (41 : Int)).toNat c))).snd =
 (0 : Int) ∧
 (properP (List.take (41 : Nat) xs)
 (List.drop (↑(0 : Nat) : Int).toNat
 (List.take (min (↑c.length : Int) (41 : Int)).toNat c))).snd =
 (0 : Int) ∧
 True ∧ true = true) ∧
 (¬(properP (List.take (41 : Nat) xs)
 (List.drop (↑(0 : Nat) : Int).toNat (List.take (min (↑c.length : Int) (41 : Int)).toNat c))).snd =
 (0 : Int) →
 ¬(properP (List.take (41 : Nat) xs)
 (List.drop (↑(0 : Nat) : Int).toNat (List.take (min (↑c.length : Int) (41 : Int)).toNat c))).snd =
 (0 : Int) ∧
 ¬(properP (List.take (41 : Nat) xs)
 (List.drop (↑(0 : Nat) : Int).toNat
 (List.take (min (↑c.length : Int) (41 : Int)).toNat c))).snd =
 (0 : Int) ∧
 ¬(properP (List.take (41 : Nat) xs)
 (List.drop (↑(0 : Nat) : Int).toNat
 (List.take (min (↑c.length : Int) (41 : Int)).toNat c))).snd =
 (0 : Int) ∧
 false = true)) ∧
 (¬(properP (List.take (41 : Nat) xs)
 (List.drop (↑(0 : Nat) : Int).toNat (List.take (min (↑c.length : Int) (41 : Int)).toNat c))).fst =
 properR (List.take (41 : Nat) xs)
 (List.drop (↑(0 : Nat) : Int).toNat (List.take (min (↑c.length : Int) (41 : Int)).toNat c)) →
 ¬(properP (List.take (41 : Nat) xs)
 (List.drop (↑(0 : Nat) : Int).toNat (List.take (min (↑c.length : Int) (41 : Int)).toNat c))).fst =
 properR (List.take (41 : Nat) xs)
 (List.drop (↑(0 : Nat) : Int).toNat (List.take (min (↑c.length : Int) (41 : Int)).toNat c)) ∧
 ¬(properP (List.take (41 : Nat) xs)
 (List.drop (↑(0 : Nat) : Int).toNat (List.take (min (↑c.length : Int) (41 : Int)).toNat c))).fst =
 properR (List.take (41 : Nat) xs)
 (List.drop (↑(0 : Nat) : Int).toNat (List.take (min (↑c.length : Int) (41 : Int)).toNat c)) ∧
 false = true)))) ∧
 (¬(↑x : Int) < (↑(List.drop (↑(0 : Nat) : Int).toNat (List.take (min (↑c.length : Int) (41 : Int)).toNat c)).length : Int) →
 ¬(↑x : Int) < (↑(List.drop (↑(0 : Nat) : Int).toNat (List.take (min (↑c.length : Int) (41 : Int)).toNat c)).length : Int) ∧
 ¬(↑x : Int) < (↑(List.drop (↑(0 : Nat) : Int).toNat (List.take (min (↑c.length : Int) (41 : Int)).toNat c)).length : Int) ∧
 (¬badArg (List.take (41 : Nat) xs) (List.take (41 : Nat) c) x = (0 : Int) →
 ¬badArg (List.take (41 : Nat) xs) (List.take (41 : Nat) c) x = (0 : Int) ∧
 ((!(properP (List.take (41 : Nat) xs)
 (List.drop (↑(0 : Nat) : Int).toNat (List.take (min (↑c.length : Int) (41 : Int)).toNat c))).fst) =
 true →
 (!(properP (List.take (41 : Nat) xs)
 (List.drop (↑(0 : Nat) : Int).toNat (List.take (min (↑c.length : Int) (41 : Int)).toNat c))).fst) =
 true ∧
 (!(properP (List.take (41 : Nat) xs)
 (List.drop (↑(0 : Nat) : Int).toNat (List.take (min (↑c.length : Int) (41 : Int)).toNat c))).fst) =
 true ∧
 ((properP (List.take (41 : Nat) xs)
 (List.drop (↑(0 : Nat) : Int).toNat (List.take (min (↑c.length : Int) (41 : Int)).toNat c))).snd =
 badArg (List.take (41 : Nat) xs) (List.take (41 : Nat) c) x →
 (properP (List.take (41 : Nat) xs)
 (List.drop (↑(0 : Nat) : Int).toNat (List.take (min (↑c.length : Int) (41 : Int)).toNat c))).snd =
 badArg (List.take (41 : Nat) xs) (List.take (41 : Nat) c) x ∧
 (properP (List.take (41 : Nat) xs)
 (List.drop (↑(0 : Nat) : Int).toNat (List.take (min (↑c.length : Int) (41 : Int)).toNat c))).snd =
 badArg (List.take (41 : Nat) xs) (List.take (41 : Nat) c) x ∧
 (properP (List.take (41 : Nat) xs)
 (List.drop (↑(0 : Nat) : Int).toNat (List.take (min (↑c.length : Int) (41 : Int)).toNat c))).snd =
 badArg (List.take (41 : Nat) xs) (List.take (41 : Nat) c) x ∧
 True ∧ true = true) ∧
 (¬(properP (List.take (41 : Nat) xs)
 (List.drop (↑(0 : Nat) : Int).toNat (List.take (min (↑c.length : Int) (41 : Int)).toNat c))).snd =
 badArg (List.take (41 : Nat) xs) (List.take (41 : Nat) c) x →
 ¬(properP (List.take (41 : Nat) xs)
 (List.drop (↑(0 : Nat) : Int).toNat (List.take (min (↑c.length : Int) (41 : Int)).toNat c))).snd =
 badArg (List.take (41 : Nat) xs) (List.take (41 : Nat) c) x ∧
 ¬(properP (List.take (41 : Nat) xs)
 (List.drop (↑(0 : Nat) : Int).toNat (List.take (min (↑c.length : Int) (41 : Int)).toNat c))).snd =
 badArg (List.take (41 : Nat) xs) (List.take (41 : Nat) c) x ∧
 ¬(properP (List.take (41 : Nat) xs)
 (List.drop (↑(0 : Nat) : Int).toNat (List.take (min (↑c.length : Int) (41 : Int)).toNat c))).snd =
 badArg (List.take (41 : Nat) xs) (List.take (41 : Nat) c) x ∧
 false = true)) ∧
 ((!(properP (List.take (41 : Nat) xs)
 (List.drop (↑(0 : Nat) : Int).toNat (List.take (min (↑c.length : Int) (41 : Int)).toNat c))).fst) =
 false →
 (!(properP (List.take (41 : Nat) xs)
 (List.drop (↑(0 : Nat) : Int).toNat (List.take (min (↑c.length : Int) (41 : Int)).toNat c))).fst) =
 false ∧
 (!(properP (List.take (41 : Nat) xs)
 (List.drop (↑(0 : Nat) : Int).toNat (List.take (min (↑c.length : Int) (41 : Int)).toNat c))).fst) =
 false ∧
 false = true)) ∧
 (¬¬badArg (List.take (41 : Nat) xs) (List.take (41 : Nat) c) x = (0 : Int) →
 ¬¬badArg (List.take (41 : Nat) xs) (List.take (41 : Nat) c) x = (0 : Int) ∧
 ((List.take (41 : Nat) xs).length ≤ (1000 : Nat) ∧
 (List.drop (↑(0 : Nat) : Int).toNat (List.take (min (↑c.length : Int) (41 : Int)).toNat c)).length =
 (List.take (41 : Nat) xs).length) ∧
 ((properP (List.take (41 : Nat) xs)
 (List.drop (↑(0 : Nat) : Int).toNat (List.take (min (↑c.length : Int) (41 : Int)).toNat c))).fst =
 properR (List.take (41 : Nat) xs)
 (List.drop (↑(0 : Nat) : Int).toNat (List.take (min (↑c.length : Int) (41 : Int)).toNat c)) →
 (properP (List.take (41 : Nat) xs)
 (List.drop (↑(0 : Nat) : Int).toNat (List.take (min (↑c.length : Int) (41 : Int)).toNat c))).fst =
 properR (List.take (41 : Nat) xs)
 (List.drop (↑(0 : Nat) : Int).toNat (List.take (min (↑c.length : Int) (41 : Int)).toNat c)) ∧
 (properP (List.take (41 : Nat) xs)
 (List.drop (↑(0 : Nat) : Int).toNat (List.take (min (↑c.length : Int) (41 : Int)).toNat c))).fst =
 properR (List.take (41 : Nat) xs)
 (List.drop (↑(0 : Nat) : Int).toNat (List.take (min (↑c.length : Int) (41 : Int)).toNat c)) ∧
 ((properP (List.take (41 : Nat) xs)
 (List.drop (↑(0 : Nat) : Int).toNat (List.take (min (↑c.length : Int) (41 : Int)).toNat c))).snd =
 (0 : Int) →
 (properP (List.take (41 : Nat) xs)
 (List.drop (↑(0 : Nat) : Int).toNat (List.take (min (↑c.length : Int) (41 : Int)).toNat c))).snd =
 (0 : Int) ∧
 (properP (List.take (41 : Nat) xs)
 (List.drop (↑(0 : Nat) : Int).toNat (List.take (min (↑c.length : Int) (41 : Int)).toNat c))).snd =
 (0 : Int) ∧
 (properP (List.take (41 : Nat) xs)
 (List.drop (↑(0 : Nat) : Int).toNat (List.take (min (↑c.length : Int) (41 : Int)).toNat c))).snd =
 (0 : Int) ∧
 True ∧ true = true) ∧
 (¬(properP (List.take (41 : Nat) xs)
 (List.drop (↑(0 : Nat) : Int).toNat (List.take (min (↑c.length : Int) (41 : Int)).toNat c))).snd =
 (0 : Int) →
 ¬(properP (List.take (41 : Nat) xs)
 (List.drop (↑(0 : Nat) : Int).toNat (List.take (min (↑c.length : Int) (41 : Int)).toNat c))).snd =
 (0 : Int) ∧
 ¬(properP (List.take (41 : Nat) xs)
 (List.drop (↑(0 : Nat) : Int).toNat (List.take (min (↑c.length : Int) (41 : Int)).toNat c))).snd =
 (0 : Int) ∧
 ¬(properP (List.take (41 : Nat) xs)
 (List.drop (↑(0 : Nat) : Int).toNat (List.take (min (↑c.length : Int) (41 : Int)).toNat c))).snd =
 (0 : Int) ∧
 false = true)) ∧
 (¬(properP (List.take (41 : Nat) xs)
 (List.drop (↑(0 : Nat) : Int).toNat (List.take (min (↑c.length : Int) (41 : Int)).toNat c))).fst =
 properR (List.take (41 : Nat) xs)
 (List.drop (↑(0 : Nat) : Int).toNat (List.take (min (↑c.length : Int) (41 : Int)).toNat c)) →
 ¬(properP (List.take (41 : Nat) xs)
 (List.drop (↑(0 : Nat) : Int).toNat (List.take (min (↑c.length : Int) (41 : Int)).toNat c))).fst =
 properR (List.take (41 : Nat) xs)
 (List.drop (↑(0 : Nat) : Int).toNat (List.take (min (↑c.length : Int) (41 : Int)).toNat c)) ∧
 ¬(properP (List.take (41 : Nat) xs)
 (List.drop (↑(0 : Nat) : Int).toNat (List.take (min (↑c.length : Int) (41 : Int)).toNat c))).fst =
 properR (List.take (41 : Nat) xs)
 (List.drop (↑(0 : Nat) : Int).toNat (List.take (min (↑c.length : Int) (41 : Int)).toNat c)) ∧
 false = true)))) ∧
 (¬¬(↑(List.drop (↑(0 : Nat) : Int).toNat (List.take (min (↑c.length : Int) (41 : Int)).toNat c)).length : Int) = (↑(List.take (41 : Nat) xs).length : Int) →
 ¬¬(↑(List.drop (↑(0 : Nat) : Int).toNat (List.take (min (↑c.length : Int) (41 : Int)).toNat c)).length : Int) =
 (↑(List.take (41 : Nat) xs).length : Int) ∧
 ¬¬(↑(List.drop (↑(0 : Nat) : Int).toNat (List.take (min (↑c.length : Int) (41 : Int)).toNat c)).length : Int) =
 (↑(List.take (41 : Nat) xs).length : Int) ∧
 (∃ (x0 : Nat),
 (x0 ≤ (List.take (41 : Nat) c).length ∧ True) ∧
 (List.drop (↑(0 : Nat) : Int).toNat (List.take (min (↑c.length : Int) (41 : Int)).toNat c) =
 List.drop (↑(0 : Nat) : Int).toNat (List.take (min (↑c.length : Int) (41 : Int)).toNat c) ∧
 True) ∧
 (0 : Int) = (↑x0 : Int) ∧
 checkF (List.take (41 : Nat) xs) = badArg (List.take (41 : Nat) xs) (List.take (41 : Nat) c) x0 ∧
 (properP (List.take (41 : Nat) xs) (List.drop (↑(0 : Nat) : Int).toNat (List.take (min (↑c.length : Int) (41 : Int)).toNat c))).snd =
 (properP (List.take (41 : Nat) xs) (List.drop (↑(0 : Nat) : Int).toNat (List.take (min (↑c.length : Int) (41 : Int)).toNat c))).snd ∧
 (properP (List.take (41 : Nat) xs) (List.drop (↑(0 : Nat) : Int).toNat (List.take (min (↑c.length : Int) (41 : Int)).toNat c))).fst =
 (properP (List.take (41 : Nat) xs)
 (List.drop (↑(0 : Nat) : Int).toNat (List.take (min (↑c.length : Int) (41 : Int)).toNat c))).fst ∧
 True ∧ List.take (41 : Nat) xs = List.take (41 : Nat) xs ∧ True) ∧
 ∀ (x : Nat),
 x ≤ (List.take (41 : Nat) c).length ∧ True →
 ((↑x : Int) < (↑(List.drop (↑(0 : Nat) : Int).toNat (List.take (min (↑c.length : Int) (41 : Int)).toNat c)).length : Int) →
 (↑x : Int) < (↑(List.drop (↑(0 : Nat) : Int).toNat (List.take (min (↑c.length : Int) (41 : Int)).toNat c)).length : Int) ∧
 (↑x : Int) < (↑(List.drop (↑(0 : Nat) : Int).toNat (List.take (min (↑c.length : Int) (41 : Int)).toNat c)).length : Int) ∧
 (badArg (List.take (41 : Nat) xs) (List.take (41 : Nat) c) x = (0 : Int) →
 badArg (List.take (41 : Nat) xs) (List.take (41 : Nat) c) x = (0 : Int) ∧
 badArg (List.take (41 : Nat) xs) (List.take (41 : Nat) c) x = (0 : Int) ∧
 ((0 : Int) ≤ (↑x : Int) ∧
 (↑x : Int) < (↑(List.drop (↑(0 : Nat) : Int).toNat (List.take (min (↑c.length : Int) (41 : Int)).toNat c)).length : Int)) ∧
 ((List.drop (↑(0 : Nat) : Int).toNat (List.take (min (↑c.length : Int) (41 : Int)).toNat c)).getD (↑x : Int).toNat (0 : Int) <
 (0 : Int) →
 (List.drop (↑(0 : Nat) : Int).toNat (List.take (min (↑c.length : Int) (41 : Int)).toNat c)).getD (↑x : Int).toNat
 (0 : Int) <
 (0 : Int) ∧
 Fits IntKind.i64 ((↑x : Int) + (1 : Int)) ∧
 ∃ (x' : Nat),
 (x' ≤ (List.take (41 : Nat) c).length ∧ True) ∧
 (List.take (41 : Nat) c).length - x' < (List.take (41 : Nat) c).length - x ∧
 (List.drop (↑(0 : Nat) : Int).toNat (List.take (min (↑c.length : Int) (41 : Int)).toNat c) =
 List.drop (↑(0 : Nat) : Int).toNat (List.take (min (↑c.length : Int) (41 : Int)).toNat c) ∧
 True) ∧
 (↑x : Int) + (1 : Int) = (↑x' : Int) ∧
 (1 : Int) = badArg (List.take (41 : Nat) xs) (List.take (41 : Nat) c) x' ∧
 (properP (List.take (41 : Nat) xs)
 (List.drop (↑(0 : Nat) : Int).toNat (List.take (min (↑c.length : Int) (41 : Int)).toNat c))).snd =
 (properP (List.take (41 : Nat) xs)
 (List.drop (↑(0 : Nat) : Int).toNat (List.take (min (↑c.length : Int) (41 : Int)).toNat c))).snd ∧
 (properP (List.take (41 : Nat) xs)
 (List.drop (↑(0 : Nat) : Int).toNat
 (List.take (min (↑c.length : Int) (41 : Int)).toNat c))).fst =
 (properP (List.take (41 : Nat) xs)
 (List.drop (↑(0 : Nat) : Int).toNat
 (List.take (min (↑c.length : Int) (41 : Int)).toNat c))).fst ∧
 True ∧ List.take (41 : Nat) xs = List.take (41 : Nat) xs ∧ True) ∧
 (¬(List.drop (↑(0 : Nat) : Int).toNat (List.take (min (↑c.length : Int) (41 : Int)).toNat c)).getD (↑x : Int).toNat
 (0 : Int) <
 (0 : Int) →
 ¬(List.drop (↑(0 : Nat) : Int).toNat (List.take (min (↑c.length : Int) (41 : Int)).toNat c)).getD (↑x : Int).toNat
 (0 : Int) <
 (0 : Int) ∧
 Fits IntKind.i64 ((↑x : Int) + (1 : Int)) ∧
 ∃ (x' : Nat),
 (x' ≤ (List.take (41 : Nat) c).length ∧ True) ∧
 (List.take (41 : Nat) c).length - x' < (List.take (41 : Nat) c).length - x ∧
 (List.drop (↑(0 : Nat) : Int).toNat (List.take (min (↑c.length : Int) (41 : Int)).toNat c) =
 List.drop (↑(0 : Nat) : Int).toNat (List.take (min (↑c.length : Int) (41 : Int)).toNat c) ∧
 True) ∧
 (↑x : Int) + (1 : Int) = (↑x' : Int) ∧
 badArg (List.take (41 : Nat) xs) (List.take (41 : Nat) c) x =
 badArg (List.take (41 : Nat) xs) (List.take (41 : Nat) c) x' ∧
 (properP (List.take (41 : Nat) xs)
 (List.drop (↑(0 : Nat) : Int).toNat (List.take (min (↑c.length : Int) (41 : Int)).toNat c))).snd =
 (properP (List.take (41 : Nat) xs)
 (List.drop (↑(0 : Nat) : Int).toNat (List.take (min (↑c.length : Int) (41 : Int)).toNat c))).snd ∧
 (properP (List.take (41 : Nat) xs)
 (List.drop (↑(0 : Nat) : Int).toNat
 (List.take (min (↑c.length : Int) (41 : Int)).toNat c))).fst =
 (properP (List.take (41 : Nat) xs)
 (List.drop (↑(0 : Nat) : Int).toNat
 (List.take (min (↑c.length : Int) (41 : Int)).toNat c))).fst ∧
 True ∧ List.take (41 : Nat) xs = List.take (41 : Nat) xs ∧ True)) ∧
 (¬badArg (List.take (41 : Nat) xs) (List.take (41 : Nat) c) x = (0 : Int) →
 ¬badArg (List.take (41 : Nat) xs) (List.take (41 : Nat) c) x = (0 : Int) ∧
 ¬badArg (List.take (41 : Nat) xs) (List.take (41 : Nat) c) x = (0 : Int) ∧
 (¬badArg (List.take (41 : Nat) xs) (List.take (41 : Nat) c) x = (0 : Int) →
 ¬badArg (List.take (41 : Nat) xs) (List.take (41 : Nat) c) x = (0 : Int) ∧
 ((!(properP (List.take (41 : Nat) xs)
 (List.drop (↑(0 : Nat) : Int).toNat (List.take (min (↑c.length : Int) (41 : Int)).toNat c))).fst) =
 true →
 (!(properP (List.take (41 : Nat) xs)
 (List.drop (↑(0 : Nat) : Int).toNat (List.take (min (↑c.length : Int) (41 : Int)).toNat c))).fst) =
 true ∧
 (!(properP (List.take (41 : Nat) xs)
 (List.drop (↑(0 : Nat) : Int).toNat (List.take (min (↑c.length : Int) (41 : Int)).toNat c))).fst) =
 true ∧
 ((properP (List.take (41 : Nat) xs)
 (List.drop (↑(0 : Nat) : Int).toNat (List.take (min (↑c.length : Int) (41 : Int)).toNat c))).snd =
 badArg (List.take (41 : Nat) xs) (List.take (41 : Nat) c) x →
 (properP (List.take (41 : Nat) xs)
 (List.drop (↑(0 : Nat) : Int).toNat (List.take (min (↑c.length : Int) (41 : Int)).toNat c))).snd =
 badArg (List.take (41 : Nat) xs) (List.take (41 : Nat) c) x ∧
 (properP (List.take (41 : Nat) xs)
 (List.drop (↑(0 : Nat) : Int).toNat (List.take (min (↑c.length : Int) (41 : Int)).toNat c))).snd =
 badArg (List.take (41 : Nat) xs) (List.take (41 : Nat) c) x ∧
 (properP (List.take (41 : Nat) xs)
 (List.drop (↑(0 : Nat) : Int).toNat (List.take (min (↑c.length : Int) (41 : Int)).toNat c))).snd =
 badArg (List.take (41 : Nat) xs) (List.take (41 : Nat) c) x ∧
 True ∧ true = true) ∧
 (¬(properP (List.take (41 : Nat) xs)
 (List.drop (↑(0 : Nat) : Int).toNat (List.take (min (↑c.length : Int) (41 : Int)).toNat c))).snd =
 badArg (List.take (41 : Nat) xs) (List.take (41 : Nat) c) x →
 ¬(properP (List.take (41 : Nat) xs)
 (List.drop (↑(0 : Nat) : Int).toNat (List.take (min (↑c.length : Int) (41 : Int)).toNat c))).snd =
 badArg (List.take (41 : Nat) xs) (List.take (41 : Nat) c) x ∧
 ¬(properP (List.take (41 : Nat) xs)
 (List.drop (↑(0 : Nat) : Int).toNat (List.take (min (↑c.length : Int) (41 : Int)).toNat c))).snd =
 badArg (List.take (41 : Nat) xs) (List.take (41 : Nat) c) x ∧
 ¬(properP (List.take (41 : Nat) xs)
 (List.drop (↑(0 : Nat) : Int).toNat
 (List.take (min (↑c.length : Int) (41 : Int)).toNat c))).snd =
 badArg (List.take (41 : Nat) xs) (List.take (41 : Nat) c) x ∧
 false = true)) ∧
 ((!(properP (List.take (41 : Nat) xs)
 (List.drop (↑(0 : Nat) : Int).toNat (List.take (min (↑c.length : Int) (41 : Int)).toNat c))).fst) =
 false →
 (!(properP (List.take (41 : Nat) xs)
 (List.drop (↑(0 : Nat) : Int).toNat (List.take (min (↑c.length : Int) (41 : Int)).toNat c))).fst) =
 false ∧
 (!(properP (List.take (41 : Nat) xs)
 (List.drop (↑(0 : Nat) : Int).toNat (List.take (min (↑c.length : Int) (41 : Int)).toNat c))).fst) =
 false ∧
 false = true)) ∧
 (¬¬badArg (List.take (41 : Nat) xs) (List.take (41 : Nat) c) x = (0 : Int) →
 ¬¬badArg (List.take (41 : Nat) xs) (List.take (41 : Nat) c) x = (0 : Int) ∧
 ((List.take (41 : Nat) xs).length ≤ (1000 : Nat) ∧
 (List.drop (↑(0 : Nat) : Int).toNat (List.take (min (↑c.length : Int) (41 : Int)).toNat c)).length =
 (List.take (41 : Nat) xs).length) ∧
 ((properP (List.take (41 : Nat) xs)
 (List.drop (↑(0 : Nat) : Int).toNat (List.take (min (↑c.length : Int) (41 : Int)).toNat c))).fst =
 properR (List.take (41 : Nat) xs)
 (List.drop (↑(0 : Nat) : Int).toNat (List.take (min (↑c.length : Int) (41 : Int)).toNat c)) →
 (properP (List.take (41 : Nat) xs)
 (List.drop (↑(0 : Nat) : Int).toNat (List.take (min (↑c.length : Int) (41 : Int)).toNat c))).fst =
 properR (List.take (41 : Nat) xs)
 (List.drop (↑(0 : Nat) : Int).toNat (List.take (min (↑c.length : Int) (41 : Int)).toNat c)) ∧
 (properP (List.take (41 : Nat) xs)
 (List.drop (↑(0 : Nat) : Int).toNat (List.take (min (↑c.length : Int) (41 : Int)).toNat c))).fst =
 properR (List.take (41 : Nat) xs)
 (List.drop (↑(0 : Nat) : Int).toNat (List.take (min (↑c.length : Int) (41 : Int)).toNat c)) ∧
 ((properP (List.take (41 : Nat) xs)
 (List.drop (↑(0 : Nat) : Int).toNat (List.take (min (↑c.length : Int) (41 : Int)).toNat c))).snd =
 (0 : Int) →
 (properP (List.take (41 : Nat) xs)
 (List.drop (↑(0 : Nat) : Int).toNat (List.take (min (↑c.length : Int) (41 : Int)).toNat c))).snd =
 (0 : Int) ∧
 (properP (List.take (41 : Nat) xs)
 (List.drop (↑(0 : Nat) : Int).toNat (List.take (min (↑c.length : Int) (41 : Int)).toNat c))).snd =
 (0 : Int) ∧
 (properP (List.take (41 : Nat) xs)
 (List.drop (↑(0 : Nat) : Int).toNat
 (List.take (min (↑c.length : Int) (41 : Int)).toNat c))).snd =
 (0 : Int) ∧
 True ∧ true = true) ∧
 (¬(properP (List.take (41 : Nat) xs)
 (List.drop (↑(0 : Nat) : Int).toNat (List.take (min (↑c.length : Int) (41 : Int)).toNat c))).snd =
 (0 : Int) →
 ¬(properP (List.take (41 : Nat) xs)
 (List.drop (↑(0 : Nat) : Int).toNat (List.take (min (↑c.length : Int) (41 : Int)).toNat c))).snd =
 (0 : Int) ∧
 ¬(properP (List.take (41 : Nat) xs)
 (List.drop (↑(0 : Nat) : Int).toNat
 (List.take (min (↑c.length : Int) (41 : Int)).toNat c))).snd =
 (0 : Int) ∧
 ¬(properP (List.take (41 : Nat) xs)
 (List.drop (↑(0 : Nat) : Int).toNat
 (List.take (min (↑c.length : Int) (41 : Int)).toNat c))).snd =
 (0 : Int) ∧
 false = true)) ∧
 (¬(properP (List.take (41 : Nat) xs)
 (List.drop (↑(0 : Nat) : Int).toNat (List.take (min (↑c.length : Int) (41 : Int)).toNat c))).fst =
 properR (List.take (41 : Nat) xs)
 (List.drop (↑(0 : Nat) : Int).toNat (List.take (min (↑c.length : Int) (41 : Int)).toNat c)) →
 ¬(properP (List.take (41 : Nat) xs)
 (List.drop (↑(0 : Nat) : Int).toNat (List.take (min (↑c.length : Int) (41 : Int)).toNat c))).fst =
 properR (List.take (41 : Nat) xs)
 (List.drop (↑(0 : Nat) : Int).toNat (List.take (min (↑c.length : Int) (41 : Int)).toNat c)) ∧
 ¬(properP (List.take (41 : Nat) xs)
 (List.drop (↑(0 : Nat) : Int).toNat (List.take (min (↑c.length : Int) (41 : Int)).toNat c))).fst =
 properR (List.take (41 : Nat) xs)
 (List.drop (↑(0 : Nat) : Int).toNat (List.take (min (↑c.length : Int) (41 : Int)).toNat c)) ∧
 false = true)))) ∧
 (¬(↑x : Int) < (↑(List.drop (↑(0 : Nat) : Int).toNat (List.take (min (↑c.length : Int) (41 : Int)).toNat c)).length : Int) →
 ¬(↑x : Int) < (↑(List.drop (↑(0 : Nat) : Int).toNat (List.take (min (↑c.length : Int) (41 : Int)).toNat c)).length : Int) ∧
 ¬(↑x : Int) < (↑(List.drop (↑(0 : Nat) : Int).toNat (List.take (min (↑c.length : Int) (41 : Int)).toNat c)).length : Int) ∧
 (¬badArg (List.take (41 : Nat) xs) (List.take (41 : Nat) c) x = (0 : Int) →
 ¬badArg (List.take (41 : Nat) xs) (List.take (41 : Nat) c) x = (0 : Int) ∧
 ((!(properP (List.take (41 : Nat) xs)
 (List.drop (↑(0 : Nat) : Int).toNat (List.take (min (↑c.length : Int) (41 : Int)).toNat c))).fst) =
 true →
 (!(properP (List.take (41 : Nat) xs)
 (List.drop (↑(0 : Nat) : Int).toNat (List.take (min (↑c.length : Int) (41 : Int)).toNat c))).fst) =
 true ∧
 (!(properP (List.take (41 : Nat) xs)
 (List.drop (↑(0 : Nat) : Int).toNat (List.take (min (↑c.length : Int) (41 : Int)).toNat c))).fst) =
 true ∧
 ((properP (List.take (41 : Nat) xs)
 (List.drop (↑(0 : Nat) : Int).toNat (List.take (min (↑c.length : Int) (41 : Int)).toNat c))).snd =
 badArg (List.take (41 : Nat) xs) (List.take (41 : Nat) c) x →
 (properP (List.take (41 : Nat) xs)
 (List.drop (↑(0 : Nat) : Int).toNat (List.take (min (↑c.length : Int) (41 : Int)).toNat c))).snd =
 badArg (List.take (41 : Nat) xs) (List.take (41 : Nat) c) x ∧
 (properP (List.take (41 : Nat) xs)
 (List.drop (↑(0 : Nat) : Int).toNat (List.take (min (↑c.length : Int) (41 : Int)).toNat c))).snd =
 badArg (List.take (41 : Nat) xs) (List.take (41 : Nat) c) x ∧
 (properP (List.take (41 : Nat) xs)
 (List.drop (↑(0 : Nat) : Int).toNat (List.take (min (↑c.length : Int) (41 : Int)).toNat c))).snd =
 badArg (List.take (41 : Nat) xs) (List.take (41 : Nat) c) x ∧
 True ∧ true = true) ∧
 (¬(properP (List.take (41 : Nat) xs)
 (List.drop (↑(0 : Nat) : Int).toNat (List.take (min (↑c.length : Int) (41 : Int)).toNat c))).snd =
 badArg (List.take (41 : Nat) xs) (List.take (41 : Nat) c) x →
 ¬(properP (List.take (41 : Nat) xs)
 (List.drop (↑(0 : Nat) : Int).toNat (List.take (min (↑c.length : Int) (41 : Int)).toNat c))).snd =
 badArg (List.take (41 : Nat) xs) (List.take (41 : Nat) c) x ∧
 ¬(properP (List.take (41 : Nat) xs)
 (List.drop (↑(0 : Nat) : Int).toNat (List.take (min (↑c.length : Int) (41 : Int)).toNat c))).snd =
 badArg (List.take (41 : Nat) xs) (List.take (41 : Nat) c) x ∧
 ¬(properP (List.take (41 : Nat) xs)
 (List.drop (↑(0 : Nat) : Int).toNat (List.take (min (↑c.length : Int) (41 : Int)).toNat c))).snd =
 badArg (List.take (41 : Nat) xs) (List.take (41 : Nat) c) x ∧
 false = true)) ∧
 ((!(properP (List.take (41 : Nat) xs)
 (List.drop (↑(0 : Nat) : Int).toNat (List.take (min (↑c.length : Int) (41 : Int)).toNat c))).fst) =
 false →
 (!(properP (List.take (41 : Nat) xs)
 (List.drop (↑(0 : Nat) : Int).toNat (List.take (min (↑c.length : Int) (41 : Int)).toNat c))).fst) =
 false ∧
 (!(properP (List.take (41 : Nat) xs)
 (List.drop (↑(0 : Nat) : Int).toNat (List.take (min (↑c.length : Int) (41 : Int)).toNat c))).fst) =
 false ∧
 false = true)) ∧
 (¬¬badArg (List.take (41 : Nat) xs) (List.take (41 : Nat) c) x = (0 : Int) →
 ¬¬badArg (List.take (41 : Nat) xs) (List.take (41 : Nat) c) x = (0 : Int) ∧
 ((List.take (41 : Nat) xs).length ≤ (1000 : Nat) ∧
 (List.drop (↑(0 : Nat) : Int).toNat (List.take (min (↑c.length : Int) (41 : Int)).toNat c)).length =
 (List.take (41 : Nat) xs).length) ∧
 ((properP (List.take (41 : Nat) xs)
 (List.drop (↑(0 : Nat) : Int).toNat (List.take (min (↑c.length : Int) (41 : Int)).toNat c))).fst =
 properR (List.take (41 : Nat) xs)
 (List.drop (↑(0 : Nat) : Int).toNat (List.take (min (↑c.length : Int) (41 : Int)).toNat c)) →
 (properP (List.take (41 : Nat) xs)
 (List.drop (↑(0 : Nat) : Int).toNat (List.take (min (↑c.length : Int) (41 : Int)).toNat c))).fst =
 properR (List.take (41 : Nat) xs)
 (List.drop (↑(0 : Nat) : Int).toNat (List.take (min (↑c.length : Int) (41 : Int)).toNat c)) ∧
 (properP (List.take (41 : Nat) xs)
 (List.drop (↑(0 : Nat) : Int).toNat (List.take (min (↑c.length : Int) (41 : Int)).toNat c))).fst =
 properR (List.take (41 : Nat) xs)
 (List.drop (↑(0 : Nat) : Int).toNat (List.take (min (↑c.length : Int) (41 : Int)).toNat c)) ∧
 ((properP (List.take (41 : Nat) xs)
 (List.drop (↑(0 : Nat) : Int).toNat (List.take (min (↑c.length : Int) (41 : Int)).toNat c))).snd =
 (0 : Int) →
 (properP (List.take (41 : Nat) xs)
 (List.drop (↑(0 : Nat) : Int).toNat (List.take (min (↑c.length : Int) (41 : Int)).toNat c))).snd =
 (0 : Int) ∧
 (properP (List.take (41 : Nat) xs)
 (List.drop (↑(0 : Nat) : Int).toNat (List.take (min (↑c.length : Int) (41 : Int)).toNat c))).snd =
 (0 : Int) ∧
 (properP (List.take (41 : Nat) xs)
 (List.drop (↑(0 : Nat) : Int).toNat (List.take (min (↑c.length : Int) (41 : Int)).toNat c))).snd =
 (0 : Int) ∧
 True ∧ true = true) ∧
 (¬(properP (List.take (41 : Nat) xs)
 (List.drop (↑(0 : Nat) : Int).toNat (List.take (min (↑c.length : Int) (41 : Int)).toNat c))).snd =
 (0 : Int) →
 ¬(properP (List.take (41 : Nat) xs)
 (List.drop (↑(0 : Nat) : Int).toNat (List.take (min (↑c.length : Int) (41 : Int)).toNat c))).snd =
 (0 : Int) ∧
 ¬(properP (List.take (41 : Nat) xs)
 (List.drop (↑(0 : Nat) : Int).toNat (List.take (min (↑c.length : Int) (41 : Int)).toNat c))).snd =
 (0 : Int) ∧
 ¬(properP (List.take (41 : Nat) xs)
 (List.drop (↑(0 : Nat) : Int).toNat (List.take (min (↑c.length : Int) (41 : Int)).toNat c))).snd =
 (0 : Int) ∧
 false = true)) ∧
 (¬(properP (List.take (41 : Nat) xs)
 (List.drop (↑(0 : Nat) : Int).toNat (List.take (min (↑c.length : Int) (41 : Int)).toNat c))).fst =
 properR (List.take (41 : Nat) xs)
 (List.drop (↑(0 : Nat) : Int).toNat (List.take (min (↑c.length : Int) (41 : Int)).toNat c)) →
 ¬(properP (List.take (41 : Nat) xs)
 (List.drop (↑(0 : Nat) : Int).toNat (List.take (min (↑c.length : Int) (41 : Int)).toNat c))).fst =
 properR (List.take (41 : Nat) xs)
 (List.drop (↑(0 : Nat) : Int).toNat (List.take (min (↑c.length : Int) (41 : Int)).toNat c)) ∧
 ¬(properP (List.take (41 : Nat) xs)
 (List.drop (↑(0 : Nat) : Int).toNat (List.take (min (↑c.length : Int) (41 : Int)).toNat c))).fst =
 properR (List.take (41 : Nat) xs)
 (List.drop (↑(0 : Nat) : Int).toNat (List.take (min (↑c.length : Int) (41 : Int)).toNat c)) ∧
 false = true))))) ∧
 (¬checkF (List.take (41 : Nat) xs) = (0 : Int) →
 ¬checkF (List.take (41 : Nat) xs) = (0 : Int) ∧
 ¬checkF (List.take (41 : Nat) xs) = (0 : Int) ∧
 (∃ (x0 : Nat),
 (x0 ≤ (List.take (41 : Nat) c).length ∧ True) ∧
 (List.drop (↑(0 : Nat) : Int).toNat (List.take (min (↑c.length : Int) (41 : Int)).toNat c) =
 List.drop (↑(0 : Nat) : Int).toNat (List.take (min (↑c.length : Int) (41 : Int)).toNat c) ∧
 True) ∧
 (0 : Int) = (↑x0 : Int) ∧
 checkF (List.take (41 : Nat) xs) = badArg (List.take (41 : Nat) xs) (List.take (41 : Nat) c) x0 ∧
 (properP (List.take (41 : Nat) xs) (List.drop (↑(0 : Nat) : Int).toNat (List.take (min (↑c.length : Int) (41 : Int)).toNat c))).snd =
 (properP (List.take (41 : Nat) xs) (List.drop (↑(0 : Nat) : Int).toNat (List.take (min (↑c.length : Int) (41 : Int)).toNat c))).snd ∧
 (properP (List.take (41 : Nat) xs) (List.drop (↑(0 : Nat) : Int).toNat (List.take (min (↑c.length : Int) (41 : Int)).toNat c))).fst =
 (properP (List.take (41 : Nat) xs) (List.drop (↑(0 : Nat) : Int).toNat (List.take (min (↑c.length : Int) (41 : Int)).toNat c))).fst ∧
 True ∧ List.take (41 : Nat) xs = List.take (41 : Nat) xs ∧ True) ∧
 ∀ (x : Nat),
 x ≤ (List.take (41 : Nat) c).length ∧ True →
 ((↑x : Int) < (↑(List.drop (↑(0 : Nat) : Int).toNat (List.take (min (↑c.length : Int) (41 : Int)).toNat c)).length : Int) →
 (↑x : Int) < (↑(List.drop (↑(0 : Nat) : Int).toNat (List.take (min (↑c.length : Int) (41 : Int)).toNat c)).length : Int) ∧
 (↑x : Int) < (↑(List.drop (↑(0 : Nat) : Int).toNat (List.take (min (↑c.length : Int) (41 : Int)).toNat c)).length : Int) ∧
 (badArg (List.take (41 : Nat) xs) (List.take (41 : Nat) c) x = (0 : Int) →
 badArg (List.take (41 : Nat) xs) (List.take (41 : Nat) c) x = (0 : Int) ∧
 badArg (List.take (41 : Nat) xs) (List.take (41 : Nat) c) x = (0 : Int) ∧
 ((0 : Int) ≤ (↑x : Int) ∧
 (↑x : Int) < (↑(List.drop (↑(0 : Nat) : Int).toNat (List.take (min (↑c.length : Int) (41 : Int)).toNat c)).length : Int)) ∧
 ((List.drop (↑(0 : Nat) : Int).toNat (List.take (min (↑c.length : Int) (41 : Int)).toNat c)).getD (↑x : Int).toNat (0 : Int) <
 (0 : Int) →
 (List.drop (↑(0 : Nat) : Int).toNat (List.take (min (↑c.length : Int) (41 : Int)).toNat c)).getD (↑x : Int).toNat (0 : Int) <
 (0 : Int) ∧
 Fits IntKind.i64 ((↑x : Int) + (1 : Int)) ∧
 ∃ (x' : Nat),
 (x' ≤ (List.take (41 : Nat) c).length ∧ True) ∧
 (List.take (41 : Nat) c).length - x' < (List.take (41 : Nat) c).length - x ∧
 (List.drop (↑(0 : Nat) : Int).toNat (List.take (min (↑c.length : Int) (41 : Int)).toNat c) =
 List.drop (↑(0 : Nat) : Int).toNat (List.take (min (↑c.length : Int) (41 : Int)).toNat c) ∧
 True) ∧
 (↑x : Int) + (1 : Int) = (↑x' : Int) ∧
 (1 : Int) = badArg (List.take (41 : Nat) xs) (List.take (41 : Nat) c) x' ∧
 (properP (List.take (41 : Nat) xs)
 (List.drop (↑(0 : Nat) : Int).toNat (List.take (min (↑c.length : Int) (41 : Int)).toNat c))).snd =
 (properP (List.take (41 : Nat) xs)
 (List.drop (↑(0 : Nat) : Int).toNat (List.take (min (↑c.length : Int) (41 : Int)).toNat c))).snd ∧
 (properP (List.take (41 : Nat) xs)
 (List.drop (↑(0 : Nat) : Int).toNat (List.take (min (↑c.length : Int) (41 : Int)).toNat c))).fst =
 (properP (List.take (41 : Nat) xs)
 (List.drop (↑(0 : Nat) : Int).toNat (List.take (min (↑c.length : Int) (41 : Int)).toNat c))).fst ∧
 True ∧ List.take (41 : Nat) xs = List.take (41 : Nat) xs ∧ True) ∧
 (¬(List.drop (↑(0 : Nat) : Int).toNat (List.take (min (↑c.length : Int) (41 : Int)).toNat c)).getD (↑x : Int).toNat (0 : Int) <
 (0 : Int) →
 ¬(List.drop (↑(0 : Nat) : Int).toNat (List.take (min (↑c.length : Int) (41 : Int)).toNat c)).getD (↑x : Int).toNat (0 : Int) <
 (0 : Int) ∧
 Fits IntKind.i64 ((↑x : Int) + (1 : Int)) ∧
 ∃ (x' : Nat),
 (x' ≤ (List.take (41 : Nat) c).length ∧ True) ∧
 (List.take (41 : Nat) c).length - x' < (List.take (41 : Nat) c).length - x ∧
 (List.drop (↑(0 : Nat) : Int).toNat (List.take (min (↑c.length : Int) (41 : Int)).toNat c) =
 List.drop (↑(0 : Nat) : Int).toNat (List.take (min (↑c.length : Int) (41 : Int)).toNat c) ∧
 True) ∧
 (↑x : Int) + (1 : Int) = (↑x' : Int) ∧
 badArg (List.take (41 : Nat) xs) (List.take (41 : Nat) c) x =
 badArg (List.take (41 : Nat) xs) (List.take (41 : Nat) c) x' ∧
 (properP (List.take (41 : Nat) xs)
 (List.drop (↑(0 : Nat) : Int).toNat (List.take (min (↑c.length : Int) (41 : Int)).toNat c))).snd =
 (properP (List.take (41 : Nat) xs)
 (List.drop (↑(0 : Nat) : Int).toNat (List.take (min (↑c.length : Int) (41 : Int)).toNat c))).snd ∧
 (properP (List.take (41 : Nat) xs)
 (List.drop (↑(0 : Nat) : Int).toNat (List.take (min (↑c.length : Int) (41 : Int)).toNat c))).fst =
 (properP (List.take (41 : Nat) xs)
 (List.drop (↑(0 : Nat) : Int).toNat (List.take (min (↑c.length : Int) (41 : Int)).toNat c))).fst ∧
 True ∧ List.take (41 : Nat) xs = List.take (41 : Nat) xs ∧ True)) ∧
 (¬badArg (List.take (41 : Nat) xs) (List.take (41 : Nat) c) x = (0 : Int) →
 ¬badArg (List.take (41 : Nat) xs) (List.take (41 : Nat) c) x = (0 : Int) ∧
 ¬badArg (List.take (41 : Nat) xs) (List.take (41 : Nat) c) x = (0 : Int) ∧
 (¬badArg (List.take (41 : Nat) xs) (List.take (41 : Nat) c) x = (0 : Int) →
 ¬badArg (List.take (41 : Nat) xs) (List.take (41 : Nat) c) x = (0 : Int) ∧
 ((!(properP (List.take (41 : Nat) xs)
 (List.drop (↑(0 : Nat) : Int).toNat (List.take (min (↑c.length : Int) (41 : Int)).toNat c))).fst) =
 true →
 (!(properP (List.take (41 : Nat) xs)
 (List.drop (↑(0 : Nat) : Int).toNat (List.take (min (↑c.length : Int) (41 : Int)).toNat c))).fst) =
 true ∧
 (!(properP (List.take (41 : Nat) xs)
 (List.drop (↑(0 : Nat) : Int).toNat (List.take (min (↑c.length : Int) (41 : Int)).toNat c))).fst) =
 true ∧
 ((properP (List.take (41 : Nat) xs)
 (List.drop (↑(0 : Nat) : Int).toNat (List.take (min (↑c.length : Int) (41 : Int)).toNat c))).snd =
 badArg (List.take (41 : Nat) xs) (List.take (41 : Nat) c) x →
 (properP (List.take (41 : Nat) xs)
 (List.drop (↑(0 : Nat) : Int).toNat (List.take (min (↑c.length : Int) (41 : Int)).toNat c))).snd =
 badArg (List.take (41 : Nat) xs) (List.take (41 : Nat) c) x ∧
 (properP (List.take (41 : Nat) xs)
 (List.drop (↑(0 : Nat) : Int).toNat (List.take (min (↑c.length : Int) (41 : Int)).toNat c))).snd =
 badArg (List.take (41 : Nat) xs) (List.take (41 : Nat) c) x ∧
 (properP (List.take (41 : Nat) xs)
 (List.drop (↑(0 : Nat) : Int).toNat (List.take (min (↑c.length : Int) (41 : Int)).toNat c))).snd =
 badArg (List.take (41 : Nat) xs) (List.take (41 : Nat) c) x ∧
 True ∧ true = true) ∧
 (¬(properP (List.take (41 : Nat) xs)
 (List.drop (↑(0 : Nat) : Int).toNat (List.take (min (↑c.length : Int) (41 : Int)).toNat c))).snd =
 badArg (List.take (41 : Nat) xs) (List.take (41 : Nat) c) x →
 ¬(properP (List.take (41 : Nat) xs)
 (List.drop (↑(0 : Nat) : Int).toNat (List.take (min (↑c.length : Int) (41 : Int)).toNat c))).snd =
 badArg (List.take (41 : Nat) xs) (List.take (41 : Nat) c) x ∧
 ¬(properP (List.take (41 : Nat) xs)
 (List.drop (↑(0 : Nat) : Int).toNat (List.take (min (↑c.length : Int) (41 : Int)).toNat c))).snd =
 badArg (List.take (41 : Nat) xs) (List.take (41 : Nat) c) x ∧
 ¬(properP (List.take (41 : Nat) xs)
 (List.drop (↑(0 : Nat) : Int).toNat (List.take (min (↑c.length : Int) (41 : Int)).toNat c))).snd =
 badArg (List.take (41 : Nat) xs) (List.take (41 : Nat) c) x ∧
 false = true)) ∧
 ((!(properP (List.take (41 : Nat) xs)
 (List.drop (↑(0 : Nat) : Int).toNat (List.take (min (↑c.length : Int) (41 : Int)).toNat c))).fst) =
 false →
 (!(properP (List.take (41 : Nat) xs)
 (List.drop (↑(0 : Nat) : Int).toNat (List.take (min (↑c.length : Int) (41 : Int)).toNat c))).fst) =
 false ∧
 (!(properP (List.take (41 : Nat) xs)
 (List.drop (↑(0 : Nat) : Int).toNat (List.take (min (↑c.length : Int) (41 : Int)).toNat c))).fst) =
 false ∧
 false = true)) ∧
 (¬¬badArg (List.take (41 : Nat) xs) (List.take (41 : Nat) c) x = (0 : Int) →
 ¬¬badArg (List.take (41 : Nat) xs) (List.take (41 : Nat) c) x = (0 : Int) ∧
 ((List.take (41 : Nat) xs).length ≤ (1000 : Nat) ∧
 (List.drop (↑(0 : Nat) : Int).toNat (List.take (min (↑c.length : Int) (41 : Int)).toNat c)).length =
 (List.take (41 : Nat) xs).length) ∧
 ((properP (List.take (41 : Nat) xs)
 (List.drop (↑(0 : Nat) : Int).toNat (List.take (min (↑c.length : Int) (41 : Int)).toNat c))).fst =
 properR (List.take (41 : Nat) xs)
 (List.drop (↑(0 : Nat) : Int).toNat (List.take (min (↑c.length : Int) (41 : Int)).toNat c)) →
 (properP (List.take (41 : Nat) xs)
 (List.drop (↑(0 : Nat) : Int).toNat (List.take (min (↑c.length : Int) (41 : Int)).toNat c))).fst =
 properR (List.take (41 : Nat) xs)
 (List.drop (↑(0 : Nat) : Int).toNat (List.take (min (↑c.length : Int) (41 : Int)).toNat c)) ∧
 (properP (List.take (41 : Nat) xs)
 (List.drop (↑(0 : Nat) : Int).toNat (List.take (min (↑c.length : Int) (41 : Int)).toNat c))).fst =
 properR (List.take (41 : Nat) xs)
 (List.drop (↑(0 : Nat) : Int).toNat (List.take (min (↑c.length : Int) (41 : Int)).toNat c)) ∧
 ((properP (List.take (41 : Nat) xs)
 (List.drop (↑(0 : Nat) : Int).toNat (List.take (min (↑c.length : Int) (41 : Int)).toNat c))).snd =
 (0 : Int) →
 (properP (List.take (41 : Nat) xs)
 (List.drop (↑(0 : Nat) : Int).toNat (List.take (min (↑c.length : Int) (41 : Int)).toNat c))).snd =
 (0 : Int) ∧
 (properP (List.take (41 : Nat) xs)
 (List.drop (↑(0 : Nat) : Int).toNat (List.take (min (↑c.length : Int) (41 : Int)).toNat c))).snd =
 (0 : Int) ∧
 (properP (List.take (41 : Nat) xs)
 (List.drop (↑(0 : Nat) : Int).toNat (List.take (min (↑c.length : Int) (41 : Int)).toNat c))).snd =
 (0 : Int) ∧
 True ∧ true = true) ∧
 (¬(properP (List.take (41 : Nat) xs)
 (List.drop (↑(0 : Nat) : Int).toNat (List.take (min (↑c.length : Int) (41 : Int)).toNat c))).snd =
 (0 : Int) →
 ¬(properP (List.take (41 : Nat) xs)
 (List.drop (↑(0 : Nat) : Int).toNat (List.take (min (↑c.length : Int) (41 : Int)).toNat c))).snd =
 (0 : Int) ∧
 ¬(properP (List.take (41 : Nat) xs)
 (List.drop (↑(0 : Nat) : Int).toNat (List.take (min (↑c.length : Int) (41 : Int)).toNat c))).snd =
 (0 : Int) ∧
 ¬(properP (List.take (41 : Nat) xs)
 (List.drop (↑(0 : Nat) : Int).toNat (List.take (min (↑c.length : Int) (41 : Int)).toNat c))).snd =
 (0 : Int) ∧
 false = true)) ∧
 (¬(properP (List.take (41 : Nat) xs)
 (List.drop (↑(0 : Nat) : Int).toNat (List.take (min (↑c.length : Int) (41 : Int)).toNat c))).fst =
 properR (List.take (41 : Nat) xs)
 (List.drop (↑(0 : Nat) : Int).toNat (List.take (min (↑c.length : Int) (41 : Int)).toNat c)) →
 ¬(properP (List.take (41 : Nat) xs)
 (List.drop (↑(0 : Nat) : Int).toNat (List.take (min (↑c.length : Int) (41 : Int)).toNat c))).fst =
 properR (List.take (41 : Nat) xs)
 (List.drop (↑(0 : Nat) : Int).toNat (List.take (min (↑c.length : Int) (41 : Int)).toNat c)) ∧
 ¬(properP (List.take (41 : Nat) xs)
 (List.drop (↑(0 : Nat) : Int).toNat (List.take (min (↑c.length : Int) (41 : Int)).toNat c))).fst =
 properR (List.take (41 : Nat) xs)
 (List.drop (↑(0 : Nat) : Int).toNat (List.take (min (↑c.length : Int) (41 : Int)).toNat c)) ∧
 false = true)))) ∧
 (¬(↑x : Int) < (↑(List.drop (↑(0 : Nat) : Int).toNat (List.take (min (↑c.length : Int) (41 : Int)).toNat c)).length : Int) →
 ¬(↑x : Int) < (↑(List.drop (↑(0 : Nat) : Int).toNat (List.take (min (↑c.length : Int) (41 : Int)).toNat c)).length : Int) ∧
 ¬(↑x : Int) < (↑(List.drop (↑(0 : Nat) : Int).toNat (List.take (min (↑c.length : Int) (41 : Int)).toNat c)).length : Int) ∧
 (¬badArg (List.take (41 : Nat) xs) (List.take (41 : Nat) c) x = (0 : Int) →
 ¬badArg (List.take (41 : Nat) xs) (List.take (41 : Nat) c) x = (0 : Int) ∧
 ((!(properP (List.take (41 : Nat) xs) (List.drop (↑(0 : Nat) : Int).toNat (List.take (min (↑c.length : Int) (41 : Int)).toNat c))).fst) =
 true →
 (!(properP (List.take (41 : Nat) xs)
 (List.drop (↑(0 : Nat) : Int).toNat (List.take (min (↑c.length : Int) (41 : Int)).toNat c))).fst) =
 true ∧
 (!(properP (List.take (41 : Nat) xs)
 (List.drop (↑(0 : Nat) : Int).toNat (List.take (min (↑c.length : Int) (41 : Int)).toNat c))).fst) =
 true ∧
 ((properP (List.take (41 : Nat) xs)
 (List.drop (↑(0 : Nat) : Int).toNat (List.take (min (↑c.length : Int) (41 : Int)).toNat c))).snd =
 badArg (List.take (41 : Nat) xs) (List.take (41 : Nat) c) x →
 (properP (List.take (41 : Nat) xs)
 (List.drop (↑(0 : Nat) : Int).toNat (List.take (min (↑c.length : Int) (41 : Int)).toNat c))).snd =
 badArg (List.take (41 : Nat) xs) (List.take (41 : Nat) c) x ∧
 (properP (List.take (41 : Nat) xs)
 (List.drop (↑(0 : Nat) : Int).toNat (List.take (min (↑c.length : Int) (41 : Int)).toNat c))).snd =
 badArg (List.take (41 : Nat) xs) (List.take (41 : Nat) c) x ∧
 (properP (List.take (41 : Nat) xs)
 (List.drop (↑(0 : Nat) : Int).toNat (List.take (min (↑c.length : Int) (41 : Int)).toNat c))).snd =
 badArg (List.take (41 : Nat) xs) (List.take (41 : Nat) c) x ∧
 True ∧ true = true) ∧
 (¬(properP (List.take (41 : Nat) xs)
 (List.drop (↑(0 : Nat) : Int).toNat (List.take (min (↑c.length : Int) (41 : Int)).toNat c))).snd =
 badArg (List.take (41 : Nat) xs) (List.take (41 : Nat) c) x →
 ¬(properP (List.take (41 : Nat) xs)
 (List.drop (↑(0 : Nat) : Int).toNat (List.take (min (↑c.length : Int) (41 : Int)).toNat c))).snd =
 badArg (List.take (41 : Nat) xs) (List.take (41 : Nat) c) x ∧
 ¬(properP (List.take (41 : Nat) xs)
 (List.drop (↑(0 : Nat) : Int).toNat (List.take (min (↑c.length : Int) (41 : Int)).toNat c))).snd =
 badArg (List.take (41 : Nat) xs) (List.take (41 : Nat) c) x ∧
 ¬(properP (List.take (41 : Nat) xs)
 (List.drop (↑(0 : Nat) : Int).toNat (List.take (min (↑c.length : Int) (41 : Int)).toNat c))).snd =
 badArg (List.take (41 : Nat) xs) (List.take (41 : Nat) c) x ∧
 false = true)) ∧
 ((!(properP (List.take (41 : Nat) xs)
 (List.drop (↑(0 : Nat) : Int).toNat (List.take (min (↑c.length : Int) (41 : Int)).toNat c))).fst) =
 false →
 (!(properP (List.take (41 : Nat) xs)
 (List.drop (↑(0 : Nat) : Int).toNat (List.take (min (↑c.length : Int) (41 : Int)).toNat c))).fst) =
 false ∧
 (!(properP (List.take (41 : Nat) xs)
 (List.drop (↑(0 : Nat) : Int).toNat (List.take (min (↑c.length : Int) (41 : Int)).toNat c))).fst) =
 false ∧
 false = true)) ∧
 (¬¬badArg (List.take (41 : Nat) xs) (List.take (41 : Nat) c) x = (0 : Int) →
 ¬¬badArg (List.take (41 : Nat) xs) (List.take (41 : Nat) c) x = (0 : Int) ∧
 ((List.take (41 : Nat) xs).length ≤ (1000 : Nat) ∧
 (List.drop (↑(0 : Nat) : Int).toNat (List.take (min (↑c.length : Int) (41 : Int)).toNat c)).length =
 (List.take (41 : Nat) xs).length) ∧
 ((properP (List.take (41 : Nat) xs) (List.drop (↑(0 : Nat) : Int).toNat (List.take (min (↑c.length : Int) (41 : Int)).toNat c))).fst =
 properR (List.take (41 : Nat) xs) (List.drop (↑(0 : Nat) : Int).toNat (List.take (min (↑c.length : Int) (41 : Int)).toNat c)) →
 (properP (List.take (41 : Nat) xs)
 (List.drop (↑(0 : Nat) : Int).toNat (List.take (min (↑c.length : Int) (41 : Int)).toNat c))).fst =
 properR (List.take (41 : Nat) xs) (List.drop (↑(0 : Nat) : Int).toNat (List.take (min (↑c.length : Int) (41 : Int)).toNat c)) ∧
 (properP (List.take (41 : Nat) xs)
 (List.drop (↑(0 : Nat) : Int).toNat (List.take (min (↑c.length : Int) (41 : Int)).toNat c))).fst =
 properR (List.take (41 : Nat) xs)
 (List.drop (↑(0 : Nat) : Int).toNat (List.take (min (↑c.length : Int) (41 : Int)).toNat c)) ∧
 ((properP (List.take (41 : Nat) xs)
 (List.drop (↑(0 : Nat) : Int).toNat (List.take (min (↑c.length : Int) (41 : Int)).toNat c))).snd =
 (0 : Int) →
 (properP (List.take (41 : Nat) xs)
 (List.drop (↑(0 : Nat) : Int).toNat (List.take (min (↑c.length : Int) (41 : Int)).toNat c))).snd =
 (0 : Int) ∧
 (properP (List.take (41 : Nat) xs)
 (List.drop (↑(0 : Nat) : Int).toNat (List.take (min (↑c.length : Int) (41 : Int)).toNat c))).snd =
 (0 : Int) ∧
 (properP (List.take (41 : Nat) xs)
 (List.drop (↑(0 : Nat) : Int).toNat (List.take (min (↑c.length : Int) (41 : Int)).toNat c))).snd =
 (0 : Int) ∧
 True ∧ true = true) ∧
 (¬(properP (List.take (41 : Nat) xs)
 (List.drop (↑(0 : Nat) : Int).toNat (List.take (min (↑c.length : Int) (41 : Int)).toNat c))).snd =
 (0 : Int) →
 ¬(properP (List.take (41 : Nat) xs)
 (List.drop (↑(0 : Nat) : Int).toNat (List.take (min (↑c.length : Int) (41 : Int)).toNat c))).snd =
 (0 : Int) ∧
 ¬(properP (List.take (41 : Nat) xs)
 (List.drop (↑(0 : Nat) : Int).toNat (List.take (min (↑c.length : Int) (41 : Int)).toNat c))).snd =
 (0 : Int) ∧
 ¬(properP (List.take (41 : Nat) xs)
 (List.drop (↑(0 : Nat) : Int).toNat (List.take (min (↑c.length : Int) (41 : Int)).toNat c))).snd =
 (0 : Int) ∧
 false = true)) ∧
 (¬(properP (List.take (41 : Nat) xs)
 (List.drop (↑(0 : Nat) : Int).toNat (List.take (min (↑c.length : Int) (41 : Int)).toNat c))).fst =
 properR (List.take (41 : Nat) xs) (List.drop (↑(0 : Nat) : Int).toNat (List.take (min (↑c.length : Int) (41 : Int)).toNat c)) →
 ¬(properP (List.take (41 : Nat) xs)
 (List.drop (↑(0 : Nat) : Int).toNat (List.take (min (↑c.length : Int) (41 : Int)).toNat c))).fst =
 properR (List.take (41 : Nat) xs)
 (List.drop (↑(0 : Nat) : Int).toNat (List.take (min (↑c.length : Int) (41 : Int)).toNat c)) ∧
 ¬(properP (List.take (41 : Nat) xs)
 (List.drop (↑(0 : Nat) : Int).toNat (List.take (min (↑c.length : Int) (41 : Int)).toNat c))).fst =
 properR (List.take (41 : Nat) xs)
 (List.drop (↑(0 : Nat) : Int).toNat (List.take (min (↑c.length : Int) (41 : Int)).toNat c)) ∧
 false = true))))) := by
 kernel_rfl

end Go.SX.Sh
