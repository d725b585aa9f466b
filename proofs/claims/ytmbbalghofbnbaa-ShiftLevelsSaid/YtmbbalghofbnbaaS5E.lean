/- Printed by VC.lean: what the executor asks. -/
import Derived.Test.YtmbbalghofbnbaaS5
namespace Go.SX.Sh
open Go Go.Proofs
theorem g21_eq  : g21  = (
 ((0 : Int), (1000 : Int)) = ((0 : Int), (1000 : Int))) := by
 kernel_rfl

theorem g3_eq (xs : List Sp) : g3 xs = (
 True ∧
 (List.take (41 : Nat) xs).length ≤ (1000 : Nat) ∧
 (List.take (41 : Nat) xs).length ≤ (1000 : Nat) ∧
 (List.take (41 : Nat) xs).length ≤ (1000 : Nat) ∧
 (¬checkF (List.take (41 : Nat) xs) = (0 : Int) →
 ¬checkF (List.take (41 : Nat) xs) = (0 : Int) ∧
 ((depthP (List.take (41 : Nat) xs)).fst = (0 : Int) →
 (depthP (List.take (41 : Nat) xs)).fst = (0 : Int) ∧
 (depthP (List.take (41 : Nat) xs)).fst = (0 : Int) ∧
 ((depthP (List.take (41 : Nat) xs)).snd = checkF (List.take (41 : Nat) xs) →
 (depthP (List.take (41 : Nat) xs)).snd = checkF (List.take (41 : Nat) xs) ∧
 (depthP (List.take (41 : Nat) xs)).snd = checkF (List.take (41 : Nat) xs) ∧
 (depthP (List.take (41 : Nat) xs)).snd = checkF (List.take (41 : Nat) xs) ∧
 ((deepestP (List.take (41 : Nat) xs)).fst = (0 : Int) →
 (deepestP (List.take (41 : Nat) xs)).fst = (0 : Int) ∧
 (deepestP (List.take (41 : Nat) xs)).fst = (0 : Int) ∧
 (deepestP (List.take (41 : Nat) xs)).fst = (0 : Int) ∧
 ((↑(deepestP (List.take (41 : Nat) xs)).snd.fst.length : Int) = (0 : Int) →
 (↑(deepestP (List.take (41 : Nat) xs)).snd.fst.length : Int) = (0 : Int) ∧
 (↑(deepestP (List.take (41 : Nat) xs)).snd.fst.length : Int) = (0 : Int) ∧
 (↑(deepestP (List.take (41 : Nat) xs)).snd.fst.length : Int) = (0 : Int) ∧
 ((deepestP (List.take (41 : Nat) xs)).snd.snd = checkF (List.take (41 : Nat) xs) →
 (deepestP (List.take (41 : Nat) xs)).snd.snd = checkF (List.take (41 : Nat) xs) ∧
 (deepestP (List.take (41 : Nat) xs)).snd.snd = checkF (List.take (41 : Nat) xs) ∧
 (deepestP (List.take (41 : Nat) xs)).snd.snd = checkF (List.take (41 : Nat) xs) ∧ True ∧ true = true) ∧
 (¬(deepestP (List.take (41 : Nat) xs)).snd.snd = checkF (List.take (41 : Nat) xs) →
 ¬(deepestP (List.take (41 : Nat) xs)).snd.snd = checkF (List.take (41 : Nat) xs) ∧
 ¬(deepestP (List.take (41 : Nat) xs)).snd.snd = checkF (List.take (41 : Nat) xs) ∧
 ¬(deepestP (List.take (41 : Nat) xs)).snd.snd = checkF (List.take (41 : Nat) xs) ∧ false = true)) ∧
 (¬(↑(deepestP (List.take (41 : Nat) xs)).snd.fst.length : Int) = (0 : Int) →
 ¬(↑(deepestP (List.take (41 : Nat) xs)).snd.fst.length : Int) = (0 : Int) ∧
 ¬(↑(deepestP (List.take (41 : Nat) xs)).snd.fst.length : Int) = (0 : Int) ∧
 ¬(↑(deepestP (List.take (41 : Nat) xs)).snd.fst.length : Int) = (0 : Int) ∧ false = true)) ∧
 (¬(deepestP (List.take (41 : Nat) xs)).fst = (0 : Int) →
 ¬(deepestP (List.take (41 : Nat) xs)).fst = (0 : Int) ∧
 ¬(deepestP (List.take (41 : Nat) xs)).fst = (0 : Int) ∧ ¬(deepestP (List.take (41 : Nat) xs)).fst = (0 : Int) ∧ false = true)) ∧
 (¬(depthP (List.take (41 : Nat) xs)).snd = checkF (List.take (41 : Nat) xs) →
 ¬(depthP (List.take (41 : Nat) xs)).snd = checkF (List.take (41 : Nat) xs) ∧
 ¬(depthP (List.take (41 : Nat) xs)).snd = checkF (List.take (41 : Nat) xs) ∧
 ¬(depthP (List.take (41 : Nat) xs)).snd = checkF (List.take (41 : Nat) xs) ∧ false = true)) ∧
 (¬(depthP (List.take (41 : Nat) xs)).fst = (0 : Int) →
 ¬(depthP (List.take (41 : Nat) xs)).fst = (0 : Int) ∧ ¬(depthP (List.take (41 : Nat) xs)).fst = (0 : Int) ∧ false = true)) ∧
 (¬¬checkF (List.take (41 : Nat) xs) = (0 : Int) →
 ¬¬checkF (List.take (41 : Nat) xs) = (0 : Int) ∧
 True ∧
 ((List.take (41 : Nat) xs).length ≤ (1000 : Nat) ∧ (0 : Int) ≤ (0 : Int) ∧ (0 : Int) ≤ (1000 : Int) ∧ (1000 : Int) ≤ (1000000 : Int)) ∧
 (¬(depthP (List.take (41 : Nat) xs)).fst = (depthR (List.take (41 : Nat) xs) ((0 : Int), (1000 : Int))).fst →
 ¬(depthP (List.take (41 : Nat) xs)).fst = (depthR (List.take (41 : Nat) xs) ((0 : Int), (1000 : Int))).fst ∧
 ¬(depthP (List.take (41 : Nat) xs)).fst = (depthR (List.take (41 : Nat) xs) ((0 : Int), (1000 : Int))).fst ∧ false = true) ∧
 (¬¬(depthP (List.take (41 : Nat) xs)).fst = (depthR (List.take (41 : Nat) xs) ((0 : Int), (1000 : Int))).fst →
 ¬¬(depthP (List.take (41 : Nat) xs)).fst = (depthR (List.take (41 : Nat) xs) ((0 : Int), (1000 : Int))).fst ∧
 ¬¬(depthP (List.take (41 : Nat) xs)).fst = (depthR (List.take (41 : Nat) xs) ((0 : Int), (1000 : Int))).fst ∧
 (¬(depthP (List.take (41 : Nat) xs)).snd = (0 : Int) →
 ¬(depthP (List.take (41 : Nat) xs)).snd = (0 : Int) ∧
 ¬(depthP (List.take (41 : Nat) xs)).snd = (0 : Int) ∧ ¬(depthP (List.take (41 : Nat) xs)).snd = (0 : Int) ∧ false = true) ∧
 (¬¬(depthP (List.take (41 : Nat) xs)).snd = (0 : Int) →
 ¬¬(depthP (List.take (41 : Nat) xs)).snd = (0 : Int) ∧
 ¬¬(depthP (List.take (41 : Nat) xs)).snd = (0 : Int) ∧
 ¬¬(depthP (List.take (41 : Nat) xs)).snd = (0 : Int) ∧
 True ∧
 ((!true) = true → (!true) = true ∧ (!true) = true ∧ false = true) ∧
 ((!true) = false →
 (!true) = false ∧
 (!true) = false ∧
 ((↑(List.take (41 : Nat) xs).length : Int) = (0 : Int) →
 (↑(List.take (41 : Nat) xs).length : Int) = (0 : Int) ∧
 ((deepestP (List.take (41 : Nat) xs)).fst = (0 : Int) →
 (deepestP (List.take (41 : Nat) xs)).fst = (0 : Int) ∧
 (deepestP (List.take (41 : Nat) xs)).fst = (0 : Int) ∧
 ((↑(deepestP (List.take (41 : Nat) xs)).snd.fst.length : Int) = (0 : Int) →
 (↑(deepestP (List.take (41 : Nat) xs)).snd.fst.length : Int) = (0 : Int) ∧
 (↑(deepestP (List.take (41 : Nat) xs)).snd.fst.length : Int) = (0 : Int) ∧
 (↑(deepestP (List.take (41 : Nat) xs)).snd.fst.length : Int) = (0 : Int) ∧
 decide ((deepestP (List.take (41 : Nat) xs)).snd.snd = (5 : Int)) = true) ∧
 (¬(↑(deepestP (List.take (41 : Nat) xs)).snd.fst.length : Int) = (0 : Int) →
 ¬(↑(deepestP (List.take (41 : Nat) xs)).snd.fst.length : Int) = (0 : Int) ∧
 ¬(↑(deepestP (List.take (41 : Nat) xs)).snd.fst.length : Int) = (0 : Int) ∧
 ¬(↑(deepestP (List.take (41 : Nat) xs)).snd.fst.length : Int) = (0 : Int) ∧ false = true)) ∧
 (¬(deepestP (List.take (41 : Nat) xs)).fst = (0 : Int) →
 ¬(deepestP (List.take (41 : Nat) xs)).fst = (0 : Int) ∧
 ¬(deepestP (List.take (41 : Nat) xs)).fst = (0 : Int) ∧ false = true)) ∧
 (¬(↑(List.take (41 : Nat) xs).length : Int) = (0 : Int) →
 ¬(↑(List.take (41 : Nat) xs).length : Int) = (0 : Int) ∧
 (∃ (x0 : Nat),
 x0 ≤ (List.take (41 : Nat) xs).length ∧
 ([] = atF (List.take x0 (List.take (41 : Nat) xs)) (depthR (List.take (41 : Nat) xs) ((0 : Int), (1000 : Int))).snd ∧
 True) ∧
 (0 : Int) = (↑x0 : Int) ∧
 True ∧
 (depthR (List.take (41 : Nat) xs) ((0 : Int), (1000 : Int))).snd =
 (depthR (List.take (41 : Nat) xs) ((0 : Int), (1000 : Int))).snd ∧
 (deepestP (List.take (41 : Nat) xs)).snd.snd = (deepestP (List.take (41 : Nat) xs)).snd.snd ∧
 (deepestP (List.take (41 : Nat) xs)).snd.fst = (deepestP (List.take (41 : Nat) xs)).snd.fst ∧
 (deepestP (List.take (41 : Nat) xs)).fst = (deepestP (List.take (41 : Nat) xs)).fst ∧
 List.take (41 : Nat) xs = List.take (41 : Nat) xs ∧ True) ∧
 ∀ (x : Nat),
 x ≤ (List.take (41 : Nat) xs).length →
 ((↑x : Int) < (↑(List.take (41 : Nat) xs).length : Int) →
 (↑x : Int) < (↑(List.take (41 : Nat) xs).length : Int) ∧
 ((0 : Int) ≤ (↑x : Int) ∧ (↑x : Int) < (↑(List.take (41 : Nat) xs).length : Int)) ∧
 (((List.take (41 : Nat) xs).getD (↑x : Int).toNat ((0 : Int), (0 : Int))).fst ≤
 (depthR (List.take (41 : Nat) xs) ((0 : Int), (1000 : Int))).snd →
 ((List.take (41 : Nat) xs).getD (↑x : Int).toNat ((0 : Int), (0 : Int))).fst ≤
 (depthR (List.take (41 : Nat) xs) ((0 : Int), (1000 : Int))).snd ∧
 ((List.take (41 : Nat) xs).getD (↑x : Int).toNat ((0 : Int), (0 : Int))).fst ≤
 (depthR (List.take (41 : Nat) xs) ((0 : Int), (1000 : Int))).snd ∧
 ((0 : Int) ≤ (↑x : Int) ∧ (↑x : Int) < (↑(List.take (41 : Nat) xs).length : Int)) ∧
 ((depthR (List.take (41 : Nat) xs) ((0 : Int), (1000 : Int))).snd <
 ((List.take (41 : Nat) xs).getD (↑x : Int).toNat ((0 : Int), (0 : Int))).snd →
 (depthR (List.take (41 : Nat) xs) ((0 : Int), (1000 : Int))).snd <
 ((List.take (41 : Nat) xs).getD (↑x : Int).toNat ((0 : Int), (0 : Int))).snd ∧
 (depthR (List.take (41 : Nat) xs) ((0 : Int), (1000 : Int))).snd <
 ((List.take (41 : Nat) xs).getD (↑x : Int).toNat ((0 : Int), (0 : Int))).snd ∧
 Small
 ((atF (List.take x (List.take (41 : Nat) xs))
 (depthR (List.take (41 : Nat) xs) ((0 : Int), (1000 : Int))).snd).length +
 ((0 : Nat) + (1 : Nat))) ∧
 Fits IntKind.i64 ((↑x : Int) + (1 : Int)) ∧
 ∃ (x' : Nat),
 x' ≤ (List.take (41 : Nat) xs).length ∧
 (List.take (41 : Nat) xs).length - x' < (List.take (41 : Nat) xs).length - x ∧
 (atF (List.take x (List.take (41 : Nat) xs))
 (depthR (List.take (41 : Nat) xs) ((0 : Int), (1000 : Int))).snd ++
 [(↑x : Int)] =
 atF (List.take x' (List.take (41 : Nat) xs))
 (depthR (List.take (41 : Nat) xs) ((0 : Int), (1000 : Int))).snd ∧
 True) ∧
 (↑x : Int) + (1 : Int) = (↑x' : Int) ∧
 True ∧
 (depthR (List.take (41 : Nat) xs) ((0 : Int), (1000 : Int))).snd =
 (depthR (List.take (41 : Nat) xs) ((0 : Int), (1000 : Int))).snd ∧
 (deepestP (List.take (41 : Nat) xs)).snd.snd =
 (deepestP (List.take (41 : Nat) xs)).snd.snd ∧
 (deepestP (List.take (41 : Nat) xs)).snd.fst =
 (deepestP (List.take (41 : Nat) xs)).snd.fst ∧
 (deepestP (List.take (41 : Nat) xs)).fst =
 (deepestP (List.take (41 : Nat) xs)).fst ∧
 List.take (41 : Nat) xs = List.take (41 : Nat) xs ∧ True) ∧
 (¬(depthR (List.take (41 : Nat) xs) ((0 : Int), (1000 : Int))).snd <
 ((List.take (41 : Nat) xs).getD (↑x : Int).toNat ((0 : Int), (0 : Int))).snd →
 ¬(depthR (List.take (41 : Nat) xs) ((0 : Int), (1000 : Int))).snd <
 ((List.take (41 : Nat) xs).getD (↑x : Int).toNat ((0 : Int), (0 : Int))).snd ∧
 ¬(depthR (List.take (41 : Nat) xs) ((0 : Int), (1000 : Int))).snd <
 ((List.take (41 : Nat) xs).getD (↑x : Int).toNat ((0 : Int), (0 : Int))).snd ∧
 Fits IntKind.i64 ((↑x : Int) + (1 : Int)) ∧
 ∃ (x' : Nat),
 x' ≤ (List.take (41 : Nat) xs).length ∧
 (List.take (41 : Nat) xs).length - x' < (List.take (41 : Nat) xs).length - x ∧
 (atF (List.take x (List.take (41 : Nat) xs))
 (depthR (List.take (41 : Nat) xs) ((0 : Int), (1000 : Int))).snd =
 atF (List.take x' (List.take (41 : Nat) xs))
 (depthR (List.take (41 : Nat) xs) ((0 : Int), (1000 : Int))).snd ∧
 True) ∧
 (↑x : Int) + (1 : Int) = (↑x' : Int) ∧
 True ∧
 (depthR (List.take (41 : Nat) xs) ((0 : Int), (1000 : Int))).snd =
 (depthR (List.take (41 : Nat) xs) ((0 : Int), (1000 : Int))).snd ∧
 (deepestP (List.take (41 : Nat) xs)).snd.snd =
 (deepestP (List.take (41 : Nat) xs)).snd.snd ∧
 (deepestP (List.take (41 : Nat) xs)).snd.fst =
 (deepestP (List.take (41 : Nat) xs)).snd.fst ∧
 (deepestP (List.take (41 : Nat) xs)).fst =
 (deepestP (List.take (41 : Nat) xs)).fst ∧
 List.take (41 : Nat) xs = List.take (41 : Nat) xs ∧ True)) ∧
 (¬((List.take (41 : Nat) xs).getD (↑x : Int).toNat ((0 : Int), (0 : Int))).fst ≤
 (depthR (List.take (41 : Nat) xs) ((0 : Int), (1000 : Int))).snd →
 ¬((List.take (41 : Nat) xs).getD (↑x : Int).toNat ((0 : Int), (0 : Int))).fst ≤
 (depthR (List.take (41 : Nat) xs) ((0 : Int), (1000 : Int))).snd ∧
 ¬((List.take (41 : Nat) xs).getD (↑x : Int).toNat ((0 : Int), (0 : Int))).fst ≤
 (depthR (List.take (41 : Nat) xs) ((0 : Int), (1000 : Int))).snd ∧
 Fits IntKind.i64 ((↑x : Int) + (1 : Int)) ∧
 ∃ (x' : Nat),
 x' ≤ (List.take (41 : Nat) xs).length ∧
 (List.take (41 : Nat) xs).length - x' < (List.take (41 : Nat) xs).length - x ∧
 (atF (List.take x (List.take (41 : Nat) xs))
 (depthR (List.take (41 : Nat) xs) ((0 : Int), (1000 : Int))).snd =
 atF (List.take x' (List.take (41 : Nat) xs))
 (depthR (List.take (41 : Nat) xs) ((0 : Int), (1000 : Int))).snd ∧
 True) ∧
 (↑x : Int) + (1 : Int) = (↑x' : Int) ∧
 True ∧
 (depthR (List.take (41 : Nat) xs) ((0 : Int), (1000 : Int))).snd =
 (depthR (List.take (41 : Nat) xs) ((0 : Int), (1000 : Int))).snd ∧
 (deepestP (List.take (41 : Nat) xs)).snd.snd =
 (deepestP (List.take (41 : Nat) xs)).snd.snd ∧
 (deepestP (List.take (41 : Nat) xs)).snd.fst =
 (deepestP (List.take (41 : Nat) xs)).snd.fst ∧
 (deepestP (List.take (41 : Nat) xs)).fst = (deepestP (List.take (41 : Nat) xs)).fst ∧
 List.take (41 : Nat) xs = List.take (41 : Nat) xs ∧ True)) ∧
 (¬(↑x : Int) < (↑(List.take (41 : Nat) xs).length : Int) →
 ¬(↑x : Int) < (↑(List.take (41 : Nat) xs).length : Int) ∧
 ((deepestP (List.take (41 : Nat) xs)).fst = (depthR (List.take (41 : Nat) xs) ((0 : Int), (1000 : Int))).snd →
 (deepestP (List.take (41 : Nat) xs)).fst = (depthR (List.take (41 : Nat) xs) ((0 : Int), (1000 : Int))).snd ∧
 (deepestP (List.take (41 : Nat) xs)).fst = (depthR (List.take (41 : Nat) xs) ((0 : Int), (1000 : Int))).snd ∧
 ((deepestP (List.take (41 : Nat) xs)).snd.fst.length ≤ (1000 : Nat) ∧
 (atF (List.take x (List.take (41 : Nat) xs))
 (depthR (List.take (41 : Nat) xs) ((0 : Int), (1000 : Int))).snd).length ≤
 (1000 : Nat)) ∧
 (decide
 ((deepestP (List.take (41 : Nat) xs)).snd.fst =
 atF (List.take x (List.take (41 : Nat) xs))
 (depthR (List.take (41 : Nat) xs) ((0 : Int), (1000 : Int))).snd) =
 true →
 decide
 ((deepestP (List.take (41 : Nat) xs)).snd.fst =
 atF (List.take x (List.take (41 : Nat) xs))
 (depthR (List.take (41 : Nat) xs) ((0 : Int), (1000 : Int))).snd) =
 true ∧
 decide
 ((deepestP (List.take (41 : Nat) xs)).snd.fst =
 atF (List.take x (List.take (41 : Nat) xs))
 (depthR (List.take (41 : Nat) xs) ((0 : Int), (1000 : Int))).snd) =
 true ∧
 decide
 ((deepestP (List.take (41 : Nat) xs)).snd.fst =
 atF (List.take x (List.take (41 : Nat) xs))
 (depthR (List.take (41 : Nat) xs) ((0 : Int), (1000 : Int))).snd) =
 true ∧
 decide ((deepestP (List.take (41 : Nat) xs)).snd.snd = (0 : Int)) = true) ∧
 (decide
 ((deepestP (List.take (41 : Nat) xs)).snd.fst =
 atF (List.take x (List.take (41 : Nat) xs))
 (depthR (List.take (41 : Nat) xs) ((0 : Int), (1000 : Int))).snd) =
 false →
 decide
 ((deepestP (List.take (41 : Nat) xs)).snd.fst =
 atF (List.take x (List.take (41 : Nat) xs))
 (depthR (List.take (41 : Nat) xs) ((0 : Int), (1000 : Int))).snd) =
 false ∧
 decide
 ((deepestP (List.take (41 : Nat) xs)).snd.fst =
 atF (List.take x (List.take (41 : Nat) xs))
 (depthR (List.take (41 : Nat) xs) ((0 : Int), (1000 : Int))).snd) =
 false ∧
 decide
 ((deepestP (List.take (41 : Nat) xs)).snd.fst =
 atF (List.take x (List.take (41 : Nat) xs))
 (depthR (List.take (41 : Nat) xs) ((0 : Int), (1000 : Int))).snd) =
 false ∧
 false = true)) ∧
 (¬(deepestP (List.take (41 : Nat) xs)).fst = (depthR (List.take (41 : Nat) xs) ((0 : Int), (1000 : Int))).snd →
 ¬(deepestP (List.take (41 : Nat) xs)).fst = (depthR (List.take (41 : Nat) xs) ((0 : Int), (1000 : Int))).snd ∧
 ¬(deepestP (List.take (41 : Nat) xs)).fst = (depthR (List.take (41 : Nat) xs) ((0 : Int), (1000 : Int))).snd ∧
 false = true)))))))) := by
 kernel_rfl

theorem g5_eq (xs : List Sp) : g5 xs = (
 True ∧
 (List.take (41 : Nat) xs).length ≤ (1000 : Nat) ∧
 (List.take (41 : Nat) xs).length ≤ (1000 : Nat) ∧
 (List.take (41 : Nat) xs).length ≤ (1000 : Nat) ∧
 (¬checkF (List.take (41 : Nat) xs) = (0 : Int) →
 ¬checkF (List.take (41 : Nat) xs) = (0 : Int) ∧
 Fits IntKind.i64 ((↑(guardF (List.take (41 : Nat) xs) levelsF).fst.length : Int) + (↑(guardF (List.take (41 : Nat) xs) trotF).fst.length : Int)) ∧
 ((↑(guardF (List.take (41 : Nat) xs) levelsF).fst.length : Int) + (↑(guardF (List.take (41 : Nat) xs) trotF).fst.length : Int) = (0 : Int) →
 (↑(guardF (List.take (41 : Nat) xs) levelsF).fst.length : Int) + (↑(guardF (List.take (41 : Nat) xs) trotF).fst.length : Int) = (0 : Int) ∧
 (↑(guardF (List.take (41 : Nat) xs) levelsF).fst.length : Int) + (↑(guardF (List.take (41 : Nat) xs) trotF).fst.length : Int) = (0 : Int) ∧
 ((guardF (List.take (41 : Nat) xs) levelsF).snd = checkF (List.take (41 : Nat) xs) →
 (guardF (List.take (41 : Nat) xs) levelsF).snd = checkF (List.take (41 : Nat) xs) ∧
 (guardF (List.take (41 : Nat) xs) levelsF).snd = checkF (List.take (41 : Nat) xs) ∧
 (guardF (List.take (41 : Nat) xs) levelsF).snd = checkF (List.take (41 : Nat) xs) ∧
 ((guardF (List.take (41 : Nat) xs) trotF).snd = checkF (List.take (41 : Nat) xs) →
 (guardF (List.take (41 : Nat) xs) trotF).snd = checkF (List.take (41 : Nat) xs) ∧
 (guardF (List.take (41 : Nat) xs) trotF).snd = checkF (List.take (41 : Nat) xs) ∧
 (guardF (List.take (41 : Nat) xs) trotF).snd = checkF (List.take (41 : Nat) xs) ∧ True ∧ true = true) ∧
 (¬(guardF (List.take (41 : Nat) xs) trotF).snd = checkF (List.take (41 : Nat) xs) →
 ¬(guardF (List.take (41 : Nat) xs) trotF).snd = checkF (List.take (41 : Nat) xs) ∧
 ¬(guardF (List.take (41 : Nat) xs) trotF).snd = checkF (List.take (41 : Nat) xs) ∧
 ¬(guardF (List.take (41 : Nat) xs) trotF).snd = checkF (List.take (41 : Nat) xs) ∧ false = true)) ∧
 (¬(guardF (List.take (41 : Nat) xs) levelsF).snd = checkF (List.take (41 : Nat) xs) →
 ¬(guardF (List.take (41 : Nat) xs) levelsF).snd = checkF (List.take (41 : Nat) xs) ∧
 ¬(guardF (List.take (41 : Nat) xs) levelsF).snd = checkF (List.take (41 : Nat) xs) ∧
 ¬(guardF (List.take (41 : Nat) xs) levelsF).snd = checkF (List.take (41 : Nat) xs) ∧ false = true)) ∧
 (¬(↑(guardF (List.take (41 : Nat) xs) levelsF).fst.length : Int) + (↑(guardF (List.take (41 : Nat) xs) trotF).fst.length : Int) = (0 : Int) →
 ¬(↑(guardF (List.take (41 : Nat) xs) levelsF).fst.length : Int) + (↑(guardF (List.take (41 : Nat) xs) trotF).fst.length : Int) = (0 : Int) ∧
 ¬(↑(guardF (List.take (41 : Nat) xs) levelsF).fst.length : Int) + (↑(guardF (List.take (41 : Nat) xs) trotF).fst.length : Int) = (0 : Int) ∧ false = true)) ∧
 (¬¬checkF (List.take (41 : Nat) xs) = (0 : Int) →
 ¬¬checkF (List.take (41 : Nat) xs) = (0 : Int) ∧
 checkF (List.take (41 : Nat) xs) = (0 : Int) ∧
 ((guardF (List.take (41 : Nat) xs) levelsF).fst.length ≤ (1000 : Nat) ∧ (levelsR (List.take (41 : Nat) xs)).length ≤ (1000 : Nat)) ∧
 (decide ((guardF (List.take (41 : Nat) xs) levelsF).fst = levelsR (List.take (41 : Nat) xs)) = true →
 decide ((guardF (List.take (41 : Nat) xs) levelsF).fst = levelsR (List.take (41 : Nat) xs)) = true ∧
 decide ((guardF (List.take (41 : Nat) xs) levelsF).fst = levelsR (List.take (41 : Nat) xs)) = true ∧
 ((guardF (List.take (41 : Nat) xs) levelsF).snd = (0 : Int) →
 (guardF (List.take (41 : Nat) xs) levelsF).snd = (0 : Int) ∧
 (guardF (List.take (41 : Nat) xs) levelsF).snd = (0 : Int) ∧
 (guardF (List.take (41 : Nat) xs) levelsF).snd = (0 : Int) ∧
 checkF (List.take (41 : Nat) xs) = (0 : Int) ∧
 ((guardF (List.take (41 : Nat) xs) trotF).fst.length ≤ (1000 : Nat) ∧ (trotR (List.take (41 : Nat) xs)).length ≤ (1000 : Nat)) ∧
 (decide ((guardF (List.take (41 : Nat) xs) trotF).fst = trotR (List.take (41 : Nat) xs)) = true →
 decide ((guardF (List.take (41 : Nat) xs) trotF).fst = trotR (List.take (41 : Nat) xs)) = true ∧
 decide ((guardF (List.take (41 : Nat) xs) trotF).fst = trotR (List.take (41 : Nat) xs)) = true ∧
 decide ((guardF (List.take (41 : Nat) xs) trotF).fst = trotR (List.take (41 : Nat) xs)) = true ∧
 ((guardF (List.take (41 : Nat) xs) trotF).snd = (0 : Int) →
 (guardF (List.take (41 : Nat) xs) trotF).snd = (0 : Int) ∧
 (guardF (List.take (41 : Nat) xs) trotF).snd = (0 : Int) ∧
 (guardF (List.take (41 : Nat) xs) trotF).snd = (0 : Int) ∧ True ∧ true = true) ∧
 (¬(guardF (List.take (41 : Nat) xs) trotF).snd = (0 : Int) →
 ¬(guardF (List.take (41 : Nat) xs) trotF).snd = (0 : Int) ∧
 ¬(guardF (List.take (41 : Nat) xs) trotF).snd = (0 : Int) ∧
 ¬(guardF (List.take (41 : Nat) xs) trotF).snd = (0 : Int) ∧ false = true)) ∧
 (decide ((guardF (List.take (41 : Nat) xs) trotF).fst = trotR (List.take (41 : Nat) xs)) = false →
 decide ((guardF (List.take (41 : Nat) xs) trotF).fst = trotR (List.take (41 : Nat) xs)) = false ∧
 decide ((guardF (List.take (41 : Nat) xs) trotF).fst = trotR (List.take (41 : Nat) xs)) = false ∧
 decide ((guardF (List.take (41 : Nat) xs) trotF).fst = trotR (List.take (41 : Nat) xs)) = false ∧ false = true)) ∧
 (¬(guardF (List.take (41 : Nat) xs) levelsF).snd = (0 : Int) →
 ¬(guardF (List.take (41 : Nat) xs) levelsF).snd = (0 : Int) ∧
 ¬(guardF (List.take (41 : Nat) xs) levelsF).snd = (0 : Int) ∧ ¬(guardF (List.take (41 : Nat) xs) levelsF).snd = (0 : Int) ∧ false = true)) ∧
 (decide ((guardF (List.take (41 : Nat) xs) levelsF).fst = levelsR (List.take (41 : Nat) xs)) = false →
 decide ((guardF (List.take (41 : Nat) xs) levelsF).fst = levelsR (List.take (41 : Nat) xs)) = false ∧
 decide ((guardF (List.take (41 : Nat) xs) levelsF).fst = levelsR (List.take (41 : Nat) xs)) = false ∧ false = true))) := by
 kernel_rfl

end Go.SX.Sh
