/- Printed by VC.lean: what the executor asks. -/
import Derived.Test.YtmbbalghofbnbaaS6
namespace Go.SX.Sh
open Go Go.Proofs
theorem g29_eq (x : List (Int × Int)) (p : Int) : g29 x p = (
 (∃ (x0 : Nat), x0 ≤ min x.length (40 : Nat) ∧ ([] = List.filterMap (mk1 p) (List.take x0 x) ∧ True) ∧ (0 : Int) = (↑x0 : Int) ∧ True ∧ x = x ∧ p = p ∧ True) ∧
 ∀ (x_1 : Nat),
 x_1 ≤ min x.length (40 : Nat) →
 ((↑x_1 : Int) < (↑x.length : Int) →
 (↑x_1 : Int) < (↑x.length : Int) ∧
 (↑x_1 : Int) < (↑x.length : Int) ∧
 ((↑x_1 : Int) < (40 : Int) →
 (↑x_1 : Int) < (40 : Int) ∧
 (↑x_1 : Int) < (40 : Int) ∧
 ((0 : Int) ≤ (↑x_1 : Int) ∧ (↑x_1 : Int) < (↑x.length : Int)) ∧
 Fits IntKind.i64 (x.getD (↑x_1 : Int).toNat ((0 : Int), (0 : Int))).fst ∧
 Fits IntKind.i64 (p + (1 : Int)) ∧
 ((0 : Int) ≤ (x.getD (↑x_1 : Int).toNat ((0 : Int), (0 : Int))).fst ∧ (0 : Int) < p + (1 : Int)) ∧
 ((0 : Int) ≤ (↑x_1 : Int) ∧ (↑x_1 : Int) < (↑x.length : Int)) ∧
 Fits IntKind.i64 (x.getD (↑x_1 : Int).toNat ((0 : Int), (0 : Int))).snd ∧
 Fits IntKind.i64 (p + (1 : Int)) ∧
 ((0 : Int) ≤ (x.getD (↑x_1 : Int).toNat ((0 : Int), (0 : Int))).snd ∧ (0 : Int) < p + (1 : Int)) ∧
 (¬(x.getD (↑x_1 : Int).toNat ((0 : Int), (0 : Int))).fst % (p + (1 : Int)) =
 (x.getD (↑x_1 : Int).toNat ((0 : Int), (0 : Int))).snd % (p + (1 : Int)) →
 ¬(x.getD (↑x_1 : Int).toNat ((0 : Int), (0 : Int))).fst % (p + (1 : Int)) =
 (x.getD (↑x_1 : Int).toNat ((0 : Int), (0 : Int))).snd % (p + (1 : Int)) ∧
 Small ((List.filterMap (mk1 p) (List.take x_1 x)).length + ((0 : Nat) + (1 : Nat))) ∧
 Fits IntKind.i64 ((↑x_1 : Int) + (1 : Int)) ∧
 ∃ (x' : Nat),
 x' ≤ min x.length (40 : Nat) ∧
 x.length - x' < x.length - x_1 ∧
 (List.filterMap (mk1 p) (List.take x_1 x) ++
 [(min ((x.getD (↑x_1 : Int).toNat ((0 : Int), (0 : Int))).fst % (p + (1 : Int)))
 ((x.getD (↑x_1 : Int).toNat ((0 : Int), (0 : Int))).snd % (p + (1 : Int))),
 max ((x.getD (↑x_1 : Int).toNat ((0 : Int), (0 : Int))).fst % (p + (1 : Int)))
 ((x.getD (↑x_1 : Int).toNat ((0 : Int), (0 : Int))).snd % (p + (1 : Int))))] =
 List.filterMap (mk1 p) (List.take x' x) ∧
 True) ∧
 (↑x_1 : Int) + (1 : Int) = (↑x' : Int) ∧ True ∧ x = x ∧ p = p ∧ True) ∧
 (¬¬(x.getD (↑x_1 : Int).toNat ((0 : Int), (0 : Int))).fst % (p + (1 : Int)) =
 (x.getD (↑x_1 : Int).toNat ((0 : Int), (0 : Int))).snd % (p + (1 : Int)) →
 ¬¬(x.getD (↑x_1 : Int).toNat ((0 : Int), (0 : Int))).fst % (p + (1 : Int)) =
 (x.getD (↑x_1 : Int).toNat ((0 : Int), (0 : Int))).snd % (p + (1 : Int)) ∧
 Fits IntKind.i64 ((↑x_1 : Int) + (1 : Int)) ∧
 ∃ (x' : Nat),
 x' ≤ min x.length (40 : Nat) ∧
 x.length - x' < x.length - x_1 ∧
 (List.filterMap (mk1 p) (List.take x_1 x) = List.filterMap (mk1 p) (List.take x' x) ∧ True) ∧
 (↑x_1 : Int) + (1 : Int) = (↑x' : Int) ∧ True ∧ x = x ∧ p = p ∧ True)) ∧
 (¬(↑x_1 : Int) < (40 : Int) → ¬(↑x_1 : Int) < (40 : Int) ∧ ¬(↑x_1 : Int) < (40 : Int) ∧ List.filterMap (mk1 p) (List.take x_1 x) = madeF x p)) ∧
 (¬(↑x_1 : Int) < (↑x.length : Int) → ¬(↑x_1 : Int) < (↑x.length : Int) ∧ ¬(↑x_1 : Int) < (↑x.length : Int) ∧ List.filterMap (mk1 p) (List.take x_1 x) = madeF x p)) := by
 kernel_rfl

theorem g32_eq (l : List Int) : g32 l = (
 (∃ (x0 : Nat), x0 ≤ l.length ∧ ([] = seenF (List.take x0 l) ∧ True) ∧ (0 : Int) = (↑x0 : Int) ∧ (0 : Int) = topF (List.take x0 l) ∧ True ∧ l = l ∧ True) ∧
 ∀ (x : Nat),
 x ≤ l.length →
 ((↑x : Int) < (↑l.length : Int) →
 (↑x : Int) < (↑l.length : Int) ∧
 ((0 : Int) ≤ (↑x : Int) ∧ (↑x : Int) < (↑l.length : Int)) ∧
 (seenF (List.take x l)).length ≤ (1000 : Nat) ∧
 ((!decide (l.getD (↑x : Int).toNat (0 : Int) ∈ seenF (List.take x l))) = true →
 (!decide (l.getD (↑x : Int).toNat (0 : Int) ∈ seenF (List.take x l))) = true ∧
 ((0 : Int) ≤ (↑x : Int) ∧ (↑x : Int) < (↑l.length : Int)) ∧
 Small ((seenF (List.take x l)).length + ((0 : Nat) + (1 : Nat))) ∧
 ((0 : Int) ≤ (↑x : Int) ∧ (↑x : Int) < (↑l.length : Int)) ∧
 Fits IntKind.i64 (l.getD (↑x : Int).toNat (0 : Int) + (1 : Int)) ∧
 Fits IntKind.i64 ((↑x : Int) + (1 : Int)) ∧
 ∃ (x' : Nat),
 x' ≤ l.length ∧
 l.length - x' < l.length - x ∧
 (seenF (List.take x l) ++ [l.getD (↑x : Int).toNat (0 : Int)] = seenF (List.take x' l) ∧ True) ∧
 (↑x : Int) + (1 : Int) = (↑x' : Int) ∧
 max (topF (List.take x l)) (l.getD (↑x : Int).toNat (0 : Int) + (1 : Int)) = topF (List.take x' l) ∧ True ∧ l = l ∧ True) ∧
 ((!decide (l.getD (↑x : Int).toNat (0 : Int) ∈ seenF (List.take x l))) = false →
 (!decide (l.getD (↑x : Int).toNat (0 : Int) ∈ seenF (List.take x l))) = false ∧
 ((0 : Int) ≤ (↑x : Int) ∧ (↑x : Int) < (↑l.length : Int)) ∧
 Fits IntKind.i64 (l.getD (↑x : Int).toNat (0 : Int) + (1 : Int)) ∧
 Fits IntKind.i64 ((↑x : Int) + (1 : Int)) ∧
 ∃ (x' : Nat),
 x' ≤ l.length ∧
 l.length - x' < l.length - x ∧
 (seenF (List.take x l) = seenF (List.take x' l) ∧ True) ∧
 (↑x : Int) + (1 : Int) = (↑x' : Int) ∧
 max (topF (List.take x l)) (l.getD (↑x : Int).toNat (0 : Int) + (1 : Int)) = topF (List.take x' l) ∧ True ∧ l = l ∧ True)) ∧
 (¬(↑x : Int) < (↑l.length : Int) → ¬(↑x : Int) < (↑l.length : Int) ∧ ((↑(seenF (List.take x l)).length : Int), topF (List.take x l)) = mostF l)) := by
 kernel_rfl

theorem g33_eq (x : List Sp) (y : List Sp) : g33 x y = (
 x.length ≤ (1000 : Nat) ∧
 x.length ≤ (1000 : Nat) ∧
 x.length ≤ (1000 : Nat) ∧
 y.length ≤ (1000 : Nat) ∧
 y.length ≤ (1000 : Nat) ∧
 y.length ≤ (1000 : Nat) ∧
 ((depthP x).snd = (0 : Int) →
 (depthP x).snd = (0 : Int) ∧
 (depthP x).snd = (0 : Int) ∧
 ((guardF x firstF).snd = (0 : Int) →
 (guardF x firstF).snd = (0 : Int) ∧
 (guardF x firstF).snd = (0 : Int) ∧
 (guardF x firstF).snd = (0 : Int) ∧
 ((guardF x trotF).snd = (0 : Int) →
 (guardF x trotF).snd = (0 : Int) ∧
 (guardF x trotF).snd = (0 : Int) ∧
 (guardF x trotF).snd = (0 : Int) ∧
 ((depthP y).snd = (0 : Int) →
 (depthP y).snd = (0 : Int) ∧
 (depthP y).snd = (0 : Int) ∧
 (depthP y).snd = (0 : Int) ∧
 ((guardF y firstF).snd = (0 : Int) →
 (guardF y firstF).snd = (0 : Int) ∧
 (guardF y firstF).snd = (0 : Int) ∧
 (guardF y firstF).snd = (0 : Int) ∧
 ((guardF y trotF).snd = (0 : Int) →
 (guardF y trotF).snd = (0 : Int) ∧
 (guardF y trotF).snd = (0 : Int) ∧
 (guardF y trotF).snd = (0 : Int) ∧
 ((depthP x).fst = (depthP y).fst →
 (depthP x).fst = (depthP y).fst ∧
 (depthP x).fst = (depthP y).fst ∧
 (depthP x).fst = (depthP y).fst ∧
 ((guardF x firstF).fst.length ≤ (1000 : Nat) ∧ (guardF y firstF).fst.length ≤ (1000 : Nat)) ∧
 (decide ((guardF x firstF).fst = (guardF y firstF).fst) = true →
 decide ((guardF x firstF).fst = (guardF y firstF).fst) = true ∧
 decide ((guardF x firstF).fst = (guardF y firstF).fst) = true ∧
 decide ((guardF x firstF).fst = (guardF y firstF).fst) = true ∧
 ((guardF x trotF).fst.length ≤ (1000 : Nat) ∧
 (guardF y trotF).fst.length ≤ (1000 : Nat)) ∧
 decide ((guardF x trotF).fst = (guardF y trotF).fst) =
 decide
 (((deepF x).snd.length = (deepF y).snd.length ∧ firstF x = firstF y) ∧
 trotF x = trotF y)) ∧
 (decide ((guardF x firstF).fst = (guardF y firstF).fst) = false →
 decide ((guardF x firstF).fst = (guardF y firstF).fst) = false ∧
 decide ((guardF x firstF).fst = (guardF y firstF).fst) = false ∧
 decide ((guardF x firstF).fst = (guardF y firstF).fst) = false ∧
 false =
 decide
 (((deepF x).snd.length = (deepF y).snd.length ∧ firstF x = firstF y) ∧
 trotF x = trotF y))) ∧
 (¬(depthP x).fst = (depthP y).fst →
 ¬(depthP x).fst = (depthP y).fst ∧
 ¬(depthP x).fst = (depthP y).fst ∧
 ¬(depthP x).fst = (depthP y).fst ∧
 false =
 decide
 (((deepF x).snd.length = (deepF y).snd.length ∧ firstF x = firstF y) ∧ trotF x = trotF y))) ∧
 (¬(guardF y trotF).snd = (0 : Int) →
 ¬(guardF y trotF).snd = (0 : Int) ∧
 ¬(guardF y trotF).snd = (0 : Int) ∧
 ¬(guardF y trotF).snd = (0 : Int) ∧
 false = decide (((deepF x).snd.length = (deepF y).snd.length ∧ firstF x = firstF y) ∧ trotF x = trotF y))) ∧
 (¬(guardF y firstF).snd = (0 : Int) →
 ¬(guardF y firstF).snd = (0 : Int) ∧
 ¬(guardF y firstF).snd = (0 : Int) ∧
 ¬(guardF y firstF).snd = (0 : Int) ∧
 false = decide (((deepF x).snd.length = (deepF y).snd.length ∧ firstF x = firstF y) ∧ trotF x = trotF y))) ∧
 (¬(depthP y).snd = (0 : Int) →
 ¬(depthP y).snd = (0 : Int) ∧
 ¬(depthP y).snd = (0 : Int) ∧
 ¬(depthP y).snd = (0 : Int) ∧
 false = decide (((deepF x).snd.length = (deepF y).snd.length ∧ firstF x = firstF y) ∧ trotF x = trotF y))) ∧
 (¬(guardF x trotF).snd = (0 : Int) →
 ¬(guardF x trotF).snd = (0 : Int) ∧
 ¬(guardF x trotF).snd = (0 : Int) ∧
 ¬(guardF x trotF).snd = (0 : Int) ∧
 false = decide (((deepF x).snd.length = (deepF y).snd.length ∧ firstF x = firstF y) ∧ trotF x = trotF y))) ∧
 (¬(guardF x firstF).snd = (0 : Int) →
 ¬(guardF x firstF).snd = (0 : Int) ∧
 ¬(guardF x firstF).snd = (0 : Int) ∧
 ¬(guardF x firstF).snd = (0 : Int) ∧ false = decide (((deepF x).snd.length = (deepF y).snd.length ∧ firstF x = firstF y) ∧ trotF x = trotF y))) ∧
 (¬(depthP x).snd = (0 : Int) →
 ¬(depthP x).snd = (0 : Int) ∧
 ¬(depthP x).snd = (0 : Int) ∧ false = decide (((deepF x).snd.length = (deepF y).snd.length ∧ firstF x = firstF y) ∧ trotF x = trotF y))) := by
 kernel_rfl

end Go.SX.Sh
