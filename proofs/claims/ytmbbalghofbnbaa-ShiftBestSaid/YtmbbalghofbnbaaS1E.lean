/- Printed by VC.lean: what the executor asks. -/
import Derived.Test.YtmbbalghofbnbaaS1
namespace Go.SX.Sh
open Go Go.Proofs
theorem g59_eq (a : Sp) (b : Sp) : g59 a b = (
 (min a.snd b.snd ≤ max a.fst b.fst → min a.snd b.snd ≤ max a.fst b.fst ∧ ((0 : Int), (0 : Int)) = common a b) ∧
 (¬min a.snd b.snd ≤ max a.fst b.fst → ¬min a.snd b.snd ≤ max a.fst b.fst ∧ (max a.fst b.fst, min a.snd b.snd) = common a b)) := by
 kernel_rfl

theorem g56_eq (a : Sp) : g56 a = (
 (a.fst < (0 : Int) → a.fst < (0 : Int) ∧ a.fst < (0 : Int) ∧ true = bad a) ∧
 (¬a.fst < (0 : Int) →
 ¬a.fst < (0 : Int) ∧
 ¬a.fst < (0 : Int) ∧
 (a.snd ≤ a.fst → a.snd ≤ a.fst ∧ a.snd ≤ a.fst ∧ a.snd ≤ a.fst ∧ true = bad a) ∧
 (¬a.snd ≤ a.fst → ¬a.snd ≤ a.fst ∧ ¬a.snd ≤ a.fst ∧ ¬a.snd ≤ a.fst ∧ decide ((1000 : Int) < a.snd) = bad a))) := by
 kernel_rfl

theorem g57_eq (xs : List Sp) (x : Int) : g57 xs x = (
 (∃ (x0 : Nat), x0 ≤ xs.length ∧ ([] = atF (List.take x0 xs) x ∧ True) ∧ (0 : Int) = (↑x0 : Int) ∧ True ∧ (↑xs.length : Int) = (↑xs.length : Int) ∧ xs = xs ∧ x = x ∧ True) ∧
 ∀ (x_1 : Nat),
 x_1 ≤ xs.length →
 ((↑x_1 : Int) < (↑xs.length : Int) →
 (↑x_1 : Int) < (↑xs.length : Int) ∧
 ((0 : Int) ≤ (↑x_1 : Int) ∧ (↑x_1 : Int) < (↑xs.length : Int)) ∧
 ((xs.getD (↑x_1 : Int).toNat ((0 : Int), (0 : Int))).fst ≤ x →
 (xs.getD (↑x_1 : Int).toNat ((0 : Int), (0 : Int))).fst ≤ x ∧
 (xs.getD (↑x_1 : Int).toNat ((0 : Int), (0 : Int))).fst ≤ x ∧
 (x < (xs.getD (↑x_1 : Int).toNat ((0 : Int), (0 : Int))).snd →
 x < (xs.getD (↑x_1 : Int).toNat ((0 : Int), (0 : Int))).snd ∧
 x < (xs.getD (↑x_1 : Int).toNat ((0 : Int), (0 : Int))).snd ∧
 Small ((atF (List.take x_1 xs) x).length + ((0 : Nat) + (1 : Nat))) ∧
 Fits IntKind.i64 ((↑x_1 : Int) + (1 : Int)) ∧
 ∃ (x' : Nat),
 x' ≤ xs.length ∧
 xs.length - x' < xs.length - x_1 ∧
 (atF (List.take x_1 xs) x ++ [(↑x_1 : Int)] = atF (List.take x' xs) x ∧ True) ∧
 (↑x_1 : Int) + (1 : Int) = (↑x' : Int) ∧ True ∧ (↑xs.length : Int) = (↑xs.length : Int) ∧ xs = xs ∧ x = x ∧ True) ∧
 (¬x < (xs.getD (↑x_1 : Int).toNat ((0 : Int), (0 : Int))).snd →
 ¬x < (xs.getD (↑x_1 : Int).toNat ((0 : Int), (0 : Int))).snd ∧
 ¬x < (xs.getD (↑x_1 : Int).toNat ((0 : Int), (0 : Int))).snd ∧
 Fits IntKind.i64 ((↑x_1 : Int) + (1 : Int)) ∧
 ∃ (x' : Nat),
 x' ≤ xs.length ∧
 xs.length - x' < xs.length - x_1 ∧
 (atF (List.take x_1 xs) x = atF (List.take x' xs) x ∧ True) ∧
 (↑x_1 : Int) + (1 : Int) = (↑x' : Int) ∧ True ∧ (↑xs.length : Int) = (↑xs.length : Int) ∧ xs = xs ∧ x = x ∧ True)) ∧
 (¬(xs.getD (↑x_1 : Int).toNat ((0 : Int), (0 : Int))).fst ≤ x →
 ¬(xs.getD (↑x_1 : Int).toNat ((0 : Int), (0 : Int))).fst ≤ x ∧
 ¬(xs.getD (↑x_1 : Int).toNat ((0 : Int), (0 : Int))).fst ≤ x ∧
 Fits IntKind.i64 ((↑x_1 : Int) + (1 : Int)) ∧
 ∃ (x' : Nat),
 x' ≤ xs.length ∧
 xs.length - x' < xs.length - x_1 ∧
 (atF (List.take x_1 xs) x = atF (List.take x' xs) x ∧ True) ∧
 (↑x_1 : Int) + (1 : Int) = (↑x' : Int) ∧ True ∧ (↑xs.length : Int) = (↑xs.length : Int) ∧ xs = xs ∧ x = x ∧ True)) ∧
 (¬(↑x_1 : Int) < (↑xs.length : Int) → ¬(↑x_1 : Int) < (↑xs.length : Int) ∧ atF (List.take x_1 xs) x = atF xs x)) := by
 kernel_rfl

theorem g43_eq (a : Sp) (b : Sp) : g43 a b = (
 True ∧ (decide ¬((common (a.fst, a.snd) (b.fst, b.snd)).fst = (0 : Int) ∧ (common (a.fst, a.snd) (b.fst, b.snd)).snd = (0 : Int))) = ovl a b) := by
 kernel_rfl

theorem g38_eq (xs : List Sp) : g38 xs = (
 ((40 : Int) < (↑xs.length : Int) → (40 : Int) < (↑xs.length : Int) ∧ (40 : Int) < (↑xs.length : Int) ∧ (3 : Int) = checkF xs) ∧
 (¬(40 : Int) < (↑xs.length : Int) →
 ¬(40 : Int) < (↑xs.length : Int) ∧
 ¬(40 : Int) < (↑xs.length : Int) ∧
 (∃ (x0 : Nat),
 (x0 ≤ xs.length ∧ (List.take x0 xs).any bad = false) ∧ True ∧ (0 : Int) = (↑x0 : Int) ∧ (↑xs.length : Int) = (↑xs.length : Int) ∧ xs = xs ∧ xs = xs ∧ True ∧ True) ∧
 ∀ (x : Nat),
 x ≤ xs.length ∧ (List.take x xs).any bad = false →
 ((↑x : Int) < (↑xs.length : Int) →
 (↑x : Int) < (↑xs.length : Int) ∧
 ((0 : Int) ≤ (↑x : Int) ∧ (↑x : Int) < (↑xs.length : Int)) ∧
 True ∧
 (bad ((xs.getD (↑x : Int).toNat ((0 : Int), (0 : Int))).fst, (xs.getD (↑x : Int).toNat ((0 : Int), (0 : Int))).snd) = true →
 bad ((xs.getD (↑x : Int).toNat ((0 : Int), (0 : Int))).fst, (xs.getD (↑x : Int).toNat ((0 : Int), (0 : Int))).snd) = true ∧
 ((0 : Int) ≤ (↑x : Int) → (0 : Int) ≤ (↑x : Int) ∧ (0 : Int) ≤ (↑x : Int) ∧ (2 : Int) = checkF xs) ∧
 (¬(0 : Int) ≤ (↑x : Int) → ¬(0 : Int) ≤ (↑x : Int) ∧ ¬(0 : Int) ≤ (↑x : Int) ∧ (0 : Int) = checkF xs)) ∧
 (bad ((xs.getD (↑x : Int).toNat ((0 : Int), (0 : Int))).fst, (xs.getD (↑x : Int).toNat ((0 : Int), (0 : Int))).snd) = false →
 bad ((xs.getD (↑x : Int).toNat ((0 : Int), (0 : Int))).fst, (xs.getD (↑x : Int).toNat ((0 : Int), (0 : Int))).snd) = false ∧
 Fits IntKind.i64 ((↑x : Int) + (1 : Int)) ∧
 ∃ (x' : Nat),
 (x' ≤ xs.length ∧ (List.take x' xs).any bad = false) ∧
 xs.length - x' < xs.length - x ∧
 True ∧ (↑x : Int) + (1 : Int) = (↑x' : Int) ∧ (↑xs.length : Int) = (↑xs.length : Int) ∧ xs = xs ∧ xs = xs ∧ True ∧ True)) ∧
 (¬(↑x : Int) < (↑xs.length : Int) →
 ¬(↑x : Int) < (↑xs.length : Int) ∧
 ((0 : Int) ≤ (-1 : Int) → (0 : Int) ≤ (-1 : Int) ∧ (0 : Int) ≤ (-1 : Int) ∧ (2 : Int) = checkF xs) ∧
 (¬(0 : Int) ≤ (-1 : Int) → ¬(0 : Int) ≤ (-1 : Int) ∧ ¬(0 : Int) ≤ (-1 : Int) ∧ (0 : Int) = checkF xs)))) := by
 kernel_rfl

theorem g39_eq (xs : List Sp) : g39 xs = (
 (∃ (x0 : Nat),
 (x0 ≤ xs.length ∧ True) ∧
 True ∧
 (0 : Int) = (↑x0 : Int) ∧
 (0 : Int) = (List.foldl (deepStep xs) ((0 : Int), []) (List.take x0 xs)).fst ∧
 (List.foldl (deepStep xs) ((0 : Int), []) (List.take x0 xs)).snd = [] ∧ (↑xs.length : Int) = (↑xs.length : Int) ∧ xs = xs ∧ xs = xs ∧ True) ∧
 ∀ (x : Nat),
 x ≤ xs.length ∧ True →
 ((↑x : Int) < (↑xs.length : Int) →
 (↑x : Int) < (↑xs.length : Int) ∧
 ((0 : Int) ≤ (↑x : Int) ∧ (↑x : Int) < (↑xs.length : Int)) ∧
 xs.length ≤ (1000 : Nat) ∧
 ((↑(List.foldl (deepStep xs) ((0 : Int), []) (List.take x xs)).snd.length : Int) < (↑(atF xs (xs.getD (↑x : Int).toNat ((0 : Int), (0 : Int))).fst).length : Int) →
 (↑(List.foldl (deepStep xs) ((0 : Int), []) (List.take x xs)).snd.length : Int) <
 (↑(atF xs (xs.getD (↑x : Int).toNat ((0 : Int), (0 : Int))).fst).length : Int) ∧
 (↑(List.foldl (deepStep xs) ((0 : Int), []) (List.take x xs)).snd.length : Int) <
 (↑(atF xs (xs.getD (↑x : Int).toNat ((0 : Int), (0 : Int))).fst).length : Int) ∧
 Fits IntKind.i64 ((↑x : Int) + (1 : Int)) ∧
 ∃ (x' : Nat),
 (x' ≤ xs.length ∧ True) ∧
 xs.length - x' < xs.length - x ∧
 True ∧
 (↑x : Int) + (1 : Int) = (↑x' : Int) ∧
 (xs.getD (↑x : Int).toNat ((0 : Int), (0 : Int))).fst = (List.foldl (deepStep xs) ((0 : Int), []) (List.take x' xs)).fst ∧
 atF xs (xs.getD (↑x : Int).toNat ((0 : Int), (0 : Int))).fst = (List.foldl (deepStep xs) ((0 : Int), []) (List.take x' xs)).snd ∧
 (↑xs.length : Int) = (↑xs.length : Int) ∧ xs = xs ∧ xs = xs ∧ True) ∧
 (¬(↑(List.foldl (deepStep xs) ((0 : Int), []) (List.take x xs)).snd.length : Int) <
 (↑(atF xs (xs.getD (↑x : Int).toNat ((0 : Int), (0 : Int))).fst).length : Int) →
 ¬(↑(List.foldl (deepStep xs) ((0 : Int), []) (List.take x xs)).snd.length : Int) <
 (↑(atF xs (xs.getD (↑x : Int).toNat ((0 : Int), (0 : Int))).fst).length : Int) ∧
 ¬(↑(List.foldl (deepStep xs) ((0 : Int), []) (List.take x xs)).snd.length : Int) <
 (↑(atF xs (xs.getD (↑x : Int).toNat ((0 : Int), (0 : Int))).fst).length : Int) ∧
 ((↑(atF xs (xs.getD (↑x : Int).toNat ((0 : Int), (0 : Int))).fst).length : Int) =
 (↑(List.foldl (deepStep xs) ((0 : Int), []) (List.take x xs)).snd.length : Int) →
 (↑(atF xs (xs.getD (↑x : Int).toNat ((0 : Int), (0 : Int))).fst).length : Int) =
 (↑(List.foldl (deepStep xs) ((0 : Int), []) (List.take x xs)).snd.length : Int) ∧
 (↑(atF xs (xs.getD (↑x : Int).toNat ((0 : Int), (0 : Int))).fst).length : Int) =
 (↑(List.foldl (deepStep xs) ((0 : Int), []) (List.take x xs)).snd.length : Int) ∧
 ((xs.getD (↑x : Int).toNat ((0 : Int), (0 : Int))).fst < (List.foldl (deepStep xs) ((0 : Int), []) (List.take x xs)).fst →
 (xs.getD (↑x : Int).toNat ((0 : Int), (0 : Int))).fst < (List.foldl (deepStep xs) ((0 : Int), []) (List.take x xs)).fst ∧
 (xs.getD (↑x : Int).toNat ((0 : Int), (0 : Int))).fst < (List.foldl (deepStep xs) ((0 : Int), []) (List.take x xs)).fst ∧
 (xs.getD (↑x : Int).toNat ((0 : Int), (0 : Int))).fst < (List.foldl (deepStep xs) ((0 : Int), []) (List.take x xs)).fst ∧
 Fits IntKind.i64 ((↑x : Int) + (1 : Int)) ∧
 ∃ (x' : Nat),
 (x' ≤ xs.length ∧ True) ∧
 xs.length - x' < xs.length - x ∧
 True ∧
 (↑x : Int) + (1 : Int) = (↑x' : Int) ∧
 (xs.getD (↑x : Int).toNat ((0 : Int), (0 : Int))).fst = (List.foldl (deepStep xs) ((0 : Int), []) (List.take x' xs)).fst ∧
 atF xs (xs.getD (↑x : Int).toNat ((0 : Int), (0 : Int))).fst =
 (List.foldl (deepStep xs) ((0 : Int), []) (List.take x' xs)).snd ∧
 (↑xs.length : Int) = (↑xs.length : Int) ∧ xs = xs ∧ xs = xs ∧ True) ∧
 (¬(xs.getD (↑x : Int).toNat ((0 : Int), (0 : Int))).fst < (List.foldl (deepStep xs) ((0 : Int), []) (List.take x xs)).fst →
 ¬(xs.getD (↑x : Int).toNat ((0 : Int), (0 : Int))).fst < (List.foldl (deepStep xs) ((0 : Int), []) (List.take x xs)).fst ∧
 ¬(xs.getD (↑x : Int).toNat ((0 : Int), (0 : Int))).fst < (List.foldl (deepStep xs) ((0 : Int), []) (List.take x xs)).fst ∧
 ¬(xs.getD (↑x : Int).toNat ((0 : Int), (0 : Int))).fst < (List.foldl (deepStep xs) ((0 : Int), []) (List.take x xs)).fst ∧
 Fits IntKind.i64 ((↑x : Int) + (1 : Int)) ∧
 ∃ (x' : Nat),
 (x' ≤ xs.length ∧ True) ∧
 xs.length - x' < xs.length - x ∧
 True ∧
 (↑x : Int) + (1 : Int) = (↑x' : Int) ∧
 (List.foldl (deepStep xs) ((0 : Int), []) (List.take x xs)).fst =
 (List.foldl (deepStep xs) ((0 : Int), []) (List.take x' xs)).fst ∧
 (List.foldl (deepStep xs) ((0 : Int), []) (List.take x xs)).snd =
 (List.foldl (deepStep xs) ((0 : Int), []) (List.take x' xs)).snd ∧
 (↑xs.length : Int) = (↑xs.length : Int) ∧ xs = xs ∧ xs = xs ∧ True)) ∧
 (¬(↑(atF xs (xs.getD (↑x : Int).toNat ((0 : Int), (0 : Int))).fst).length : Int) =
 (↑(List.foldl (deepStep xs) ((0 : Int), []) (List.take x xs)).snd.length : Int) →
 ¬(↑(atF xs (xs.getD (↑x : Int).toNat ((0 : Int), (0 : Int))).fst).length : Int) =
 (↑(List.foldl (deepStep xs) ((0 : Int), []) (List.take x xs)).snd.length : Int) ∧
 ¬(↑(atF xs (xs.getD (↑x : Int).toNat ((0 : Int), (0 : Int))).fst).length : Int) =
 (↑(List.foldl (deepStep xs) ((0 : Int), []) (List.take x xs)).snd.length : Int) ∧
 Fits IntKind.i64 ((↑x : Int) + (1 : Int)) ∧
 ∃ (x' : Nat),
 (x' ≤ xs.length ∧ True) ∧
 xs.length - x' < xs.length - x ∧
 True ∧
 (↑x : Int) + (1 : Int) = (↑x' : Int) ∧
 (List.foldl (deepStep xs) ((0 : Int), []) (List.take x xs)).fst = (List.foldl (deepStep xs) ((0 : Int), []) (List.take x' xs)).fst ∧
 (List.foldl (deepStep xs) ((0 : Int), []) (List.take x xs)).snd = (List.foldl (deepStep xs) ((0 : Int), []) (List.take x' xs)).snd ∧
 (↑xs.length : Int) = (↑xs.length : Int) ∧ xs = xs ∧ xs = xs ∧ True))) ∧
 (¬(↑x : Int) < (↑xs.length : Int) →
 ¬(↑x : Int) < (↑xs.length : Int) ∧
 ((List.foldl (deepStep xs) ((0 : Int), []) (List.take x xs)).fst, (List.foldl (deepStep xs) ((0 : Int), []) (List.take x xs)).snd) = deepF xs)) := by
 kernel_rfl

theorem g16_eq (xs : List Sp) : g16 xs = (
 xs.length ≤ (1000 : Nat) ∧
 (¬checkF xs = (0 : Int) → ¬checkF xs = (0 : Int) ∧ ((0 : Int), checkF xs) = depthP xs) ∧
 (¬¬checkF xs = (0 : Int) → ¬¬checkF xs = (0 : Int) ∧ xs.length ≤ (1000 : Nat) ∧ ((↑(deepF xs).snd.length : Int), (0 : Int)) = depthP xs)) := by
 kernel_rfl

theorem g17_eq (xs : List Sp) : g17 xs = (
 xs.length ≤ (1000 : Nat) ∧
 (¬checkF xs = (0 : Int) → ¬checkF xs = (0 : Int) ∧ ((0 : Int), [], checkF xs) = deepestP xs) ∧
 (¬¬checkF xs = (0 : Int) →
 ¬¬checkF xs = (0 : Int) ∧
 ((↑xs.length : Int) = (0 : Int) → (↑xs.length : Int) = (0 : Int) ∧ ((0 : Int), [], (5 : Int)) = deepestP xs) ∧
 (¬(↑xs.length : Int) = (0 : Int) → ¬(↑xs.length : Int) = (0 : Int) ∧ xs.length ≤ (1000 : Nat) ∧ ((deepF xs).fst, (deepF xs).snd, (0 : Int)) = deepestP xs))) := by
 kernel_rfl

theorem g42_eq (x : Int) : g42 x = (
 decide (x < (0 : Int)) = decide (x < (0 : Int))) := by
 kernel_rfl

theorem g23_eq (xs : List Sp) (c : List Int) : g23 xs c = (
 xs.length ≤ (1000 : Nat) ∧
 (¬checkF xs = (0 : Int) → ¬checkF xs = (0 : Int) ∧ (false, checkF xs) = properP xs c) ∧
 (¬¬checkF xs = (0 : Int) →
 ¬¬checkF xs = (0 : Int) ∧
 (¬(↑c.length : Int) = (↑xs.length : Int) → ¬(↑c.length : Int) = (↑xs.length : Int) ∧ ¬(↑c.length : Int) = (↑xs.length : Int) ∧ (false, (1 : Int)) = properP xs c) ∧
 (¬¬(↑c.length : Int) = (↑xs.length : Int) →
 ¬¬(↑c.length : Int) = (↑xs.length : Int) ∧
 ¬¬(↑c.length : Int) = (↑xs.length : Int) ∧
 (∃ (x0 : Nat),
 (x0 ≤ c.length ∧ ((List.take x0 c).any fun (x : Int) => decide (x < (0 : Int))) = false) ∧
 True ∧ (0 : Int) = (↑x0 : Int) ∧ (↑c.length : Int) = (↑c.length : Int) ∧ c = c ∧ c = c ∧ True ∧ True) ∧
 ∀ (x : Nat),
 x ≤ c.length ∧ ((List.take x c).any fun (x : Int) => decide (x < (0 : Int))) = false →
 ((↑x : Int) < (↑c.length : Int) →
 (↑x : Int) < (↑c.length : Int) ∧
 ((0 : Int) ≤ (↑x : Int) ∧ (↑x : Int) < (↑c.length : Int)) ∧
 True ∧
 (decide (c.getD (↑x : Int).toNat (0 : Int) < (0 : Int)) = true →
 decide (c.getD (↑x : Int).toNat (0 : Int) < (0 : Int)) = true ∧
 ((0 : Int) ≤ (↑x : Int) → (0 : Int) ≤ (↑x : Int) ∧ (0 : Int) ≤ (↑x : Int) ∧ (false, (1 : Int)) = properP xs c) ∧
 (¬(0 : Int) ≤ (↑x : Int) →
 ¬(0 : Int) ≤ (↑x : Int) ∧
 ¬(0 : Int) ≤ (↑x : Int) ∧
 (∃ (x0 : Nat),
 (x0 ≤ xs.length ∧ ∀ (a : Nat), a < x0 → ∀ (b : Nat), b < a → clash xs c a b = false) ∧
 True ∧ (0 : Int) = (↑x0 : Int) ∧ (↑xs.length : Int) = (↑xs.length : Int) ∧ xs = xs ∧ xs = xs ∧ c = c ∧ True) ∧
 ∀ (x : Nat),
 (x ≤ xs.length ∧ ∀ (a : Nat), a < x → ∀ (b : Nat), b < a → clash xs c a b = false) →
 ((↑x : Int) < (↑xs.length : Int) →
 (↑x : Int) < (↑xs.length : Int) ∧
 ((0 : Int) ≤ (↑x : Int) ∧ (↑x : Int) < (↑xs.length : Int)) ∧
 ((0 : Int) ≤ (↑(0 : Nat) : Int) ∧ (↑(0 : Nat) : Int) ≤ (↑x : Int) ∧ (↑x : Int) ≤ (↑xs.length : Int)) ∧
 True ∧
 (∃ (x0 : Nat),
 (x0 ≤ (↑x : Int).toNat ∧ ∀ (b : Nat), b < x0 → clash xs c (↑x : Int).toNat b = false) ∧
 (((xs.getD (↑x : Int).toNat ((0 : Int), (0 : Int))).fst =
 (xs.getD (↑x : Int).toNat ((0 : Int), (0 : Int))).fst ∧
 (xs.getD (↑x : Int).toNat ((0 : Int), (0 : Int))).snd =
 (xs.getD (↑x : Int).toNat ((0 : Int), (0 : Int))).snd ∧
 True) ∧
 True) ∧
 (0 : Int) = (↑x0 : Int) ∧
 (↑(List.drop (↑(0 : Nat) : Int).toNat (List.take (↑x : Int).toNat xs)).length : Int) =
 (↑(List.drop (↑(0 : Nat) : Int).toNat (List.take (↑x : Int).toNat xs)).length : Int) ∧
 List.drop (↑(0 : Nat) : Int).toNat (List.take (↑x : Int).toNat xs) =
 List.drop (↑(0 : Nat) : Int).toNat (List.take (↑x : Int).toNat xs) ∧
 (↑x : Int) = (↑x : Int) ∧
 True ∧
 (↑x : Int) = (↑x : Int) ∧
 (↑xs.length : Int) = (↑xs.length : Int) ∧ xs = xs ∧ xs = xs ∧ c = c ∧ True) ∧
 ∀ (x_1 : Nat),
 (x_1 ≤ (↑x : Int).toNat ∧ ∀ (b : Nat), b < x_1 → clash xs c (↑x : Int).toNat b = false) →
 ((↑x_1 : Int) < (↑(List.drop (↑(0 : Nat) : Int).toNat (List.take (↑x : Int).toNat xs)).length : Int) →
 (↑x_1 : Int) < (↑(List.drop (↑(0 : Nat) : Int).toNat (List.take (↑x : Int).toNat xs)).length : Int) ∧
 ((0 : Int) ≤ (↑x_1 : Int) ∧
 (↑x_1 : Int) <
 (↑(List.drop (↑(0 : Nat) : Int).toNat (List.take (↑x : Int).toNat xs)).length : Int)) ∧
 True ∧
 (ovl
 ((xs.getD (↑x : Int).toNat ((0 : Int), (0 : Int))).fst,
 (xs.getD (↑x : Int).toNat ((0 : Int), (0 : Int))).snd)
 (((List.drop (↑(0 : Nat) : Int).toNat (List.take (↑x : Int).toNat xs)).getD
 (↑x_1 : Int).toNat ((0 : Int), (0 : Int))).fst,
 ((List.drop (↑(0 : Nat) : Int).toNat (List.take (↑x : Int).toNat xs)).getD
 (↑x_1 : Int).toNat ((0 : Int), (0 : Int))).snd) =
 true →
 ovl
 ((xs.getD (↑x : Int).toNat ((0 : Int), (0 : Int))).fst,
 (xs.getD (↑x : Int).toNat ((0 : Int), (0 : Int))).snd)
 (((List.drop (↑(0 : Nat) : Int).toNat (List.take (↑x : Int).toNat xs)).getD
 (↑x_1 : Int).toNat ((0 : Int), (0 : Int))).fst,
 ((List.drop (↑(0 : Nat) : Int).toNat (List.take (↑x : Int).toNat xs)).getD
 (↑x_1 : Int).toNat ((0 : Int), (0 : Int))).snd) =
 true ∧
 ovl
 ((xs.getD (↑x : Int).toNat ((0 : Int), (0 : Int))).fst,
 (xs.getD (↑x : Int).toNat ((0 : Int), (0 : Int))).snd)
 (((List.drop (↑(0 : Nat) : Int).toNat (List.take (↑x : Int).toNat xs)).getD
 (↑x_1 : Int).toNat ((0 : Int), (0 : Int))).fst,
 ((List.drop (↑(0 : Nat) : Int).toNat (List.take (↑x : Int).toNat xs)).getD
 (↑x_1 : Int).toNat ((0 : Int), (0 : Int))).snd) =
 true ∧
 ((0 : Int) ≤ (↑x : Int) ∧ (↑x : Int) < (↑c.length : Int)) ∧
 ((0 : Int) ≤ (↑x_1 : Int) ∧ (↑x_1 : Int) < (↑c.length : Int)) ∧
 (c.getD (↑x : Int).toNat (0 : Int) = c.getD (↑x_1 : Int).toNat (0 : Int) →
 c.getD (↑x : Int).toNat (0 : Int) = c.getD (↑x_1 : Int).toNat (0 : Int) ∧
 c.getD (↑x : Int).toNat (0 : Int) = c.getD (↑x_1 : Int).toNat (0 : Int) ∧
 (false, (0 : Int)) = properP xs c) ∧
 (¬c.getD (↑x : Int).toNat (0 : Int) = c.getD (↑x_1 : Int).toNat (0 : Int) →
 ¬c.getD (↑x : Int).toNat (0 : Int) = c.getD (↑x_1 : Int).toNat (0 : Int) ∧
 ¬c.getD (↑x : Int).toNat (0 : Int) = c.getD (↑x_1 : Int).toNat (0 : Int) ∧
 Fits IntKind.i64 ((↑x_1 : Int) + (1 : Int)) ∧
 ∃ (x' : Nat),
 (x' ≤ (↑x : Int).toNat ∧
 ∀ (b : Nat), b < x' → clash xs c (↑x : Int).toNat b = false) ∧
 (↑x : Int).toNat - x' < (↑x : Int).toNat - x_1 ∧
 (((xs.getD (↑x : Int).toNat ((0 : Int), (0 : Int))).fst =
 (xs.getD (↑x : Int).toNat ((0 : Int), (0 : Int))).fst ∧
 (xs.getD (↑x : Int).toNat ((0 : Int), (0 : Int))).snd =
 (xs.getD (↑x : Int).toNat ((0 : Int), (0 : Int))).snd ∧
 True) ∧
 True) ∧
 (↑x_1 : Int) + (1 : Int) = (↑x' : Int) ∧
 (↑(List.drop (↑(0 : Nat) : Int).toNat
 (List.take (↑x : Int).toNat xs)).length :
 Int) =
 (↑(List.drop (↑(0 : Nat) : Int).toNat
 (List.take (↑x : Int).toNat xs)).length :
 Int) ∧
 List.drop (↑(0 : Nat) : Int).toNat
 (List.take (↑x : Int).toNat xs) =
 List.drop (↑(0 : Nat) : Int).toNat
 (List.take (↑x : Int).toNat xs) ∧
 (↑x : Int) = (↑x : Int) ∧
 True ∧
 (↑x : Int) = (↑x : Int) ∧
 (↑xs.length : Int) = (↑xs.length : Int) ∧
 xs = xs ∧ xs = xs ∧ c = c ∧ True)) ∧
 (ovl
 ((xs.getD (↑x : Int).toNat ((0 : Int), (0 : Int))).fst,
 (xs.getD (↑x : Int).toNat ((0 : Int), (0 : Int))).snd)
 (((List.drop (↑(0 : Nat) : Int).toNat (List.take (↑x : Int).toNat xs)).getD
 (↑x_1 : Int).toNat ((0 : Int), (0 : Int))).fst,
 ((List.drop (↑(0 : Nat) : Int).toNat (List.take (↑x : Int).toNat xs)).getD
 (↑x_1 : Int).toNat ((0 : Int), (0 : Int))).snd) =
 false →
 ovl
 ((xs.getD (↑x : Int).toNat ((0 : Int), (0 : Int))).fst,
 (xs.getD (↑x : Int).toNat ((0 : Int), (0 : Int))).snd)
 (((List.drop (↑(0 : Nat) : Int).toNat (List.take (↑x : Int).toNat xs)).getD
 (↑x_1 : Int).toNat ((0 : Int), (0 : Int))).fst,
 ((List.drop (↑(0 : Nat) : Int).toNat (List.take (↑x : Int).toNat xs)).getD
 (↑x_1 : Int).toNat ((0 : Int), (0 : Int))).snd) =
 false ∧
 ovl
 ((xs.getD (↑x : Int).toNat ((0 : Int), (0 : Int))).fst,
 (xs.getD (↑x : Int).toNat ((0 : Int), (0 : Int))).snd)
 (((List.drop (↑(0 : Nat) : Int).toNat (List.take (↑x : Int).toNat xs)).getD
 (↑x_1 : Int).toNat ((0 : Int), (0 : Int))).fst,
 ((List.drop (↑(0 : Nat) : Int).toNat (List.take (↑x : Int).toNat xs)).getD
 (↑x_1 : Int).toNat ((0 : Int), (0 : Int))).snd) =
 false ∧
 Fits IntKind.i64 ((↑x_1 : Int) + (1 : Int)) ∧
 ∃ (x' : Nat),
 (x' ≤ (↑x : Int).toNat ∧ ∀ (b : Nat), b < x' → clash xs c (↑x : Int).toNat b = false) ∧
 (↑x : Int).toNat - x' < (↑x : Int).toNat - x_1 ∧
 (((xs.getD (↑x : Int).toNat ((0 : Int), (0 : Int))).fst =
 (xs.getD (↑x : Int).toNat ((0 : Int), (0 : Int))).fst ∧
 (xs.getD (↑x : Int).toNat ((0 : Int), (0 : Int))).snd =
 (xs.getD (↑x : Int).toNat ((0 : Int), (0 : Int))).snd ∧
 True) ∧
 True) ∧
 (↑x_1 : Int) + (1 : Int) = (↑x' : Int) ∧
 (↑(List.drop (↑(0 : Nat) : Int).toNat (List.take (↑x : Int).toNat xs)).length :
 Int) =
 (↑(List.drop (↑(0 : Nat) : Int).toNat
 (List.take (↑x : Int).toNat xs)).length :
 Int) ∧
 List.drop (↑(0 : Nat) : Int).toNat (List.take (↑x : Int).toNat xs) =
 List.drop (↑(0 : Nat) : Int).toNat (List.take (↑x : Int).toNat xs) ∧
 (↑x : Int) = (↑x : Int) ∧
 True ∧
 (↑x : Int) = (↑x : Int) ∧
 (↑xs.length : Int) = (↑xs.length : Int) ∧
 xs = xs ∧ xs = xs ∧ c = c ∧ True)) ∧
 (¬(↑x_1 : Int) < (↑(List.drop (↑(0 : Nat) : Int).toNat (List.take (↑x : Int).toNat xs)).length : Int) →
 ¬(↑x_1 : Int) < (↑(List.drop (↑(0 : Nat) : Int).toNat (List.take (↑x : Int).toNat xs)).length : Int) ∧
 Fits IntKind.i64 ((↑x : Int) + (1 : Int)) ∧
 ∃ (x' : Nat),
 (x' ≤ xs.length ∧ ∀ (a : Nat), a < x' → ∀ (b : Nat), b < a → clash xs c a b = false) ∧
 xs.length - x' < xs.length - x ∧
 True ∧
 (↑x : Int) + (1 : Int) = (↑x' : Int) ∧
 (↑xs.length : Int) = (↑xs.length : Int) ∧ xs = xs ∧ xs = xs ∧ c = c ∧ True)) ∧
 (¬(↑x : Int) < (↑xs.length : Int) → ¬(↑x : Int) < (↑xs.length : Int) ∧ (true, (0 : Int)) = properP xs c))) ∧
 (decide (c.getD (↑x : Int).toNat (0 : Int) < (0 : Int)) = false →
 decide (c.getD (↑x : Int).toNat (0 : Int) < (0 : Int)) = false ∧
 Fits IntKind.i64 ((↑x : Int) + (1 : Int)) ∧
 ∃ (x' : Nat),
 (x' ≤ c.length ∧ ((List.take x' c).any fun (x : Int) => decide (x < (0 : Int))) = false) ∧
 c.length - x' < c.length - x ∧
 True ∧ (↑x : Int) + (1 : Int) = (↑x' : Int) ∧ (↑c.length : Int) = (↑c.length : Int) ∧ c = c ∧ c = c ∧ True ∧ True)) ∧
 (¬(↑x : Int) < (↑c.length : Int) →
 ¬(↑x : Int) < (↑c.length : Int) ∧
 ((0 : Int) ≤ (-1 : Int) → (0 : Int) ≤ (-1 : Int) ∧ (0 : Int) ≤ (-1 : Int) ∧ (false, (1 : Int)) = properP xs c) ∧
 (¬(0 : Int) ≤ (-1 : Int) →
 ¬(0 : Int) ≤ (-1 : Int) ∧
 ¬(0 : Int) ≤ (-1 : Int) ∧
 (∃ (x0 : Nat),
 (x0 ≤ xs.length ∧ ∀ (a : Nat), a < x0 → ∀ (b : Nat), b < a → clash xs c a b = false) ∧
 True ∧ (0 : Int) = (↑x0 : Int) ∧ (↑xs.length : Int) = (↑xs.length : Int) ∧ xs = xs ∧ xs = xs ∧ c = c ∧ True) ∧
 ∀ (x : Nat),
 (x ≤ xs.length ∧ ∀ (a : Nat), a < x → ∀ (b : Nat), b < a → clash xs c a b = false) →
 ((↑x : Int) < (↑xs.length : Int) →
 (↑x : Int) < (↑xs.length : Int) ∧
 ((0 : Int) ≤ (↑x : Int) ∧ (↑x : Int) < (↑xs.length : Int)) ∧
 ((0 : Int) ≤ (↑(0 : Nat) : Int) ∧ (↑(0 : Nat) : Int) ≤ (↑x : Int) ∧ (↑x : Int) ≤ (↑xs.length : Int)) ∧
 True ∧
 (∃ (x0 : Nat),
 (x0 ≤ (↑x : Int).toNat ∧ ∀ (b : Nat), b < x0 → clash xs c (↑x : Int).toNat b = false) ∧
 (((xs.getD (↑x : Int).toNat ((0 : Int), (0 : Int))).fst = (xs.getD (↑x : Int).toNat ((0 : Int), (0 : Int))).fst ∧
 (xs.getD (↑x : Int).toNat ((0 : Int), (0 : Int))).snd = (xs.getD (↑x : Int).toNat ((0 : Int), (0 : Int))).snd ∧
 True) ∧
 True) ∧
 (0 : Int) = (↑x0 : Int) ∧
 (↑(List.drop (↑(0 : Nat) : Int).toNat (List.take (↑x : Int).toNat xs)).length : Int) =
 (↑(List.drop (↑(0 : Nat) : Int).toNat (List.take (↑x : Int).toNat xs)).length : Int) ∧
 List.drop (↑(0 : Nat) : Int).toNat (List.take (↑x : Int).toNat xs) =
 List.drop (↑(0 : Nat) : Int).toNat (List.take (↑x : Int).toNat xs) ∧
 (↑x : Int) = (↑x : Int) ∧
 True ∧ (↑x : Int) = (↑x : Int) ∧ (↑xs.length : Int) = (↑xs.length : Int) ∧ xs = xs ∧ xs = xs ∧ c = c ∧ True) ∧
 ∀ (x_1 : Nat),
 (x_1 ≤ (↑x : Int).toNat ∧ ∀ (b : Nat), b < x_1 → clash xs c (↑x : Int).toNat b = false) →
 ((↑x_1 : Int) < (↑(List.drop (↑(0 : Nat) : Int).toNat (List.take (↑x : Int).toNat xs)).length : Int) →
 (↑x_1 : Int) < (↑(List.drop (↑(0 : Nat) : Int).toNat (List.take (↑x : Int).toNat xs)).length : Int) ∧
 ((0 : Int) ≤ (↑x_1 : Int) ∧
 (↑x_1 : Int) < (↑(List.drop (↑(0 : Nat) : Int).toNat (List.take (↑x : Int).toNat xs)).length : Int)) ∧
 True ∧
 (ovl
 ((xs.getD (↑x : Int).toNat ((0 : Int), (0 : Int))).fst,
 (xs.getD (↑x : Int).toNat ((0 : Int), (0 : Int))).snd)
 (((List.drop (↑(0 : Nat) : Int).toNat (List.take (↑x : Int).toNat xs)).getD (↑x_1 : Int).toNat
 ((0 : Int), (0 : Int))).fst,
 ((List.drop (↑(0 : Nat) : Int).toNat (List.take (↑x : Int).toNat xs)).getD (↑x_1 : Int).toNat
 ((0 : Int), (0 : Int))).snd) =
 true →
 ovl
 ((xs.getD (↑x : Int).toNat ((0 : Int), (0 : Int))).fst,
 (xs.getD (↑x : Int).toNat ((0 : Int), (0 : Int))).snd)
 (((List.drop (↑(0 : Nat) : Int).toNat (List.take (↑x : Int).toNat xs)).getD (↑x_1 : Int).toNat
 ((0 : Int), (0 : Int))).fst,
 ((List.drop (↑(0 : Nat) : Int).toNat (List.take (↑x : Int).toNat xs)).getD (↑x_1 : Int).toNat
 ((0 : Int), (0 : Int))).snd) =
 true ∧
 ovl
 ((xs.getD (↑x : Int).toNat ((0 : Int), (0 : Int))).fst,
 (xs.getD (↑x : Int).toNat ((0 : Int), (0 : Int))).snd)
 (((List.drop (↑(0 : Nat) : Int).toNat (List.take (↑x : Int).toNat xs)).getD (↑x_1 : Int).toNat
 ((0 : Int), (0 : Int))).fst,
 ((List.drop (↑(0 : Nat) : Int).toNat (List.take (↑x : Int).toNat xs)).getD (↑x_1 : Int).toNat
 ((0 : Int), (0 : Int))).snd) =
 true ∧
 ((0 : Int) ≤ (↑x : Int) ∧ (↑x : Int) < (↑c.length : Int)) ∧
 ((0 : Int) ≤ (↑x_1 : Int) ∧ (↑x_1 : Int) < (↑c.length : Int)) ∧
 (c.getD (↑x : Int).toNat (0 : Int) = c.getD (↑x_1 : Int).toNat (0 : Int) →
 c.getD (↑x : Int).toNat (0 : Int) = c.getD (↑x_1 : Int).toNat (0 : Int) ∧
 c.getD (↑x : Int).toNat (0 : Int) = c.getD (↑x_1 : Int).toNat (0 : Int) ∧
 (false, (0 : Int)) = properP xs c) ∧
 (¬c.getD (↑x : Int).toNat (0 : Int) = c.getD (↑x_1 : Int).toNat (0 : Int) →
 ¬c.getD (↑x : Int).toNat (0 : Int) = c.getD (↑x_1 : Int).toNat (0 : Int) ∧
 ¬c.getD (↑x : Int).toNat (0 : Int) = c.getD (↑x_1 : Int).toNat (0 : Int) ∧
 Fits IntKind.i64 ((↑x_1 : Int) + (1 : Int)) ∧
 ∃ (x' : Nat),
 (x' ≤ (↑x : Int).toNat ∧
 ∀ (b : Nat), b < x' → clash xs c (↑x : Int).toNat b = false) ∧
 (↑x : Int).toNat - x' < (↑x : Int).toNat - x_1 ∧
 (((xs.getD (↑x : Int).toNat ((0 : Int), (0 : Int))).fst =
 (xs.getD (↑x : Int).toNat ((0 : Int), (0 : Int))).fst ∧
 (xs.getD (↑x : Int).toNat ((0 : Int), (0 : Int))).snd =
 (xs.getD (↑x : Int).toNat ((0 : Int), (0 : Int))).snd ∧
 True) ∧
 True) ∧
 (↑x_1 : Int) + (1 : Int) = (↑x' : Int) ∧
 (↑(List.drop (↑(0 : Nat) : Int).toNat
 (List.take (↑x : Int).toNat xs)).length :
 Int) =
 (↑(List.drop (↑(0 : Nat) : Int).toNat
 (List.take (↑x : Int).toNat xs)).length :
 Int) ∧
 List.drop (↑(0 : Nat) : Int).toNat (List.take (↑x : Int).toNat xs) =
 List.drop (↑(0 : Nat) : Int).toNat (List.take (↑x : Int).toNat xs) ∧
 (↑x : Int) = (↑x : Int) ∧
 True ∧
 (↑x : Int) = (↑x : Int) ∧
 (↑xs.length : Int) = (↑xs.length : Int) ∧
 xs = xs ∧ xs = xs ∧ c = c ∧ True)) ∧
 (ovl
 ((xs.getD (↑x : Int).toNat ((0 : Int), (0 : Int))).fst,
 (xs.getD (↑x : Int).toNat ((0 : Int), (0 : Int))).snd)
 (((List.drop (↑(0 : Nat) : Int).toNat (List.take (↑x : Int).toNat xs)).getD (↑x_1 : Int).toNat
 ((0 : Int), (0 : Int))).fst,
 ((List.drop (↑(0 : Nat) : Int).toNat (List.take (↑x : Int).toNat xs)).getD (↑x_1 : Int).toNat
 ((0 : Int), (0 : Int))).snd) =
 false →
 ovl
 ((xs.getD (↑x : Int).toNat ((0 : Int), (0 : Int))).fst,
 (xs.getD (↑x : Int).toNat ((0 : Int), (0 : Int))).snd)
 (((List.drop (↑(0 : Nat) : Int).toNat (List.take (↑x : Int).toNat xs)).getD (↑x_1 : Int).toNat
 ((0 : Int), (0 : Int))).fst,
 ((List.drop (↑(0 : Nat) : Int).toNat (List.take (↑x : Int).toNat xs)).getD (↑x_1 : Int).toNat
 ((0 : Int), (0 : Int))).snd) =
 false ∧
 ovl
 ((xs.getD (↑x : Int).toNat ((0 : Int), (0 : Int))).fst,
 (xs.getD (↑x : Int).toNat ((0 : Int), (0 : Int))).snd)
 (((List.drop (↑(0 : Nat) : Int).toNat (List.take (↑x : Int).toNat xs)).getD (↑x_1 : Int).toNat
 ((0 : Int), (0 : Int))).fst,
 ((List.drop (↑(0 : Nat) : Int).toNat (List.take (↑x : Int).toNat xs)).getD (↑x_1 : Int).toNat
 ((0 : Int), (0 : Int))).snd) =
 false ∧
 Fits IntKind.i64 ((↑x_1 : Int) + (1 : Int)) ∧
 ∃ (x' : Nat),
 (x' ≤ (↑x : Int).toNat ∧ ∀ (b : Nat), b < x' → clash xs c (↑x : Int).toNat b = false) ∧
 (↑x : Int).toNat - x' < (↑x : Int).toNat - x_1 ∧
 (((xs.getD (↑x : Int).toNat ((0 : Int), (0 : Int))).fst =
 (xs.getD (↑x : Int).toNat ((0 : Int), (0 : Int))).fst ∧
 (xs.getD (↑x : Int).toNat ((0 : Int), (0 : Int))).snd =
 (xs.getD (↑x : Int).toNat ((0 : Int), (0 : Int))).snd ∧
 True) ∧
 True) ∧
 (↑x_1 : Int) + (1 : Int) = (↑x' : Int) ∧
 (↑(List.drop (↑(0 : Nat) : Int).toNat (List.take (↑x : Int).toNat xs)).length : Int) =
 (↑(List.drop (↑(0 : Nat) : Int).toNat (List.take (↑x : Int).toNat xs)).length : Int) ∧
 List.drop (↑(0 : Nat) : Int).toNat (List.take (↑x : Int).toNat xs) =
 List.drop (↑(0 : Nat) : Int).toNat (List.take (↑x : Int).toNat xs) ∧
 (↑x : Int) = (↑x : Int) ∧
 True ∧
 (↑x : Int) = (↑x : Int) ∧
 (↑xs.length : Int) = (↑xs.length : Int) ∧ xs = xs ∧ xs = xs ∧ c = c ∧ True)) ∧
 (¬(↑x_1 : Int) < (↑(List.drop (↑(0 : Nat) : Int).toNat (List.take (↑x : Int).toNat xs)).length : Int) →
 ¬(↑x_1 : Int) < (↑(List.drop (↑(0 : Nat) : Int).toNat (List.take (↑x : Int).toNat xs)).length : Int) ∧
 Fits IntKind.i64 ((↑x : Int) + (1 : Int)) ∧
 ∃ (x' : Nat),
 (x' ≤ xs.length ∧ ∀ (a : Nat), a < x' → ∀ (b : Nat), b < a → clash xs c a b = false) ∧
 xs.length - x' < xs.length - x ∧
 True ∧
 (↑x : Int) + (1 : Int) = (↑x' : Int) ∧
 (↑xs.length : Int) = (↑xs.length : Int) ∧ xs = xs ∧ xs = xs ∧ c = c ∧ True)) ∧
 (¬(↑x : Int) < (↑xs.length : Int) → ¬(↑x : Int) < (↑xs.length : Int) ∧ (true, (0 : Int)) = properP xs c)))))) := by
 kernel_rfl

theorem g30_eq (a : Sp) (b : Sp) : g30 a b = (
 decide (max a.fst b.fst < min a.snd b.snd) = decide (max a.fst b.fst < min a.snd b.snd)) := by
 kernel_rfl

theorem g24_eq (xs : List Sp) (c : List Int) : g24 xs c = (
 (∃ (x0 : Nat), (x0 ≤ xs.length ∧ ∀ (a : Nat), a < x0 → ∀ (b : Nat), b < a → clash xs c a b = false) ∧ True ∧ (0 : Int) = (↑x0 : Int) ∧ xs = xs ∧ c = c ∧ True) ∧
 ∀ (x : Nat),
 (x ≤ xs.length ∧ ∀ (a : Nat), a < x → ∀ (b : Nat), b < a → clash xs c a b = false) →
 ((↑x : Int) < (↑xs.length : Int) →
 (↑x : Int) < (↑xs.length : Int) ∧
 (∃ (x0 : Nat),
 (x0 ≤ (↑x : Int).toNat ∧ ∀ (b : Nat), b < x0 → clash xs c (↑x : Int).toNat b = false) ∧
 True ∧ (0 : Int) = (↑x0 : Int) ∧ (↑x : Int) = (↑x : Int) ∧ xs = xs ∧ c = c ∧ True) ∧
 ∀ (x_1 : Nat),
 (x_1 ≤ (↑x : Int).toNat ∧ ∀ (b : Nat), b < x_1 → clash xs c (↑x : Int).toNat b = false) →
 ((↑x_1 : Int) < (↑x : Int) →
 (↑x_1 : Int) < (↑x : Int) ∧
 ((0 : Int) ≤ (↑x : Int) ∧ (↑x : Int) < (↑xs.length : Int)) ∧
 ((0 : Int) ≤ (↑x_1 : Int) ∧ (↑x_1 : Int) < (↑xs.length : Int)) ∧
 True ∧
 (decide
 (max (xs.getD (↑x : Int).toNat ((0 : Int), (0 : Int))).fst (xs.getD (↑x_1 : Int).toNat ((0 : Int), (0 : Int))).fst <
 min (xs.getD (↑x : Int).toNat ((0 : Int), (0 : Int))).snd (xs.getD (↑x_1 : Int).toNat ((0 : Int), (0 : Int))).snd) =
 true →
 decide
 (max (xs.getD (↑x : Int).toNat ((0 : Int), (0 : Int))).fst (xs.getD (↑x_1 : Int).toNat ((0 : Int), (0 : Int))).fst <
 min (xs.getD (↑x : Int).toNat ((0 : Int), (0 : Int))).snd (xs.getD (↑x_1 : Int).toNat ((0 : Int), (0 : Int))).snd) =
 true ∧
 decide
 (max (xs.getD (↑x : Int).toNat ((0 : Int), (0 : Int))).fst (xs.getD (↑x_1 : Int).toNat ((0 : Int), (0 : Int))).fst <
 min (xs.getD (↑x : Int).toNat ((0 : Int), (0 : Int))).snd (xs.getD (↑x_1 : Int).toNat ((0 : Int), (0 : Int))).snd) =
 true ∧
 ((0 : Int) ≤ (↑x : Int) ∧ (↑x : Int) < (↑c.length : Int)) ∧
 ((0 : Int) ≤ (↑x_1 : Int) ∧ (↑x_1 : Int) < (↑c.length : Int)) ∧
 (c.getD (↑x : Int).toNat (0 : Int) = c.getD (↑x_1 : Int).toNat (0 : Int) →
 c.getD (↑x : Int).toNat (0 : Int) = c.getD (↑x_1 : Int).toNat (0 : Int) ∧
 c.getD (↑x : Int).toNat (0 : Int) = c.getD (↑x_1 : Int).toNat (0 : Int) ∧ false = properR xs c) ∧
 (¬c.getD (↑x : Int).toNat (0 : Int) = c.getD (↑x_1 : Int).toNat (0 : Int) →
 ¬c.getD (↑x : Int).toNat (0 : Int) = c.getD (↑x_1 : Int).toNat (0 : Int) ∧
 ¬c.getD (↑x : Int).toNat (0 : Int) = c.getD (↑x_1 : Int).toNat (0 : Int) ∧
 Fits IntKind.i64 ((↑x_1 : Int) + (1 : Int)) ∧
 ∃ (x' : Nat),
 (x' ≤ (↑x : Int).toNat ∧ ∀ (b : Nat), b < x' → clash xs c (↑x : Int).toNat b = false) ∧
 (↑x : Int).toNat - x' < (↑x : Int).toNat - x_1 ∧
 True ∧ (↑x_1 : Int) + (1 : Int) = (↑x' : Int) ∧ (↑x : Int) = (↑x : Int) ∧ xs = xs ∧ c = c ∧ True)) ∧
 (decide
 (max (xs.getD (↑x : Int).toNat ((0 : Int), (0 : Int))).fst (xs.getD (↑x_1 : Int).toNat ((0 : Int), (0 : Int))).fst <
 min (xs.getD (↑x : Int).toNat ((0 : Int), (0 : Int))).snd (xs.getD (↑x_1 : Int).toNat ((0 : Int), (0 : Int))).snd) =
 false →
 decide
 (max (xs.getD (↑x : Int).toNat ((0 : Int), (0 : Int))).fst (xs.getD (↑x_1 : Int).toNat ((0 : Int), (0 : Int))).fst <
 min (xs.getD (↑x : Int).toNat ((0 : Int), (0 : Int))).snd (xs.getD (↑x_1 : Int).toNat ((0 : Int), (0 : Int))).snd) =
 false ∧
 decide
 (max (xs.getD (↑x : Int).toNat ((0 : Int), (0 : Int))).fst (xs.getD (↑x_1 : Int).toNat ((0 : Int), (0 : Int))).fst <
 min (xs.getD (↑x : Int).toNat ((0 : Int), (0 : Int))).snd (xs.getD (↑x_1 : Int).toNat ((0 : Int), (0 : Int))).snd) =
 false ∧
 Fits IntKind.i64 ((↑x_1 : Int) + (1 : Int)) ∧
 ∃ (x' : Nat),
 (x' ≤ (↑x : Int).toNat ∧ ∀ (b : Nat), b < x' → clash xs c (↑x : Int).toNat b = false) ∧
 (↑x : Int).toNat - x' < (↑x : Int).toNat - x_1 ∧
 True ∧ (↑x_1 : Int) + (1 : Int) = (↑x' : Int) ∧ (↑x : Int) = (↑x : Int) ∧ xs = xs ∧ c = c ∧ True)) ∧
 (¬(↑x_1 : Int) < (↑x : Int) →
 ¬(↑x_1 : Int) < (↑x : Int) ∧
 Fits IntKind.i64 ((↑x : Int) + (1 : Int)) ∧
 ∃ (x' : Nat),
 (x' ≤ xs.length ∧ ∀ (a : Nat), a < x' → ∀ (b : Nat), b < a → clash xs c a b = false) ∧
 xs.length - x' < xs.length - x ∧ True ∧ (↑x : Int) + (1 : Int) = (↑x' : Int) ∧ xs = xs ∧ c = c ∧ True)) ∧
 (¬(↑x : Int) < (↑xs.length : Int) → ¬(↑x : Int) < (↑xs.length : Int) ∧ true = properR xs c)) := by
 kernel_rfl

theorem g50_eq (l : List Int) (x : Int) : g50 l x = (
 (∃ (x0 : Nat), (x0 ≤ l.length ∧ ¬x ∈ List.take x0 l) ∧ True ∧ (0 : Int) = (↑x0 : Int) ∧ l = l ∧ x = x ∧ True) ∧
 ∀ (x_1 : Nat),
 x_1 ≤ l.length ∧ ¬x ∈ List.take x_1 l →
 ((↑x_1 : Int) < (↑l.length : Int) →
 (↑x_1 : Int) < (↑l.length : Int) ∧
 ((0 : Int) ≤ (↑x_1 : Int) ∧ (↑x_1 : Int) < (↑l.length : Int)) ∧
 (l.getD (↑x_1 : Int).toNat (0 : Int) = x → l.getD (↑x_1 : Int).toNat (0 : Int) = x ∧ true = decide (x ∈ l)) ∧
 (¬l.getD (↑x_1 : Int).toNat (0 : Int) = x →
 ¬l.getD (↑x_1 : Int).toNat (0 : Int) = x ∧
 Fits IntKind.i64 ((↑x_1 : Int) + (1 : Int)) ∧
 ∃ (x' : Nat),
 (x' ≤ l.length ∧ ¬x ∈ List.take x' l) ∧ l.length - x' < l.length - x_1 ∧ True ∧ (↑x_1 : Int) + (1 : Int) = (↑x' : Int) ∧ l = l ∧ x = x ∧ True)) ∧
 (¬(↑x_1 : Int) < (↑l.length : Int) → ¬(↑x_1 : Int) < (↑l.length : Int) ∧ false = decide (x ∈ l))) := by
 kernel_rfl

theorem g48_eq (x : Int) (l : List Int) : g48 x l = (
 (∃ (x0 : Nat), (x0 ≤ l.length ∧ ∀ (j : Nat), j < x0 → x + (↑j : Int) ∈ l) ∧ True ∧ x = x + (↑x0 : Int) ∧ l = l ∧ True) ∧
 ∀ (x_1 : Nat),
 (x_1 ≤ l.length ∧ ∀ (j : Nat), j < x_1 → x + (↑j : Int) ∈ l) →
 l.length ≤ (1000 : Nat) ∧
 (decide (x + (↑x_1 : Int) ∈ l) = true →
 decide (x + (↑x_1 : Int) ∈ l) = true ∧
 Fits IntKind.i64 (x + (↑x_1 : Int) + (1 : Int)) ∧
 ∃ (x' : Nat),
 (x' ≤ l.length ∧ ∀ (j : Nat), j < x' → x + (↑j : Int) ∈ l) ∧
 l.length - x' < l.length - x_1 ∧ True ∧ x + (↑x_1 : Int) + (1 : Int) = x + (↑x' : Int) ∧ l = l ∧ True) ∧
 (decide (x + (↑x_1 : Int) ∈ l) = false → decide (x + (↑x_1 : Int) ∈ l) = false ∧ x + (↑x_1 : Int) = leastF x l)) := by
 kernel_rfl

theorem g18_eq (xs : List Sp) : g18 xs = (
 ((40 : Int) < (↑xs.length : Int) → (40 : Int) < (↑xs.length : Int) ∧ (3 : Int) = checkF xs) ∧
 (¬(40 : Int) < (↑xs.length : Int) →
 ¬(40 : Int) < (↑xs.length : Int) ∧
 (∃ (x0 : Nat), (x0 ≤ xs.length ∧ (List.take x0 xs).any bad = false) ∧ True ∧ (0 : Int) = (↑x0 : Int) ∧ xs = xs ∧ True) ∧
 ∀ (x : Nat),
 x ≤ xs.length ∧ (List.take x xs).any bad = false →
 ((↑x : Int) < (↑xs.length : Int) →
 (↑x : Int) < (↑xs.length : Int) ∧
 ((0 : Int) ≤ (↑x : Int) ∧ (↑x : Int) < (↑xs.length : Int)) ∧
 ((xs.getD (↑x : Int).toNat ((0 : Int), (0 : Int))).fst < (0 : Int) →
 (xs.getD (↑x : Int).toNat ((0 : Int), (0 : Int))).fst < (0 : Int) ∧
 (xs.getD (↑x : Int).toNat ((0 : Int), (0 : Int))).fst < (0 : Int) ∧ (2 : Int) = checkF xs) ∧
 (¬(xs.getD (↑x : Int).toNat ((0 : Int), (0 : Int))).fst < (0 : Int) →
 ¬(xs.getD (↑x : Int).toNat ((0 : Int), (0 : Int))).fst < (0 : Int) ∧
 ¬(xs.getD (↑x : Int).toNat ((0 : Int), (0 : Int))).fst < (0 : Int) ∧
 ((0 : Int) ≤ (↑x : Int) ∧ (↑x : Int) < (↑xs.length : Int)) ∧
 ((0 : Int) ≤ (↑x : Int) ∧ (↑x : Int) < (↑xs.length : Int)) ∧
 ((xs.getD (↑x : Int).toNat ((0 : Int), (0 : Int))).snd ≤ (xs.getD (↑x : Int).toNat ((0 : Int), (0 : Int))).fst →
 (xs.getD (↑x : Int).toNat ((0 : Int), (0 : Int))).snd ≤ (xs.getD (↑x : Int).toNat ((0 : Int), (0 : Int))).fst ∧
 (xs.getD (↑x : Int).toNat ((0 : Int), (0 : Int))).snd ≤ (xs.getD (↑x : Int).toNat ((0 : Int), (0 : Int))).fst ∧
 (xs.getD (↑x : Int).toNat ((0 : Int), (0 : Int))).snd ≤ (xs.getD (↑x : Int).toNat ((0 : Int), (0 : Int))).fst ∧ (2 : Int) = checkF xs) ∧
 (¬(xs.getD (↑x : Int).toNat ((0 : Int), (0 : Int))).snd ≤ (xs.getD (↑x : Int).toNat ((0 : Int), (0 : Int))).fst →
 ¬(xs.getD (↑x : Int).toNat ((0 : Int), (0 : Int))).snd ≤ (xs.getD (↑x : Int).toNat ((0 : Int), (0 : Int))).fst ∧
 ¬(xs.getD (↑x : Int).toNat ((0 : Int), (0 : Int))).snd ≤ (xs.getD (↑x : Int).toNat ((0 : Int), (0 : Int))).fst ∧
 ¬(xs.getD (↑x : Int).toNat ((0 : Int), (0 : Int))).snd ≤ (xs.getD (↑x : Int).toNat ((0 : Int), (0 : Int))).fst ∧
 ((0 : Int) ≤ (↑x : Int) ∧ (↑x : Int) < (↑xs.length : Int)) ∧
 ((1000 : Int) < (xs.getD (↑x : Int).toNat ((0 : Int), (0 : Int))).snd →
 (1000 : Int) < (xs.getD (↑x : Int).toNat ((0 : Int), (0 : Int))).snd ∧
 (1000 : Int) < (xs.getD (↑x : Int).toNat ((0 : Int), (0 : Int))).snd ∧ (2 : Int) = checkF xs) ∧
 (¬(1000 : Int) < (xs.getD (↑x : Int).toNat ((0 : Int), (0 : Int))).snd →
 ¬(1000 : Int) < (xs.getD (↑x : Int).toNat ((0 : Int), (0 : Int))).snd ∧
 ¬(1000 : Int) < (xs.getD (↑x : Int).toNat ((0 : Int), (0 : Int))).snd ∧
 Fits IntKind.i64 ((↑x : Int) + (1 : Int)) ∧
 ∃ (x' : Nat),
 (x' ≤ xs.length ∧ (List.take x' xs).any bad = false) ∧
 xs.length - x' < xs.length - x ∧ True ∧ (↑x : Int) + (1 : Int) = (↑x' : Int) ∧ xs = xs ∧ True)))) ∧
 (¬(↑x : Int) < (↑xs.length : Int) → ¬(↑x : Int) < (↑xs.length : Int) ∧ (0 : Int) = checkF xs))) := by
 kernel_rfl

theorem g40_eq (a : List Int) (b : List Int) : g40 a b = (
 (∃ (x0 : Nat), (x0 ≤ a.length ∧ x0 ≤ b.length ∧ beforeF (List.drop x0 a) (List.drop x0 b) = beforeF a b) ∧ True ∧ (0 : Int) = (↑x0 : Int) ∧ a = a ∧ b = b ∧ True) ∧
 ∀ (x : Nat),
 x ≤ a.length ∧ x ≤ b.length ∧ beforeF (List.drop x a) (List.drop x b) = beforeF a b →
 ((↑x : Int) < (↑a.length : Int) →
 (↑x : Int) < (↑a.length : Int) ∧
 (↑x : Int) < (↑a.length : Int) ∧
 ((↑x : Int) < (↑b.length : Int) →
 (↑x : Int) < (↑b.length : Int) ∧
 (↑x : Int) < (↑b.length : Int) ∧
 ((0 : Int) ≤ (↑x : Int) ∧ (↑x : Int) < (↑a.length : Int)) ∧
 ((0 : Int) ≤ (↑x : Int) ∧ (↑x : Int) < (↑b.length : Int)) ∧
 (¬a.getD (↑x : Int).toNat (0 : Int) = b.getD (↑x : Int).toNat (0 : Int) →
 ¬a.getD (↑x : Int).toNat (0 : Int) = b.getD (↑x : Int).toNat (0 : Int) ∧
 ((0 : Int) ≤ (↑x : Int) ∧ (↑x : Int) < (↑a.length : Int)) ∧
 ((0 : Int) ≤ (↑x : Int) ∧ (↑x : Int) < (↑b.length : Int)) ∧
 decide (a.getD (↑x : Int).toNat (0 : Int) < b.getD (↑x : Int).toNat (0 : Int)) = beforeF a b) ∧
 (¬¬a.getD (↑x : Int).toNat (0 : Int) = b.getD (↑x : Int).toNat (0 : Int) →
 ¬¬a.getD (↑x : Int).toNat (0 : Int) = b.getD (↑x : Int).toNat (0 : Int) ∧
 Fits IntKind.i64 ((↑x : Int) + (1 : Int)) ∧
 ∃ (x' : Nat),
 (x' ≤ a.length ∧ x' ≤ b.length ∧ beforeF (List.drop x' a) (List.drop x' b) = beforeF a b) ∧
 a.length - x' < a.length - x ∧ True ∧ (↑x : Int) + (1 : Int) = (↑x' : Int) ∧ a = a ∧ b = b ∧ True)) ∧
 (¬(↑x : Int) < (↑b.length : Int) →
 ¬(↑x : Int) < (↑b.length : Int) ∧ ¬(↑x : Int) < (↑b.length : Int) ∧ decide ((↑a.length : Int) < (↑b.length : Int)) = beforeF a b)) ∧
 (¬(↑x : Int) < (↑a.length : Int) → ¬(↑x : Int) < (↑a.length : Int) ∧ ¬(↑x : Int) < (↑a.length : Int) ∧ decide ((↑a.length : Int) < (↑b.length : Int)) = beforeF a b)) := by
 kernel_rfl

theorem g22_eq (a : List Int) (b : List Int) : g22 a b = (
 (a.length ≤ (1000 : Nat) ∧ b.length ≤ (1000 : Nat)) ∧
 ((!beforeF a b) = true → (!beforeF a b) = true ∧ (!beforeF a b) = true ∧ (b.length ≤ (1000 : Nat) ∧ a.length ≤ (1000 : Nat)) ∧ (!beforeF b a) = decide (a = b)) ∧
 ((!beforeF a b) = false → (!beforeF a b) = false ∧ (!beforeF a b) = false ∧ false = decide (a = b))) := by
 kernel_rfl

theorem g20_eq (xs : List Sp) (a : Sp) : g20 xs a = (
 (∃ (x0 : Nat),
 a.fst + (↑x0 : Int) ≤ a.snd ∧
 ((a.fst = a.fst ∧ a.snd = a.snd ∧ True) ∧ True) ∧
 a.fst = a.fst + (↑x0 : Int) ∧ (0 : Int) = (depthTo xs a.fst x0).fst ∧ (0 : Int) = (depthTo xs a.fst x0).snd ∧ True ∧ xs = xs ∧ True) ∧
 ∀ (x : Nat),
 a.fst + (↑x : Int) ≤ a.snd →
 (a.fst + (↑x : Int) < a.snd →
 a.fst + (↑x : Int) < a.snd ∧
 (∃ (x0 : Nat),
 (x0 ≤ xs.length ∧ True) ∧
 ((a.fst = a.fst ∧ a.snd = a.snd ∧ True) ∧ True) ∧
 (0 : Int) = (↑x0 : Int) ∧
 (0 : Int) = (↑(cnt (List.take x0 xs) (a.fst + (↑x : Int))) : Int) ∧
 a.fst + (↑x : Int) = a.fst + (↑x : Int) ∧
 (depthTo xs a.fst x).fst = (depthTo xs a.fst x).fst ∧ (depthTo xs a.fst x).snd = (depthTo xs a.fst x).snd ∧ True ∧ xs = xs ∧ True) ∧
 ∀ (x_1 : Nat),
 x_1 ≤ xs.length ∧ True →
 ((↑x_1 : Int) < (↑xs.length : Int) →
 (↑x_1 : Int) < (↑xs.length : Int) ∧
 ((0 : Int) ≤ (↑x_1 : Int) ∧ (↑x_1 : Int) < (↑xs.length : Int)) ∧
 ((xs.getD (↑x_1 : Int).toNat ((0 : Int), (0 : Int))).fst ≤ a.fst + (↑x : Int) →
 (xs.getD (↑x_1 : Int).toNat ((0 : Int), (0 : Int))).fst ≤ a.fst + (↑x : Int) ∧
 (xs.getD (↑x_1 : Int).toNat ((0 : Int), (0 : Int))).fst ≤ a.fst + (↑x : Int) ∧
 ((0 : Int) ≤ (↑x_1 : Int) ∧ (↑x_1 : Int) < (↑xs.length : Int)) ∧
 (a.fst + (↑x : Int) < (xs.getD (↑x_1 : Int).toNat ((0 : Int), (0 : Int))).snd →
 a.fst + (↑x : Int) < (xs.getD (↑x_1 : Int).toNat ((0 : Int), (0 : Int))).snd ∧
 a.fst + (↑x : Int) < (xs.getD (↑x_1 : Int).toNat ((0 : Int), (0 : Int))).snd ∧
 Fits IntKind.i64 ((↑(cnt (List.take x_1 xs) (a.fst + (↑x : Int))) : Int) + (1 : Int)) ∧
 Fits IntKind.i64 ((↑x_1 : Int) + (1 : Int)) ∧
 ∃ (x' : Nat),
 (x' ≤ xs.length ∧ True) ∧
 xs.length - x' < xs.length - x_1 ∧
 ((a.fst = a.fst ∧ a.snd = a.snd ∧ True) ∧ True) ∧
 (↑x_1 : Int) + (1 : Int) = (↑x' : Int) ∧
 (↑(cnt (List.take x_1 xs) (a.fst + (↑x : Int))) : Int) + (1 : Int) =
 (↑(cnt (List.take x' xs) (a.fst + (↑x : Int))) : Int) ∧
 a.fst + (↑x : Int) = a.fst + (↑x : Int) ∧
 (depthTo xs a.fst x).fst = (depthTo xs a.fst x).fst ∧
 (depthTo xs a.fst x).snd = (depthTo xs a.fst x).snd ∧ True ∧ xs = xs ∧ True) ∧
 (¬a.fst + (↑x : Int) < (xs.getD (↑x_1 : Int).toNat ((0 : Int), (0 : Int))).snd →
 ¬a.fst + (↑x : Int) < (xs.getD (↑x_1 : Int).toNat ((0 : Int), (0 : Int))).snd ∧
 ¬a.fst + (↑x : Int) < (xs.getD (↑x_1 : Int).toNat ((0 : Int), (0 : Int))).snd ∧
 Fits IntKind.i64 ((↑x_1 : Int) + (1 : Int)) ∧
 ∃ (x' : Nat),
 (x' ≤ xs.length ∧ True) ∧
 xs.length - x' < xs.length - x_1 ∧
 ((a.fst = a.fst ∧ a.snd = a.snd ∧ True) ∧ True) ∧
 (↑x_1 : Int) + (1 : Int) = (↑x' : Int) ∧
 (↑(cnt (List.take x_1 xs) (a.fst + (↑x : Int))) : Int) = (↑(cnt (List.take x' xs) (a.fst + (↑x : Int))) : Int) ∧
 a.fst + (↑x : Int) = a.fst + (↑x : Int) ∧
 (depthTo xs a.fst x).fst = (depthTo xs a.fst x).fst ∧
 (depthTo xs a.fst x).snd = (depthTo xs a.fst x).snd ∧ True ∧ xs = xs ∧ True)) ∧
 (¬(xs.getD (↑x_1 : Int).toNat ((0 : Int), (0 : Int))).fst ≤ a.fst + (↑x : Int) →
 ¬(xs.getD (↑x_1 : Int).toNat ((0 : Int), (0 : Int))).fst ≤ a.fst + (↑x : Int) ∧
 ¬(xs.getD (↑x_1 : Int).toNat ((0 : Int), (0 : Int))).fst ≤ a.fst + (↑x : Int) ∧
 Fits IntKind.i64 ((↑x_1 : Int) + (1 : Int)) ∧
 ∃ (x' : Nat),
 (x' ≤ xs.length ∧ True) ∧
 xs.length - x' < xs.length - x_1 ∧
 ((a.fst = a.fst ∧ a.snd = a.snd ∧ True) ∧ True) ∧
 (↑x_1 : Int) + (1 : Int) = (↑x' : Int) ∧
 (↑(cnt (List.take x_1 xs) (a.fst + (↑x : Int))) : Int) = (↑(cnt (List.take x' xs) (a.fst + (↑x : Int))) : Int) ∧
 a.fst + (↑x : Int) = a.fst + (↑x : Int) ∧
 (depthTo xs a.fst x).fst = (depthTo xs a.fst x).fst ∧
 (depthTo xs a.fst x).snd = (depthTo xs a.fst x).snd ∧ True ∧ xs = xs ∧ True)) ∧
 (¬(↑x_1 : Int) < (↑xs.length : Int) →
 ¬(↑x_1 : Int) < (↑xs.length : Int) ∧
 ((depthTo xs a.fst x).fst < (↑(cnt (List.take x_1 xs) (a.fst + (↑x : Int))) : Int) →
 (depthTo xs a.fst x).fst < (↑(cnt (List.take x_1 xs) (a.fst + (↑x : Int))) : Int) ∧
 Fits IntKind.i64 (a.fst + (↑x : Int) + (1 : Int)) ∧
 ∃ (x' : Nat),
 a.fst + (↑x' : Int) ≤ a.snd ∧
 (a.snd - a.fst).toNat - x' < (a.snd - a.fst).toNat - x ∧
 ((a.fst = a.fst ∧ a.snd = a.snd ∧ True) ∧ True) ∧
 a.fst + (↑x : Int) + (1 : Int) = a.fst + (↑x' : Int) ∧
 (↑(cnt (List.take x_1 xs) (a.fst + (↑x : Int))) : Int) = (depthTo xs a.fst x').fst ∧
 a.fst + (↑x : Int) = (depthTo xs a.fst x').snd ∧ True ∧ xs = xs ∧ True) ∧
 (¬(depthTo xs a.fst x).fst < (↑(cnt (List.take x_1 xs) (a.fst + (↑x : Int))) : Int) →
 ¬(depthTo xs a.fst x).fst < (↑(cnt (List.take x_1 xs) (a.fst + (↑x : Int))) : Int) ∧
 Fits IntKind.i64 (a.fst + (↑x : Int) + (1 : Int)) ∧
 ∃ (x' : Nat),
 a.fst + (↑x' : Int) ≤ a.snd ∧
 (a.snd - a.fst).toNat - x' < (a.snd - a.fst).toNat - x ∧
 ((a.fst = a.fst ∧ a.snd = a.snd ∧ True) ∧ True) ∧
 a.fst + (↑x : Int) + (1 : Int) = a.fst + (↑x' : Int) ∧
 (depthTo xs a.fst x).fst = (depthTo xs a.fst x').fst ∧ (depthTo xs a.fst x).snd = (depthTo xs a.fst x').snd ∧ True ∧ xs = xs ∧ True))) ∧
 (¬a.fst + (↑x : Int) < a.snd → ¬a.fst + (↑x : Int) < a.snd ∧ ((depthTo xs a.fst x).fst, (depthTo xs a.fst x).snd) = depthR xs a)) := by
 kernel_rfl

theorem g51_eq (a : Int) (b : Int) (c : Int) : g51 a b c = (
 (b ≤ a → b ≤ a ∧ b ≤ a ∧ decide (a ≤ c) = (decide (b ≤ a) && decide (a ≤ c))) ∧ (¬b ≤ a → ¬b ≤ a ∧ ¬b ≤ a ∧ false = (decide (b ≤ a) && decide (a ≤ c)))) := by
 kernel_rfl

theorem g34_eq (n : Int) (l : List Int) : g34 n l = (
 (∃ (x0 : Nat), (x0 ≤ l.length ∧ ∀ (j : Nat), j < x0 → riseOK n l j = true) ∧ True ∧ (0 : Int) = (↑x0 : Int) ∧ n = n ∧ l = l ∧ True) ∧
 ∀ (x : Nat),
 (x ≤ l.length ∧ ∀ (j : Nat), j < x → riseOK n l j = true) →
 ((↑x : Int) < (↑l.length : Int) →
 (↑x : Int) < (↑l.length : Int) ∧
 ((0 : Int) ≤ (↑x : Int) ∧ (↑x : Int) < (↑l.length : Int)) ∧
 Fits IntKind.i64 (n - (1 : Int)) ∧
 True ∧
 ((!(decide ((0 : Int) ≤ l.getD (↑x : Int).toNat (0 : Int)) && decide (l.getD (↑x : Int).toNat (0 : Int) ≤ n - (1 : Int)))) = true →
 (!(decide ((0 : Int) ≤ l.getD (↑x : Int).toNat (0 : Int)) && decide (l.getD (↑x : Int).toNat (0 : Int) ≤ n - (1 : Int)))) = true ∧
 (!(decide ((0 : Int) ≤ l.getD (↑x : Int).toNat (0 : Int)) && decide (l.getD (↑x : Int).toNat (0 : Int) ≤ n - (1 : Int)))) = true ∧ false = risingF n l) ∧
 ((!(decide ((0 : Int) ≤ l.getD (↑x : Int).toNat (0 : Int)) && decide (l.getD (↑x : Int).toNat (0 : Int) ≤ n - (1 : Int)))) = false →
 (!(decide ((0 : Int) ≤ l.getD (↑x : Int).toNat (0 : Int)) && decide (l.getD (↑x : Int).toNat (0 : Int) ≤ n - (1 : Int)))) = false ∧
 (!(decide ((0 : Int) ≤ l.getD (↑x : Int).toNat (0 : Int)) && decide (l.getD (↑x : Int).toNat (0 : Int) ≤ n - (1 : Int)))) = false ∧
 ((0 : Int) < (↑x : Int) →
 (0 : Int) < (↑x : Int) ∧
 (0 : Int) < (↑x : Int) ∧
 ((0 : Int) ≤ (↑x : Int) ∧ (↑x : Int) < (↑l.length : Int)) ∧
 Fits IntKind.i64 ((↑x : Int) - (1 : Int)) ∧
 ((0 : Int) ≤ (↑x : Int) - (1 : Int) ∧ (↑x : Int) - (1 : Int) < (↑l.length : Int)) ∧
 (l.getD (↑x : Int).toNat (0 : Int) ≤ l.getD ((↑x : Int) - (1 : Int)).toNat (0 : Int) →
 l.getD (↑x : Int).toNat (0 : Int) ≤ l.getD ((↑x : Int) - (1 : Int)).toNat (0 : Int) ∧
 l.getD (↑x : Int).toNat (0 : Int) ≤ l.getD ((↑x : Int) - (1 : Int)).toNat (0 : Int) ∧
 l.getD (↑x : Int).toNat (0 : Int) ≤ l.getD ((↑x : Int) - (1 : Int)).toNat (0 : Int) ∧ false = risingF n l) ∧
 (¬l.getD (↑x : Int).toNat (0 : Int) ≤ l.getD ((↑x : Int) - (1 : Int)).toNat (0 : Int) →
 ¬l.getD (↑x : Int).toNat (0 : Int) ≤ l.getD ((↑x : Int) - (1 : Int)).toNat (0 : Int) ∧
 ¬l.getD (↑x : Int).toNat (0 : Int) ≤ l.getD ((↑x : Int) - (1 : Int)).toNat (0 : Int) ∧
 ¬l.getD (↑x : Int).toNat (0 : Int) ≤ l.getD ((↑x : Int) - (1 : Int)).toNat (0 : Int) ∧
 Fits IntKind.i64 ((↑x : Int) + (1 : Int)) ∧
 ∃ (x' : Nat),
 (x' ≤ l.length ∧ ∀ (j : Nat), j < x' → riseOK n l j = true) ∧
 l.length - x' < l.length - x ∧ True ∧ (↑x : Int) + (1 : Int) = (↑x' : Int) ∧ n = n ∧ l = l ∧ True)) ∧
 (¬(0 : Int) < (↑x : Int) →
 ¬(0 : Int) < (↑x : Int) ∧
 ¬(0 : Int) < (↑x : Int) ∧
 Fits IntKind.i64 ((↑x : Int) + (1 : Int)) ∧
 ∃ (x' : Nat),
 (x' ≤ l.length ∧ ∀ (j : Nat), j < x' → riseOK n l j = true) ∧
 l.length - x' < l.length - x ∧ True ∧ (↑x : Int) + (1 : Int) = (↑x' : Int) ∧ n = n ∧ l = l ∧ True))) ∧
 (¬(↑x : Int) < (↑l.length : Int) → ¬(↑x : Int) < (↑l.length : Int) ∧ true = risingF n l)) := by
 kernel_rfl

theorem g52_eq (n : Int) : g52 n = (
 ((0 : Int) ≤ n ∧ n ≤ n ∧ Small n.toNat) ∧
 (∃ (x0 : Nat),
 x0 ≤ n.toNat ∧
 (List.replicate n.toNat (0 : Int) = belowTo n x0 ∧ True) ∧
 (0 : Int) = (↑x0 : Int) ∧ True ∧ True ∧ (↑(List.replicate n.toNat (0 : Int)).length : Int) = (↑(List.replicate n.toNat (0 : Int)).length : Int) ∧ n = n ∧ True) ∧
 ∀ (x : Nat),
 x ≤ n.toNat →
 ((↑x : Int) < (↑(List.replicate n.toNat (0 : Int)).length : Int) →
 (↑x : Int) < (↑(List.replicate n.toNat (0 : Int)).length : Int) ∧
 ((0 : Int) ≤ (↑x : Int) ∧ (↑x : Int) < (↑(belowTo n x).length : Int)) ∧
 Fits IntKind.i64 ((↑x : Int) + (1 : Int)) ∧
 ∃ (x' : Nat),
 x' ≤ n.toNat ∧
 n.toNat - x' < n.toNat - x ∧
 ((belowTo n x).set (↑x : Int).toNat (↑x : Int) = belowTo n x' ∧ True) ∧
 (↑x : Int) + (1 : Int) = (↑x' : Int) ∧
 True ∧ True ∧ (↑(List.replicate n.toNat (0 : Int)).length : Int) = (↑(List.replicate n.toNat (0 : Int)).length : Int) ∧ n = n ∧ True) ∧
 (¬(↑x : Int) < (↑(List.replicate n.toNat (0 : Int)).length : Int) → ¬(↑x : Int) < (↑(List.replicate n.toNat (0 : Int)).length : Int) ∧ belowTo n x = belowF n)) := by
 kernel_rfl

theorem g15_eq (xs : List Sp) : g15 xs = (
 ((0 : Int) ≤ (↑(0 : Nat) : Int) ∧ (↑(0 : Nat) : Int) ≤ min (↑xs.length : Int) (41 : Int) ∧ min (↑xs.length : Int) (41 : Int) ≤ (↑xs.length : Int)) ∧
 True ∧
 Small ((0 : Nat) + (List.drop (↑(0 : Nat) : Int).toNat (List.take (min (↑xs.length : Int) (41 : Int)).toNat xs)).length) ∧
 List.drop (↑(0 : Nat) : Int).toNat (List.take (min (↑xs.length : Int) (41 : Int)).toNat xs) = List.take (41 : Nat) xs) := by
 kernel_rfl

end Go.SX.Sh
