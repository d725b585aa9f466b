/- Printed by VC.lean: what the executor asks. -/
import Derived.Test.YtfbgbdiajghnbaaDoorPa7
namespace Go.SX.Pa
open Go Go.Proofs
theorem g25_eq  : g25  = (
 (0 : Nat) + (1 : Nat) + (1 : Nat) + (1 : Nat) + (1 : Nat) ≤ (1000 : Nat) ∧
 True ∧
 (ByteArray.mk #[(48 : UInt8), (48 : UInt8), (48 : UInt8), (48 : UInt8), (48 : UInt8), (48 : UInt8)]).size ≤ (1000 : Nat) ∧
 (0 : Nat) + (1 : Nat) + (1 : Nat) + (1 : Nat) + (1 : Nat) ≤ (1000 : Nat) ∧
 True ∧
 (0 : Nat) + (1 : Nat) + (1 : Nat) + (1 : Nat) ≤ (1000 : Nat) ∧
 ((routeF (2 : Int) (2 : Int) (2 : Int) [(2 : Int), (0 : Int), (1 : Int), (3 : Int)]).fst.length ≤ (1000 : Nat) ∧
 (0 : Nat) + (1 : Nat) + (1 : Nat) + (1 : Nat) + (1 : Nat) ≤ (1000 : Nat)) ∧
 (decide ((routeF (2 : Int) (2 : Int) (2 : Int) [(2 : Int), (0 : Int), (1 : Int), (3 : Int)]).fst = [(0 : Int), (1 : Int), (0 : Int), (1 : Int)]) = true →
 decide ((routeF (2 : Int) (2 : Int) (2 : Int) [(2 : Int), (0 : Int), (1 : Int), (3 : Int)]).fst = [(0 : Int), (1 : Int), (0 : Int), (1 : Int)]) = true ∧
 decide ((routeF (2 : Int) (2 : Int) (2 : Int) [(2 : Int), (0 : Int), (1 : Int), (3 : Int)]).fst = [(0 : Int), (1 : Int), (0 : Int), (1 : Int)]) = true ∧
 ((routeF (2 : Int) (2 : Int) (2 : Int) [(2 : Int), (0 : Int), (1 : Int), (3 : Int)]).snd = (0 : Int) →
 (routeF (2 : Int) (2 : Int) (2 : Int) [(2 : Int), (0 : Int), (1 : Int), (3 : Int)]).snd = (0 : Int) ∧
 (routeF (2 : Int) (2 : Int) (2 : Int) [(2 : Int), (0 : Int), (1 : Int), (3 : Int)]).snd = (0 : Int) ∧
 (routeF (2 : Int) (2 : Int) (2 : Int) [(2 : Int), (0 : Int), (1 : Int), (3 : Int)]).snd = (0 : Int) ∧
 ((!(strictF (2 : Int) (2 : Int) (2 : Int)).fst) = true →
 (!(strictF (2 : Int) (2 : Int) (2 : Int)).fst) = true ∧
 (!(strictF (2 : Int) (2 : Int) (2 : Int)).fst) = true ∧
 (!(strictF (2 : Int) (2 : Int) (2 : Int)).fst) = true ∧
 ((strictF (2 : Int) (2 : Int) (2 : Int)).snd = (0 : Int) →
 (strictF (2 : Int) (2 : Int) (2 : Int)).snd = (0 : Int) ∧
 (strictF (2 : Int) (2 : Int) (2 : Int)).snd = (0 : Int) ∧
 (strictF (2 : Int) (2 : Int) (2 : Int)).snd = (0 : Int) ∧
 ((applyP (2 : Int)
 (ByteArray.mk #[(48 : UInt8), (48 : UInt8), (48 : UInt8), (48 : UInt8), (48 : UInt8), (48 : UInt8)])).fst.length ≤
 (1000 : Nat) ∧
 (0 : Nat) + (1 : Nat) + (1 : Nat) + (1 : Nat) + (1 : Nat) ≤ (1000 : Nat)) ∧
 (decide
 ((applyP (2 : Int)
 (ByteArray.mk #[(48 : UInt8), (48 : UInt8), (48 : UInt8), (48 : UInt8), (48 : UInt8), (48 : UInt8)])).fst =
 [(0 : Int), (1 : Int), (2 : Int), (3 : Int)]) =
 true →
 decide
 ((applyP (2 : Int)
 (ByteArray.mk #[(48 : UInt8), (48 : UInt8), (48 : UInt8), (48 : UInt8), (48 : UInt8), (48 : UInt8)])).fst =
 [(0 : Int), (1 : Int), (2 : Int), (3 : Int)]) =
 true ∧
 decide
 ((applyP (2 : Int)
 (ByteArray.mk #[(48 : UInt8), (48 : UInt8), (48 : UInt8), (48 : UInt8), (48 : UInt8), (48 : UInt8)])).fst =
 [(0 : Int), (1 : Int), (2 : Int), (3 : Int)]) =
 true ∧
 decide
 ((applyP (2 : Int)
 (ByteArray.mk
 #[(48 : UInt8), (48 : UInt8), (48 : UInt8), (48 : UInt8), (48 : UInt8), (48 : UInt8)])).fst =
 [(0 : Int), (1 : Int), (2 : Int), (3 : Int)]) =
 true ∧
 ((applyP (2 : Int)
 (ByteArray.mk
 #[(48 : UInt8), (48 : UInt8), (48 : UInt8), (48 : UInt8), (48 : UInt8), (48 : UInt8)])).snd =
 (0 : Int) →
 (applyP (2 : Int)
 (ByteArray.mk
 #[(48 : UInt8), (48 : UInt8), (48 : UInt8), (48 : UInt8), (48 : UInt8), (48 : UInt8)])).snd =
 (0 : Int) ∧
 (applyP (2 : Int)
 (ByteArray.mk
 #[(48 : UInt8), (48 : UInt8), (48 : UInt8), (48 : UInt8), (48 : UInt8), (48 : UInt8)])).snd =
 (0 : Int) ∧
 (applyP (2 : Int)
 (ByteArray.mk
 #[(48 : UInt8), (48 : UInt8), (48 : UInt8), (48 : UInt8), (48 : UInt8), (48 : UInt8)])).snd =
 (0 : Int) ∧
 ((waysF (2 : Int) [(0 : Int), (1 : Int), (2 : Int), (3 : Int)]).fst = (4 : Int) →
 (waysF (2 : Int) [(0 : Int), (1 : Int), (2 : Int), (3 : Int)]).fst = (4 : Int) ∧
 (waysF (2 : Int) [(0 : Int), (1 : Int), (2 : Int), (3 : Int)]).fst = (4 : Int) ∧
 (waysF (2 : Int) [(0 : Int), (1 : Int), (2 : Int), (3 : Int)]).fst = (4 : Int) ∧
 ((waysF (2 : Int) [(0 : Int), (1 : Int), (2 : Int), (3 : Int)]).snd = (0 : Int) →
 (waysF (2 : Int) [(0 : Int), (1 : Int), (2 : Int), (3 : Int)]).snd = (0 : Int) ∧
 (waysF (2 : Int) [(0 : Int), (1 : Int), (2 : Int), (3 : Int)]).snd = (0 : Int) ∧
 (waysF (2 : Int) [(0 : Int), (1 : Int), (2 : Int), (3 : Int)]).snd = (0 : Int) ∧
 ((waksF (3 : Int)).fst = (17 : Int) →
 (waksF (3 : Int)).fst = (17 : Int) ∧
 (waksF (3 : Int)).fst = (17 : Int) ∧
 (waksF (3 : Int)).fst = (17 : Int) ∧
 ((waksF (3 : Int)).snd = (0 : Int) →
 (waksF (3 : Int)).snd = (0 : Int) ∧
 (waksF (3 : Int)).snd = (0 : Int) ∧
 (waksF (3 : Int)).snd = (0 : Int) ∧
 ((colorsF (2 : Int) (2 : Int)
 [((0 : Int), (0 : Int)), ((0 : Int), (0 : Int)),
 ((1 : Int), (1 : Int))]).fst.length ≤
 (1000 : Nat) ∧
 (0 : Nat) + (1 : Nat) + (1 : Nat) + (1 : Nat) ≤
 (1000 : Nat)) ∧
 (decide
 ((colorsF (2 : Int) (2 : Int)
 [((0 : Int), (0 : Int)), ((0 : Int), (0 : Int)),
 ((1 : Int), (1 : Int))]).fst =
 [(0 : Int), (1 : Int), (0 : Int)]) =
 true →
 decide
 ((colorsF (2 : Int) (2 : Int)
 [((0 : Int), (0 : Int)), ((0 : Int), (0 : Int)),
 ((1 : Int), (1 : Int))]).fst =
 [(0 : Int), (1 : Int), (0 : Int)]) =
 true ∧
 decide
 ((colorsF (2 : Int) (2 : Int)
 [((0 : Int), (0 : Int)),
 ((0 : Int), (0 : Int)),
 ((1 : Int), (1 : Int))]).fst =
 [(0 : Int), (1 : Int), (0 : Int)]) =
 true ∧
 decide
 ((colorsF (2 : Int) (2 : Int)
 [((0 : Int), (0 : Int)),
 ((0 : Int), (0 : Int)),
 ((1 : Int), (1 : Int))]).fst =
 [(0 : Int), (1 : Int), (0 : Int)]) =
 true ∧
 decide
 ((colorsF (2 : Int) (2 : Int)
 [((0 : Int), (0 : Int)),
 ((0 : Int), (0 : Int)),
 ((1 : Int), (1 : Int))]).snd =
 (0 : Int)) =
 true) ∧
 (decide
 ((colorsF (2 : Int) (2 : Int)
 [((0 : Int), (0 : Int)), ((0 : Int), (0 : Int)),
 ((1 : Int), (1 : Int))]).fst =
 [(0 : Int), (1 : Int), (0 : Int)]) =
 false →
 decide
 ((colorsF (2 : Int) (2 : Int)
 [((0 : Int), (0 : Int)), ((0 : Int), (0 : Int)),
 ((1 : Int), (1 : Int))]).fst =
 [(0 : Int), (1 : Int), (0 : Int)]) =
 false ∧
 decide
 ((colorsF (2 : Int) (2 : Int)
 [((0 : Int), (0 : Int)),
 ((0 : Int), (0 : Int)),
 ((1 : Int), (1 : Int))]).fst =
 [(0 : Int), (1 : Int), (0 : Int)]) =
 false ∧
 decide
 ((colorsF (2 : Int) (2 : Int)
 [((0 : Int), (0 : Int)),
 ((0 : Int), (0 : Int)),
 ((1 : Int), (1 : Int))]).fst =
 [(0 : Int), (1 : Int), (0 : Int)]) =
 false ∧
 false = true)) ∧
 (¬(waksF (3 : Int)).snd = (0 : Int) →
 ¬(waksF (3 : Int)).snd = (0 : Int) ∧
 ¬(waksF (3 : Int)).snd = (0 : Int) ∧
 ¬(waksF (3 : Int)).snd = (0 : Int) ∧ false = true)) ∧
 (¬(waksF (3 : Int)).fst = (17 : Int) →
 ¬(waksF (3 : Int)).fst = (17 : Int) ∧
 ¬(waksF (3 : Int)).fst = (17 : Int) ∧
 ¬(waksF (3 : Int)).fst = (17 : Int) ∧ false = true)) ∧
 (¬(waysF (2 : Int) [(0 : Int), (1 : Int), (2 : Int), (3 : Int)]).snd = (0 : Int) →
 ¬(waysF (2 : Int) [(0 : Int), (1 : Int), (2 : Int), (3 : Int)]).snd = (0 : Int) ∧
 ¬(waysF (2 : Int) [(0 : Int), (1 : Int), (2 : Int), (3 : Int)]).snd = (0 : Int) ∧
 ¬(waysF (2 : Int) [(0 : Int), (1 : Int), (2 : Int), (3 : Int)]).snd = (0 : Int) ∧
 false = true)) ∧
 (¬(waysF (2 : Int) [(0 : Int), (1 : Int), (2 : Int), (3 : Int)]).fst = (4 : Int) →
 ¬(waysF (2 : Int) [(0 : Int), (1 : Int), (2 : Int), (3 : Int)]).fst = (4 : Int) ∧
 ¬(waysF (2 : Int) [(0 : Int), (1 : Int), (2 : Int), (3 : Int)]).fst = (4 : Int) ∧
 ¬(waysF (2 : Int) [(0 : Int), (1 : Int), (2 : Int), (3 : Int)]).fst = (4 : Int) ∧ false = true)) ∧
 (¬(applyP (2 : Int)
 (ByteArray.mk
 #[(48 : UInt8), (48 : UInt8), (48 : UInt8), (48 : UInt8), (48 : UInt8), (48 : UInt8)])).snd =
 (0 : Int) →
 ¬(applyP (2 : Int)
 (ByteArray.mk
 #[(48 : UInt8), (48 : UInt8), (48 : UInt8), (48 : UInt8), (48 : UInt8), (48 : UInt8)])).snd =
 (0 : Int) ∧
 ¬(applyP (2 : Int)
 (ByteArray.mk
 #[(48 : UInt8), (48 : UInt8), (48 : UInt8), (48 : UInt8), (48 : UInt8), (48 : UInt8)])).snd =
 (0 : Int) ∧
 ¬(applyP (2 : Int)
 (ByteArray.mk
 #[(48 : UInt8), (48 : UInt8), (48 : UInt8), (48 : UInt8), (48 : UInt8), (48 : UInt8)])).snd =
 (0 : Int) ∧
 false = true)) ∧
 (decide
 ((applyP (2 : Int)
 (ByteArray.mk #[(48 : UInt8), (48 : UInt8), (48 : UInt8), (48 : UInt8), (48 : UInt8), (48 : UInt8)])).fst =
 [(0 : Int), (1 : Int), (2 : Int), (3 : Int)]) =
 false →
 decide
 ((applyP (2 : Int)
 (ByteArray.mk #[(48 : UInt8), (48 : UInt8), (48 : UInt8), (48 : UInt8), (48 : UInt8), (48 : UInt8)])).fst =
 [(0 : Int), (1 : Int), (2 : Int), (3 : Int)]) =
 false ∧
 decide
 ((applyP (2 : Int)
 (ByteArray.mk #[(48 : UInt8), (48 : UInt8), (48 : UInt8), (48 : UInt8), (48 : UInt8), (48 : UInt8)])).fst =
 [(0 : Int), (1 : Int), (2 : Int), (3 : Int)]) =
 false ∧
 decide
 ((applyP (2 : Int)
 (ByteArray.mk
 #[(48 : UInt8), (48 : UInt8), (48 : UInt8), (48 : UInt8), (48 : UInt8), (48 : UInt8)])).fst =
 [(0 : Int), (1 : Int), (2 : Int), (3 : Int)]) =
 false ∧
 false = true)) ∧
 (¬(strictF (2 : Int) (2 : Int) (2 : Int)).snd = (0 : Int) →
 ¬(strictF (2 : Int) (2 : Int) (2 : Int)).snd = (0 : Int) ∧
 ¬(strictF (2 : Int) (2 : Int) (2 : Int)).snd = (0 : Int) ∧
 ¬(strictF (2 : Int) (2 : Int) (2 : Int)).snd = (0 : Int) ∧ false = true)) ∧
 ((!(strictF (2 : Int) (2 : Int) (2 : Int)).fst) = false →
 (!(strictF (2 : Int) (2 : Int) (2 : Int)).fst) = false ∧
 (!(strictF (2 : Int) (2 : Int) (2 : Int)).fst) = false ∧ (!(strictF (2 : Int) (2 : Int) (2 : Int)).fst) = false ∧ false = true)) ∧
 (¬(routeF (2 : Int) (2 : Int) (2 : Int) [(2 : Int), (0 : Int), (1 : Int), (3 : Int)]).snd = (0 : Int) →
 ¬(routeF (2 : Int) (2 : Int) (2 : Int) [(2 : Int), (0 : Int), (1 : Int), (3 : Int)]).snd = (0 : Int) ∧
 ¬(routeF (2 : Int) (2 : Int) (2 : Int) [(2 : Int), (0 : Int), (1 : Int), (3 : Int)]).snd = (0 : Int) ∧
 ¬(routeF (2 : Int) (2 : Int) (2 : Int) [(2 : Int), (0 : Int), (1 : Int), (3 : Int)]).snd = (0 : Int) ∧ false = true)) ∧
 (decide ((routeF (2 : Int) (2 : Int) (2 : Int) [(2 : Int), (0 : Int), (1 : Int), (3 : Int)]).fst = [(0 : Int), (1 : Int), (0 : Int), (1 : Int)]) = false →
 decide ((routeF (2 : Int) (2 : Int) (2 : Int) [(2 : Int), (0 : Int), (1 : Int), (3 : Int)]).fst = [(0 : Int), (1 : Int), (0 : Int), (1 : Int)]) = false ∧
 decide ((routeF (2 : Int) (2 : Int) (2 : Int) [(2 : Int), (0 : Int), (1 : Int), (3 : Int)]).fst = [(0 : Int), (1 : Int), (0 : Int), (1 : Int)]) = false ∧
 false = true)) := by
 kernel_rfl

theorem g17_eq (l : List Int) : g17 l = (
 ((0 : Int) ≤ (↑(0 : Nat) : Int) ∧ (↑(0 : Nat) : Int) ≤ min (↑l.length : Int) (13 : Int) ∧ min (↑l.length : Int) (13 : Int) ≤ (↑l.length : Int)) ∧
 True ∧
 Small ((0 : Nat) + (List.drop (↑(0 : Nat) : Int).toNat (List.take (min (↑l.length : Int) (13 : Int)).toNat l)).length) ∧
 List.drop (↑(0 : Nat) : Int).toNat (List.take (min (↑l.length : Int) (13 : Int)).toNat l) = List.take (13 : Nat) l) := by
 kernel_rfl

theorem g21_eq (a : Int) (b : Int) (c : Int) : g21 a b c = (
 (b ≤ a → b ≤ a ∧ b ≤ a ∧ decide (a ≤ c) = decide (b ≤ a ∧ a ≤ c)) ∧ (¬b ≤ a → ¬b ≤ a ∧ ¬b ≤ a ∧ false = decide (b ≤ a ∧ a ≤ c))) := by
 kernel_rfl

theorem g24_eq (n : Int) (r : Int) (m : Int) : g24 n r m = (
 True ∧
 (decide ((1 : Int) ≤ n ∧ n ≤ (12 : Int)) = true →
 decide ((1 : Int) ≤ n ∧ n ≤ (12 : Int)) = true ∧
 decide ((1 : Int) ≤ n ∧ n ≤ (12 : Int)) = true ∧
 True ∧
 (decide ((1 : Int) ≤ r ∧ r ≤ (12 : Int)) = true →
 decide ((1 : Int) ≤ r ∧ r ≤ (12 : Int)) = true ∧
 decide ((1 : Int) ≤ r ∧ r ≤ (12 : Int)) = true ∧
 decide ((1 : Int) ≤ r ∧ r ≤ (12 : Int)) = true ∧
 Fits IntKind.i64 (n * r) ∧
 (n * r ≤ (12 : Int) →
 n * r ≤ (12 : Int) ∧ n * r ≤ (12 : Int) ∧ n * r ≤ (12 : Int) ∧ True ∧ decide ((1 : Int) ≤ m ∧ m ≤ (12 : Int)) = decide (ClosP n r m)) ∧
 (¬n * r ≤ (12 : Int) → ¬n * r ≤ (12 : Int) ∧ ¬n * r ≤ (12 : Int) ∧ ¬n * r ≤ (12 : Int) ∧ false = decide (ClosP n r m))) ∧
 (decide ((1 : Int) ≤ r ∧ r ≤ (12 : Int)) = false →
 decide ((1 : Int) ≤ r ∧ r ≤ (12 : Int)) = false ∧
 decide ((1 : Int) ≤ r ∧ r ≤ (12 : Int)) = false ∧ decide ((1 : Int) ≤ r ∧ r ≤ (12 : Int)) = false ∧ false = decide (ClosP n r m))) ∧
 (decide ((1 : Int) ≤ n ∧ n ≤ (12 : Int)) = false →
 decide ((1 : Int) ≤ n ∧ n ≤ (12 : Int)) = false ∧ decide ((1 : Int) ≤ n ∧ n ≤ (12 : Int)) = false ∧ false = decide (ClosP n r m))) := by
 kernel_rfl

theorem g34_eq (l : List Int) (x : Int) : g34 l x = (
 (∃ (x0 : Nat), (x0 ≤ l.length ∧ ¬x ∈ List.take x0 l) ∧ True ∧ (0 : Int) = (↑x0 : Int) ∧ l = l ∧ x = x ∧ True) ∧
 ∀ (x_1 : Nat),
 x_1 ≤ l.length ∧ ¬x ∈ List.take x_1 l →
 ((↑x_1 : Int) < (↑l.length : Int) →
 (↑x_1 : Int) < (↑l.length : Int) ∧
 ((0 : Int) ≤ (↑x_1 : Int) ∧ (↑x_1 : Int) < (↑l.length : Int)) ∧
 (l.getD (↑x_1 : Int).toNat (0 : Int) = x → l.getD (↑x_1 : Int).toNat (0 : Int) = x ∧ true = decide (x ∈ l)) ∧
 (¬l.getD (↑x_1 : Int).toNat (0 : Int) = x →
 ¬l.getD (↑x_1 : Int).toNat (0 : Int) = x ∧
 Fits IntKind.i64 ((↑x_1 : Int) + (1 : Int)) ∧
 ∃ (x' : Nat),
 (x' ≤ l.length ∧ ¬x ∈ List.take x' l) ∧ l.length - x' < l.length - x_1 ∧ True ∧ (↑x_1 : Int) + (1 : Int) = (↑x' : Int) ∧ l = l ∧ x = x ∧ True)) ∧
 (¬(↑x_1 : Int) < (↑l.length : Int) → ¬(↑x_1 : Int) < (↑l.length : Int) ∧ false = decide (x ∈ l))) := by
 kernel_rfl

theorem g22_eq (n : Int) (l : List Int) : g22 n l = (
 (∃ (x0 : Nat), (x0 ≤ l.length ∧ (∀ (x : Int), x ∈ List.take x0 l → (0 : Int) ≤ x ∧ x < n) ∧ (List.take x0 l).Nodup) ∧ True ∧ (0 : Int) = (↑x0 : Int) ∧ n = n ∧ l = l ∧ True) ∧
 ∀ (x : Nat),
 x ≤ l.length ∧ (∀ (x_1 : Int), x_1 ∈ List.take x l → (0 : Int) ≤ x_1 ∧ x_1 < n) ∧ (List.take x l).Nodup →
 ((↑x : Int) < (↑l.length : Int) →
 (↑x : Int) < (↑l.length : Int) ∧
 ((0 : Int) ≤ (↑x : Int) ∧ (↑x : Int) < (↑l.length : Int)) ∧
 Fits IntKind.i64 (n - (1 : Int)) ∧
 True ∧
 ((!decide ((0 : Int) ≤ l.getD (↑x : Int).toNat (0 : Int) ∧ l.getD (↑x : Int).toNat (0 : Int) ≤ n - (1 : Int))) = true →
 (!decide ((0 : Int) ≤ l.getD (↑x : Int).toNat (0 : Int) ∧ l.getD (↑x : Int).toNat (0 : Int) ≤ n - (1 : Int))) = true ∧
 (!decide ((0 : Int) ≤ l.getD (↑x : Int).toNat (0 : Int) ∧ l.getD (↑x : Int).toNat (0 : Int) ≤ n - (1 : Int))) = true ∧ false = decide (PermP l n)) ∧
 ((!decide ((0 : Int) ≤ l.getD (↑x : Int).toNat (0 : Int) ∧ l.getD (↑x : Int).toNat (0 : Int) ≤ n - (1 : Int))) = false →
 (!decide ((0 : Int) ≤ l.getD (↑x : Int).toNat (0 : Int) ∧ l.getD (↑x : Int).toNat (0 : Int) ≤ n - (1 : Int))) = false ∧
 (!decide ((0 : Int) ≤ l.getD (↑x : Int).toNat (0 : Int) ∧ l.getD (↑x : Int).toNat (0 : Int) ≤ n - (1 : Int))) = false ∧
 ((0 : Int) ≤ (↑(0 : Nat) : Int) ∧ (↑(0 : Nat) : Int) ≤ (↑x : Int) ∧ (↑x : Int) ≤ (↑l.length : Int)) ∧
 True ∧
 ((0 : Int) ≤ (↑x : Int) ∧ (↑x : Int) < (↑l.length : Int)) ∧
 (List.drop (↑(0 : Nat) : Int).toNat (List.take (↑x : Int).toNat l)).length ≤ (1000 : Nat) ∧
 (decide (l.getD (↑x : Int).toNat (0 : Int) ∈ List.drop (↑(0 : Nat) : Int).toNat (List.take (↑x : Int).toNat l)) = true →
 decide (l.getD (↑x : Int).toNat (0 : Int) ∈ List.drop (↑(0 : Nat) : Int).toNat (List.take (↑x : Int).toNat l)) = true ∧
 decide (l.getD (↑x : Int).toNat (0 : Int) ∈ List.drop (↑(0 : Nat) : Int).toNat (List.take (↑x : Int).toNat l)) = true ∧
 false = decide (PermP l n)) ∧
 (decide (l.getD (↑x : Int).toNat (0 : Int) ∈ List.drop (↑(0 : Nat) : Int).toNat (List.take (↑x : Int).toNat l)) = false →
 decide (l.getD (↑x : Int).toNat (0 : Int) ∈ List.drop (↑(0 : Nat) : Int).toNat (List.take (↑x : Int).toNat l)) = false ∧
 decide (l.getD (↑x : Int).toNat (0 : Int) ∈ List.drop (↑(0 : Nat) : Int).toNat (List.take (↑x : Int).toNat l)) = false ∧
 Fits IntKind.i64 ((↑x : Int) + (1 : Int)) ∧
 ∃ (x' : Nat),
 (x' ≤ l.length ∧ (∀ (x : Int), x ∈ List.take x' l → (0 : Int) ≤ x ∧ x < n) ∧ (List.take x' l).Nodup) ∧
 l.length - x' < l.length - x ∧ True ∧ (↑x : Int) + (1 : Int) = (↑x' : Int) ∧ n = n ∧ l = l ∧ True))) ∧
 (¬(↑x : Int) < (↑l.length : Int) → ¬(↑x : Int) < (↑l.length : Int) ∧ decide ((↑l.length : Int) = n) = decide (PermP l n))) := by
 kernel_rfl

theorem g32_eq (k : Int) : g32 k = (
 (k = (1 : Int) → k = (1 : Int) ∧ (1 : Int) = switchesF k) ∧
 (¬k = (1 : Int) →
 ¬k = (1 : Int) ∧
 ((0 : Int) ≤ k ∧ k < (64 : Int)) ∧
 Fits IntKind.i64 ((1 : Int) * (2 : Int) ^ k.toNat) ∧
 Fits IntKind.i64 (k - (1 : Int)) ∧
 (((1 : Int) ≤ k - (1 : Int) ∧ k - (1 : Int) ≤ (3 : Int)) ∧ (k - (1 : Int)).toNat < k.toNat) ∧
 Fits IntKind.i64 ((2 : Int) * switchesF (k - (1 : Int))) ∧
 Fits IntKind.i64 ((1 : Int) * (2 : Int) ^ k.toNat + (2 : Int) * switchesF (k - (1 : Int))) ∧
 (1 : Int) * (2 : Int) ^ k.toNat + (2 : Int) * switchesF (k - (1 : Int)) = switchesF k)) := by
 kernel_rfl

theorem g55_eq (x : Int) (n : Int) : g55 x n = (
 (∃ (x0 : Nat), (x0 ≤ n.toNat ∧ True) ∧ True ∧ (0 : Int) = (↑x0 : Int) ∧ ByteArray.mk #[] = writ x.toNat x0 ∧ x = x ∧ n = n ∧ True) ∧
 ∀ (x_1 : Nat),
 x_1 ≤ n.toNat ∧ True →
 ((↑x_1 : Int) < n →
 (↑x_1 : Int) < n ∧
 ((0 : Int) ≤ (↑x_1 : Int) ∧ (↑x_1 : Int) < (64 : Int)) ∧
 Fits IntKind.i64 ((48 : Int) + bitsF BinOp.and IntKind.i64 (x / (2 : Int) ^ (↑x_1 : Int).toNat) (1 : Int)) ∧
 Small ((writ x.toNat x_1).size + (strOf [IntKind.u8.wrap ((48 : Int) + bitsF BinOp.and IntKind.i64 (x / (2 : Int) ^ (↑x_1 : Int).toNat) (1 : Int))]).size) ∧
 Fits IntKind.i64 ((↑x_1 : Int) + (1 : Int)) ∧
 ∃ (x' : Nat),
 (x' ≤ n.toNat ∧ True) ∧
 n.toNat - x' < n.toNat - x_1 ∧
 True ∧
 (↑x_1 : Int) + (1 : Int) = (↑x' : Int) ∧
 writ x.toNat x_1 ++ strOf [IntKind.u8.wrap ((48 : Int) + bitsF BinOp.and IntKind.i64 (x / (2 : Int) ^ (↑x_1 : Int).toNat) (1 : Int))] =
 writ x.toNat x' ∧
 x = x ∧ n = n ∧ True) ∧
 (¬(↑x_1 : Int) < n → ¬(↑x_1 : Int) < n ∧ writ x.toNat x_1 = writ x.toNat n.toNat)) := by
 kernel_rfl

theorem g23_eq (k : Int) (l : List Int) : g23 k l = (
 ((1 : Int) ≤ k ∧ k ≤ (3 : Int)) ∧
 (∃ (x0 : Nat),
 (x0 ≤ (2 : Nat) ^ swN k.toNat ∧ True) ∧ True ∧ (0 : Int) = (↑x0 : Int) ∧ (0 : Int) = (↑(waysTo k.toNat l x0) : Int) ∧ switchesF k = switchesF k ∧ k = k ∧ l = l ∧ True) ∧
 ∀ (x : Nat),
 x ≤ (2 : Nat) ^ swN k.toNat ∧ True →
 ((0 : Int) ≤ switchesF k ∧ switchesF k < (64 : Int)) ∧
 Fits IntKind.i64 ((1 : Int) * (2 : Int) ^ (switchesF k).toNat) ∧
 ((↑x : Int) < (1 : Int) * (2 : Int) ^ (switchesF k).toNat →
 (↑x : Int) < (1 : Int) * (2 : Int) ^ (switchesF k).toNat ∧
 ((0 : Int) ≤ (↑x : Int) ∧ (↑x : Int) < (64 : Int) ∧ (0 : Int) ≤ switchesF k ∧ switchesF k ≤ (6 : Int)) ∧
 (((1 : Int) ≤ k ∧ k ≤ (3 : Int)) ∧
 (writ (↑x : Int).toNat (switchesF k).toNat).size = swN k.toNat ∧
 ∀ (i : Nat),
 i < (writ (↑x : Int).toNat (switchesF k).toNat).size →
 bt (writ (↑x : Int).toNat (switchesF k).toNat) i = (48 : Int) ∨ bt (writ (↑x : Int).toNat (switchesF k).toNat) i = (49 : Int)) ∧
 ((applyF k.toNat (writ (↑x : Int).toNat (switchesF k).toNat)).length ≤ (1000 : Nat) ∧ l.length ≤ (1000 : Nat)) ∧
 (decide (applyF k.toNat (writ (↑x : Int).toNat (switchesF k).toNat) = l) = true →
 decide (applyF k.toNat (writ (↑x : Int).toNat (switchesF k).toNat) = l) = true ∧
 Fits IntKind.i64 ((↑(waysTo k.toNat l x) : Int) + (1 : Int)) ∧
 Fits IntKind.i64 ((↑x : Int) + (1 : Int)) ∧
 ∃ (x' : Nat),
 (x' ≤ (2 : Nat) ^ swN k.toNat ∧ True) ∧
 (2 : Nat) ^ swN k.toNat - x' < (2 : Nat) ^ swN k.toNat - x ∧
 True ∧
 (↑x : Int) + (1 : Int) = (↑x' : Int) ∧
 (↑(waysTo k.toNat l x) : Int) + (1 : Int) = (↑(waysTo k.toNat l x') : Int) ∧ switchesF k = switchesF k ∧ k = k ∧ l = l ∧ True) ∧
 (decide (applyF k.toNat (writ (↑x : Int).toNat (switchesF k).toNat) = l) = false →
 decide (applyF k.toNat (writ (↑x : Int).toNat (switchesF k).toNat) = l) = false ∧
 Fits IntKind.i64 ((↑x : Int) + (1 : Int)) ∧
 ∃ (x' : Nat),
 (x' ≤ (2 : Nat) ^ swN k.toNat ∧ True) ∧
 (2 : Nat) ^ swN k.toNat - x' < (2 : Nat) ^ swN k.toNat - x ∧
 True ∧
 (↑x : Int) + (1 : Int) = (↑x' : Int) ∧
 (↑(waysTo k.toNat l x) : Int) = (↑(waysTo k.toNat l x') : Int) ∧ switchesF k = switchesF k ∧ k = k ∧ l = l ∧ True)) ∧
 (¬(↑x : Int) < (1 : Int) * (2 : Int) ^ (switchesF k).toNat →
 ¬(↑x : Int) < (1 : Int) * (2 : Int) ^ (switchesF k).toNat ∧ (↑(waysTo k.toNat l x) : Int) = (↑(waysTo k.toNat l ((2 : Nat) ^ swN k.toNat)) : Int))) := by
 kernel_rfl

end Go.SX.Pa
