/- Printed by VC.lean: what the executor asks. -/
import Derived.Test.YtfbgbdiajghnbaaDoorPa10
namespace Go.SX.Pa
open Go Go.Proofs
theorem g35_eq (es : List Ed) (l : List Int) : g35 es l = (
 (∃ (x0 : Nat), (x0 ≤ l.length ∧ ∀ (a : Nat), a < x0 → clashF es l a = false) ∧ True ∧ (0 : Int) = (↑x0 : Int) ∧ es = es ∧ l = l ∧ True) ∧
 ∀ (x : Nat),
 (x ≤ l.length ∧ ∀ (a : Nat), a < x → clashF es l a = false) →
 ((↑x : Int) < (↑l.length : Int) →
 (↑x : Int) < (↑l.length : Int) ∧
 (∃ (x0 : Nat),
 (x0 ≤ (↑x : Int).toNat ∧ ∀ (b : Nat), b < x0 → touch es l (↑x : Int).toNat b = false) ∧
 True ∧ (0 : Int) = (↑x0 : Int) ∧ (↑x : Int) = (↑x : Int) ∧ es = es ∧ l = l ∧ True) ∧
 ∀ (x_1 : Nat),
 (x_1 ≤ (↑x : Int).toNat ∧ ∀ (b : Nat), b < x_1 → touch es l (↑x : Int).toNat b = false) →
 ((↑x_1 : Int) < (↑x : Int) →
 (↑x_1 : Int) < (↑x : Int) ∧
 ((0 : Int) ≤ (↑x : Int) ∧ (↑x : Int) < (↑l.length : Int)) ∧
 ((0 : Int) ≤ (↑x_1 : Int) ∧ (↑x_1 : Int) < (↑l.length : Int)) ∧
 (l.getD (↑x : Int).toNat (0 : Int) = l.getD (↑x_1 : Int).toNat (0 : Int) →
 l.getD (↑x : Int).toNat (0 : Int) = l.getD (↑x_1 : Int).toNat (0 : Int) ∧
 l.getD (↑x : Int).toNat (0 : Int) = l.getD (↑x_1 : Int).toNat (0 : Int) ∧
 ((0 : Int) ≤ (↑x : Int) ∧ (↑x : Int) < (↑es.length : Int)) ∧
 ((0 : Int) ≤ (↑x_1 : Int) ∧ (↑x_1 : Int) < (↑es.length : Int)) ∧
 ((es.getD (↑x : Int).toNat ((0 : Int), (0 : Int))).fst = (es.getD (↑x_1 : Int).toNat ((0 : Int), (0 : Int))).fst →
 (es.getD (↑x : Int).toNat ((0 : Int), (0 : Int))).fst = (es.getD (↑x_1 : Int).toNat ((0 : Int), (0 : Int))).fst ∧
 (es.getD (↑x : Int).toNat ((0 : Int), (0 : Int))).fst = (es.getD (↑x_1 : Int).toNat ((0 : Int), (0 : Int))).fst ∧
 false = properF es l) ∧
 (¬(es.getD (↑x : Int).toNat ((0 : Int), (0 : Int))).fst = (es.getD (↑x_1 : Int).toNat ((0 : Int), (0 : Int))).fst →
 ¬(es.getD (↑x : Int).toNat ((0 : Int), (0 : Int))).fst = (es.getD (↑x_1 : Int).toNat ((0 : Int), (0 : Int))).fst ∧
 ¬(es.getD (↑x : Int).toNat ((0 : Int), (0 : Int))).fst = (es.getD (↑x_1 : Int).toNat ((0 : Int), (0 : Int))).fst ∧
 ((0 : Int) ≤ (↑x : Int) ∧ (↑x : Int) < (↑es.length : Int)) ∧
 ((0 : Int) ≤ (↑x_1 : Int) ∧ (↑x_1 : Int) < (↑es.length : Int)) ∧
 ((es.getD (↑x : Int).toNat ((0 : Int), (0 : Int))).snd = (es.getD (↑x_1 : Int).toNat ((0 : Int), (0 : Int))).snd →
 (es.getD (↑x : Int).toNat ((0 : Int), (0 : Int))).snd = (es.getD (↑x_1 : Int).toNat ((0 : Int), (0 : Int))).snd ∧
 (es.getD (↑x : Int).toNat ((0 : Int), (0 : Int))).snd = (es.getD (↑x_1 : Int).toNat ((0 : Int), (0 : Int))).snd ∧
 (es.getD (↑x : Int).toNat ((0 : Int), (0 : Int))).snd = (es.getD (↑x_1 : Int).toNat ((0 : Int), (0 : Int))).snd ∧
 false = properF es l) ∧
 (¬(es.getD (↑x : Int).toNat ((0 : Int), (0 : Int))).snd = (es.getD (↑x_1 : Int).toNat ((0 : Int), (0 : Int))).snd →
 ¬(es.getD (↑x : Int).toNat ((0 : Int), (0 : Int))).snd = (es.getD (↑x_1 : Int).toNat ((0 : Int), (0 : Int))).snd ∧
 ¬(es.getD (↑x : Int).toNat ((0 : Int), (0 : Int))).snd = (es.getD (↑x_1 : Int).toNat ((0 : Int), (0 : Int))).snd ∧
 ¬(es.getD (↑x : Int).toNat ((0 : Int), (0 : Int))).snd = (es.getD (↑x_1 : Int).toNat ((0 : Int), (0 : Int))).snd ∧
 Fits IntKind.i64 ((↑x_1 : Int) + (1 : Int)) ∧
 ∃ (x' : Nat),
 (x' ≤ (↑x : Int).toNat ∧ ∀ (b : Nat), b < x' → touch es l (↑x : Int).toNat b = false) ∧
 (↑x : Int).toNat - x' < (↑x : Int).toNat - x_1 ∧
 True ∧ (↑x_1 : Int) + (1 : Int) = (↑x' : Int) ∧ (↑x : Int) = (↑x : Int) ∧ es = es ∧ l = l ∧ True))) ∧
 (¬l.getD (↑x : Int).toNat (0 : Int) = l.getD (↑x_1 : Int).toNat (0 : Int) →
 ¬l.getD (↑x : Int).toNat (0 : Int) = l.getD (↑x_1 : Int).toNat (0 : Int) ∧
 ¬l.getD (↑x : Int).toNat (0 : Int) = l.getD (↑x_1 : Int).toNat (0 : Int) ∧
 Fits IntKind.i64 ((↑x_1 : Int) + (1 : Int)) ∧
 ∃ (x' : Nat),
 (x' ≤ (↑x : Int).toNat ∧ ∀ (b : Nat), b < x' → touch es l (↑x : Int).toNat b = false) ∧
 (↑x : Int).toNat - x' < (↑x : Int).toNat - x_1 ∧
 True ∧ (↑x_1 : Int) + (1 : Int) = (↑x' : Int) ∧ (↑x : Int) = (↑x : Int) ∧ es = es ∧ l = l ∧ True)) ∧
 (¬(↑x_1 : Int) < (↑x : Int) →
 ¬(↑x_1 : Int) < (↑x : Int) ∧
 Fits IntKind.i64 ((↑x : Int) + (1 : Int)) ∧
 ∃ (x' : Nat),
 (x' ≤ l.length ∧ ∀ (a : Nat), a < x' → clashF es l a = false) ∧
 l.length - x' < l.length - x ∧ True ∧ (↑x : Int) + (1 : Int) = (↑x' : Int) ∧ es = es ∧ l = l ∧ True)) ∧
 (¬(↑x : Int) < (↑l.length : Int) → ¬(↑x : Int) < (↑l.length : Int) ∧ true = properF es l)) := by
 kernel_rfl

theorem g30_eq (es : List Ed) : g30 es = (
 (∃ (x0 : Nat), (x0 ≤ (6 : Nat) ∧ True) ∧ True ∧ (0 : Int) = (↑x0 : Int) ∧ (0 : Int) = degR es x0 ∧ es = es ∧ True) ∧
 ∀ (x : Nat),
 x ≤ (6 : Nat) ∧ True →
 ((↑x : Int) < (6 : Int) →
 (↑x : Int) < (6 : Int) ∧
 (∃ (x0 : Nat),
 (x0 ≤ es.length ∧ True) ∧
 True ∧
 (0 : Int) = (↑x0 : Int) ∧
 (0 : Int) = cntA (List.take x0 es) (↑x : Int).toNat ∧
 (0 : Int) = cntB (List.take x0 es) (↑x : Int).toNat ∧ (↑x : Int) = (↑x : Int) ∧ degR es x = degR es x ∧ es = es ∧ True) ∧
 ∀ (x_1 : Nat),
 x_1 ≤ es.length ∧ True →
 ((↑x_1 : Int) < (↑es.length : Int) →
 (↑x_1 : Int) < (↑es.length : Int) ∧
 ((0 : Int) ≤ (↑x_1 : Int) ∧ (↑x_1 : Int) < (↑es.length : Int)) ∧
 ((es.getD (↑x_1 : Int).toNat ((0 : Int), (0 : Int))).fst = (↑x : Int) →
 (es.getD (↑x_1 : Int).toNat ((0 : Int), (0 : Int))).fst = (↑x : Int) ∧
 Fits IntKind.i64 (cntA (List.take x_1 es) (↑x : Int).toNat + (1 : Int)) ∧
 ((0 : Int) ≤ (↑x_1 : Int) ∧ (↑x_1 : Int) < (↑es.length : Int)) ∧
 ((es.getD (↑x_1 : Int).toNat ((0 : Int), (0 : Int))).snd = (↑x : Int) →
 (es.getD (↑x_1 : Int).toNat ((0 : Int), (0 : Int))).snd = (↑x : Int) ∧
 Fits IntKind.i64 (cntB (List.take x_1 es) (↑x : Int).toNat + (1 : Int)) ∧
 Fits IntKind.i64 ((↑x_1 : Int) + (1 : Int)) ∧
 ∃ (x' : Nat),
 (x' ≤ es.length ∧ True) ∧
 es.length - x' < es.length - x_1 ∧
 True ∧
 (↑x_1 : Int) + (1 : Int) = (↑x' : Int) ∧
 cntA (List.take x_1 es) (↑x : Int).toNat + (1 : Int) = cntA (List.take x' es) (↑x : Int).toNat ∧
 cntB (List.take x_1 es) (↑x : Int).toNat + (1 : Int) = cntB (List.take x' es) (↑x : Int).toNat ∧
 (↑x : Int) = (↑x : Int) ∧ degR es x = degR es x ∧ es = es ∧ True) ∧
 (¬(es.getD (↑x_1 : Int).toNat ((0 : Int), (0 : Int))).snd = (↑x : Int) →
 ¬(es.getD (↑x_1 : Int).toNat ((0 : Int), (0 : Int))).snd = (↑x : Int) ∧
 Fits IntKind.i64 ((↑x_1 : Int) + (1 : Int)) ∧
 ∃ (x' : Nat),
 (x' ≤ es.length ∧ True) ∧
 es.length - x' < es.length - x_1 ∧
 True ∧
 (↑x_1 : Int) + (1 : Int) = (↑x' : Int) ∧
 cntA (List.take x_1 es) (↑x : Int).toNat + (1 : Int) = cntA (List.take x' es) (↑x : Int).toNat ∧
 cntB (List.take x_1 es) (↑x : Int).toNat = cntB (List.take x' es) (↑x : Int).toNat ∧
 (↑x : Int) = (↑x : Int) ∧ degR es x = degR es x ∧ es = es ∧ True)) ∧
 (¬(es.getD (↑x_1 : Int).toNat ((0 : Int), (0 : Int))).fst = (↑x : Int) →
 ¬(es.getD (↑x_1 : Int).toNat ((0 : Int), (0 : Int))).fst = (↑x : Int) ∧
 ((0 : Int) ≤ (↑x_1 : Int) ∧ (↑x_1 : Int) < (↑es.length : Int)) ∧
 ((es.getD (↑x_1 : Int).toNat ((0 : Int), (0 : Int))).snd = (↑x : Int) →
 (es.getD (↑x_1 : Int).toNat ((0 : Int), (0 : Int))).snd = (↑x : Int) ∧
 Fits IntKind.i64 (cntB (List.take x_1 es) (↑x : Int).toNat + (1 : Int)) ∧
 Fits IntKind.i64 ((↑x_1 : Int) + (1 : Int)) ∧
 ∃ (x' : Nat),
 (x' ≤ es.length ∧ True) ∧
 es.length - x' < es.length - x_1 ∧
 True ∧
 (↑x_1 : Int) + (1 : Int) = (↑x' : Int) ∧
 cntA (List.take x_1 es) (↑x : Int).toNat = cntA (List.take x' es) (↑x : Int).toNat ∧
 cntB (List.take x_1 es) (↑x : Int).toNat + (1 : Int) = cntB (List.take x' es) (↑x : Int).toNat ∧
 (↑x : Int) = (↑x : Int) ∧ degR es x = degR es x ∧ es = es ∧ True) ∧
 (¬(es.getD (↑x_1 : Int).toNat ((0 : Int), (0 : Int))).snd = (↑x : Int) →
 ¬(es.getD (↑x_1 : Int).toNat ((0 : Int), (0 : Int))).snd = (↑x : Int) ∧
 Fits IntKind.i64 ((↑x_1 : Int) + (1 : Int)) ∧
 ∃ (x' : Nat),
 (x' ≤ es.length ∧ True) ∧
 es.length - x' < es.length - x_1 ∧
 True ∧
 (↑x_1 : Int) + (1 : Int) = (↑x' : Int) ∧
 cntA (List.take x_1 es) (↑x : Int).toNat = cntA (List.take x' es) (↑x : Int).toNat ∧
 cntB (List.take x_1 es) (↑x : Int).toNat = cntB (List.take x' es) (↑x : Int).toNat ∧
 (↑x : Int) = (↑x : Int) ∧ degR es x = degR es x ∧ es = es ∧ True))) ∧
 (¬(↑x_1 : Int) < (↑es.length : Int) →
 ¬(↑x_1 : Int) < (↑es.length : Int) ∧
 Fits IntKind.i64 ((↑x : Int) + (1 : Int)) ∧
 ∃ (x' : Nat),
 (x' ≤ (6 : Nat) ∧ True) ∧
 (6 : Nat) - x' < (6 : Nat) - x ∧
 True ∧
 (↑x : Int) + (1 : Int) = (↑x' : Int) ∧
 max (max (degR es x) (cntA (List.take x_1 es) (↑x : Int).toNat)) (cntB (List.take x_1 es) (↑x : Int).toNat) = degR es x' ∧ es = es ∧ True)) ∧
 (¬(↑x : Int) < (6 : Int) → ¬(↑x : Int) < (6 : Int) ∧ degR es x = degR es (6 : Nat))) := by
 kernel_rfl

theorem g27_eq (a : Int) (c : Int) (es : List Ed) : g27 a c es = (
 ((12 : Int) < (↑es.length : Int) → (12 : Int) < (↑es.length : Int) ∧ (3 : Int) = graphF a c es) ∧
 (¬(12 : Int) < (↑es.length : Int) →
 ¬(12 : Int) < (↑es.length : Int) ∧
 True ∧
 ((!decide ((1 : Int) ≤ a ∧ a ≤ (6 : Int))) = true →
 (!decide ((1 : Int) ≤ a ∧ a ≤ (6 : Int))) = true ∧ (!decide ((1 : Int) ≤ a ∧ a ≤ (6 : Int))) = true ∧ (1 : Int) = graphF a c es) ∧
 ((!decide ((1 : Int) ≤ a ∧ a ≤ (6 : Int))) = false →
 (!decide ((1 : Int) ≤ a ∧ a ≤ (6 : Int))) = false ∧
 (!decide ((1 : Int) ≤ a ∧ a ≤ (6 : Int))) = false ∧
 True ∧
 ((!decide ((1 : Int) ≤ c ∧ c ≤ (6 : Int))) = true →
 (!decide ((1 : Int) ≤ c ∧ c ≤ (6 : Int))) = true ∧ (!decide ((1 : Int) ≤ c ∧ c ≤ (6 : Int))) = true ∧ (1 : Int) = graphF a c es) ∧
 ((!decide ((1 : Int) ≤ c ∧ c ≤ (6 : Int))) = false →
 (!decide ((1 : Int) ≤ c ∧ c ≤ (6 : Int))) = false ∧
 (!decide ((1 : Int) ≤ c ∧ c ≤ (6 : Int))) = false ∧
 (∃ (x0 : Nat), (x0 ≤ es.length ∧ (List.take x0 es).any (badEd a c) = false) ∧ True ∧ (0 : Int) = (↑x0 : Int) ∧ a = a ∧ c = c ∧ es = es ∧ True) ∧
 ∀ (x : Nat),
 x ≤ es.length ∧ (List.take x es).any (badEd a c) = false →
 ((↑x : Int) < (↑es.length : Int) →
 (↑x : Int) < (↑es.length : Int) ∧
 ((0 : Int) ≤ (↑x : Int) ∧ (↑x : Int) < (↑es.length : Int)) ∧
 Fits IntKind.i64 (a - (1 : Int)) ∧
 True ∧
 ((!decide
 ((0 : Int) ≤ (es.getD (↑x : Int).toNat ((0 : Int), (0 : Int))).fst ∧
 (es.getD (↑x : Int).toNat ((0 : Int), (0 : Int))).fst ≤ a - (1 : Int))) =
 true →
 (!decide
 ((0 : Int) ≤ (es.getD (↑x : Int).toNat ((0 : Int), (0 : Int))).fst ∧
 (es.getD (↑x : Int).toNat ((0 : Int), (0 : Int))).fst ≤ a - (1 : Int))) =
 true ∧
 (!decide
 ((0 : Int) ≤ (es.getD (↑x : Int).toNat ((0 : Int), (0 : Int))).fst ∧
 (es.getD (↑x : Int).toNat ((0 : Int), (0 : Int))).fst ≤ a - (1 : Int))) =
 true ∧
 (1 : Int) = graphF a c es) ∧
 ((!decide
 ((0 : Int) ≤ (es.getD (↑x : Int).toNat ((0 : Int), (0 : Int))).fst ∧
 (es.getD (↑x : Int).toNat ((0 : Int), (0 : Int))).fst ≤ a - (1 : Int))) =
 false →
 (!decide
 ((0 : Int) ≤ (es.getD (↑x : Int).toNat ((0 : Int), (0 : Int))).fst ∧
 (es.getD (↑x : Int).toNat ((0 : Int), (0 : Int))).fst ≤ a - (1 : Int))) =
 false ∧
 (!decide
 ((0 : Int) ≤ (es.getD (↑x : Int).toNat ((0 : Int), (0 : Int))).fst ∧
 (es.getD (↑x : Int).toNat ((0 : Int), (0 : Int))).fst ≤ a - (1 : Int))) =
 false ∧
 ((0 : Int) ≤ (↑x : Int) ∧ (↑x : Int) < (↑es.length : Int)) ∧
 Fits IntKind.i64 (c - (1 : Int)) ∧
 True ∧
 ((!decide
 ((0 : Int) ≤ (es.getD (↑x : Int).toNat ((0 : Int), (0 : Int))).snd ∧
 (es.getD (↑x : Int).toNat ((0 : Int), (0 : Int))).snd ≤ c - (1 : Int))) =
 true →
 (!decide
 ((0 : Int) ≤ (es.getD (↑x : Int).toNat ((0 : Int), (0 : Int))).snd ∧
 (es.getD (↑x : Int).toNat ((0 : Int), (0 : Int))).snd ≤ c - (1 : Int))) =
 true ∧
 (!decide
 ((0 : Int) ≤ (es.getD (↑x : Int).toNat ((0 : Int), (0 : Int))).snd ∧
 (es.getD (↑x : Int).toNat ((0 : Int), (0 : Int))).snd ≤ c - (1 : Int))) =
 true ∧
 (1 : Int) = graphF a c es) ∧
 ((!decide
 ((0 : Int) ≤ (es.getD (↑x : Int).toNat ((0 : Int), (0 : Int))).snd ∧
 (es.getD (↑x : Int).toNat ((0 : Int), (0 : Int))).snd ≤ c - (1 : Int))) =
 false →
 (!decide
 ((0 : Int) ≤ (es.getD (↑x : Int).toNat ((0 : Int), (0 : Int))).snd ∧
 (es.getD (↑x : Int).toNat ((0 : Int), (0 : Int))).snd ≤ c - (1 : Int))) =
 false ∧
 (!decide
 ((0 : Int) ≤ (es.getD (↑x : Int).toNat ((0 : Int), (0 : Int))).snd ∧
 (es.getD (↑x : Int).toNat ((0 : Int), (0 : Int))).snd ≤ c - (1 : Int))) =
 false ∧
 Fits IntKind.i64 ((↑x : Int) + (1 : Int)) ∧
 ∃ (x' : Nat),
 (x' ≤ es.length ∧ (List.take x' es).any (badEd a c) = false) ∧
 es.length - x' < es.length - x ∧
 True ∧ (↑x : Int) + (1 : Int) = (↑x' : Int) ∧ a = a ∧ c = c ∧ es = es ∧ True))) ∧
 (¬(↑x : Int) < (↑es.length : Int) → ¬(↑x : Int) < (↑es.length : Int) ∧ (0 : Int) = graphF a c es))))) := by
 kernel_rfl

theorem g29_eq (es : List Ed) (m : Int) (l : List Int) : g29 es m l = (
 (es.length ≤ (1000 : Nat) ∧ l.length ≤ es.length) ∧
 ((!properF es l) = true → (!properF es l) = true ∧ refC es m l = none) ∧
 ((!properF es l) = false →
 (!properF es l) = false ∧
 ((↑l.length : Int) = (↑es.length : Int) → (↑l.length : Int) = (↑es.length : Int) ∧ refC es m l = some l) ∧
 (¬(↑l.length : Int) = (↑es.length : Int) →
 ¬(↑l.length : Int) = (↑es.length : Int) ∧
 (∃ (x0 : Nat), ((↑x0 : Int) ≤ m ∧ ∀ (c : Nat), c < x0 → refC es m (l ++ [(↑c : Int)]) = none) ∧ True ∧ (0 : Int) = (↑x0 : Int) ∧ es = es ∧ m = m ∧ l = l ∧ True) ∧
 ∀ (x : Nat),
 ((↑x : Int) ≤ m ∧ ∀ (c : Nat), c < x → refC es m (l ++ [(↑c : Int)]) = none) →
 ((↑x : Int) < m →
 (↑x : Int) < m ∧
 Small ((0 : Nat) + l.length) ∧
 Small (l.length + ((0 : Nat) + (1 : Nat))) ∧
 (((es.length ≤ (1000 : Nat) ∧ (l ++ [(↑x : Int)]).length ≤ es.length) ∧ (0 : Int) ≤ m ∧ m ≤ (1000 : Int)) ∧
 m29 (es, m, l ++ [(↑x : Int)]) < m29 (es, m, l)) ∧
 (refC es m (l ++ [(↑x : Int)]) = none →
 Fits IntKind.i64 ((↑x : Int) + (1 : Int)) ∧
 ∃ (x' : Nat),
 ((↑x' : Int) ≤ m ∧ ∀ (c : Nat), c < x' → refC es m (l ++ [(↑c : Int)]) = none) ∧
 m.toNat - x' < m.toNat - x ∧ True ∧ (↑x : Int) + (1 : Int) = (↑x' : Int) ∧ es = es ∧ m = m ∧ l = l ∧ True) ∧
 ∀ (ys : List Int), refC es m (l ++ [(↑x : Int)]) = some ys → ys ≠ [] ∧ refC es m l = some ys) ∧
 (¬(↑x : Int) < m → ¬(↑x : Int) < m ∧ refC es m l = none)))) := by
 kernel_rfl

end Go.SX.Pa
