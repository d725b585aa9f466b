/- Printed by VC.lean: what the executor asks. -/
import Derived.Test.YtmbbalghofbnbaaS8
namespace Go.SX.Sh
open Go Go.Proofs
theorem g68_eq (xs : List Int) (a : Int) (b : Int) (n : Int) : g68 xs a b n = (
 (∃ (x0 : Nat), x0 ≤ n.toNat ∧ (xs = swapR xs a.toNat b.toNat x0 ∧ True) ∧ (0 : Int) = (↑x0 : Int) ∧ True ∧ a = a ∧ b = b ∧ n = n ∧ True) ∧
 ∀ (x : Nat),
 x ≤ n.toNat →
 ((↑x : Int) < n →
 (↑x : Int) < n ∧
 Fits IntKind.i64 (a + (↑x : Int)) ∧
 Fits IntKind.i64 (b + (↑x : Int)) ∧
 Fits IntKind.i64 (b + (↑x : Int)) ∧
 ((0 : Int) ≤ b + (↑x : Int) ∧ b + (↑x : Int) < (↑(swapR xs a.toNat b.toNat x).length : Int)) ∧
 Fits IntKind.i64 (a + (↑x : Int)) ∧
 ((0 : Int) ≤ a + (↑x : Int) ∧ a + (↑x : Int) < (↑(swapR xs a.toNat b.toNat x).length : Int)) ∧
 ((0 : Int) ≤ a + (↑x : Int) ∧ a + (↑x : Int) < (↑(swapR xs a.toNat b.toNat x).length : Int)) ∧
 ((0 : Int) ≤ b + (↑x : Int) ∧
 b + (↑x : Int) <
 (↑((swapR xs a.toNat b.toNat x).set (a + (↑x : Int)).toNat ((swapR xs a.toNat b.toNat x).getD (b + (↑x : Int)).toNat (0 : Int))).length : Int)) ∧
 Fits IntKind.i64 ((↑x : Int) + (1 : Int)) ∧
 ∃ (x' : Nat),
 x' ≤ n.toNat ∧
 n.toNat - x' < n.toNat - x ∧
 (((swapR xs a.toNat b.toNat x).set (a + (↑x : Int)).toNat ((swapR xs a.toNat b.toNat x).getD (b + (↑x : Int)).toNat (0 : Int))).set
 (b + (↑x : Int)).toNat ((swapR xs a.toNat b.toNat x).getD (a + (↑x : Int)).toNat (0 : Int)) =
 swapR xs a.toNat b.toNat x' ∧
 True) ∧
 (↑x : Int) + (1 : Int) = (↑x' : Int) ∧ True ∧ a = a ∧ b = b ∧ n = n ∧ True) ∧
 (¬(↑x : Int) < n → ¬(↑x : Int) < n ∧ True ∧ swapR xs a.toNat b.toNat x = swapR xs a.toNat b.toNat n.toNat ∧ True)) := by
 kernel_rfl

theorem g67_eq (xs : List Int) (a : Int) (m : Int) (b : Int) : g67 xs a m b = (
 Fits IntKind.i64 (m - a) ∧
 Fits IntKind.i64 (b - m) ∧
 (∃ (x0 : Nat × Nat × List Int),
 (((0 : Nat) < x0.fst ∧ (0 : Nat) < x0.snd.fst ∧ x0.fst ≤ m.toNat - a.toNat ∧ x0.snd.fst ≤ b.toNat - m.toNat) ∧
 x0.snd.snd.length = xs.length ∧ rotF x0.snd.snd (m.toNat - x0.fst) m.toNat (m.toNat + x0.snd.fst) = rotF xs a.toNat m.toNat b.toNat) ∧
 (xs = x0.snd.snd ∧ True) ∧ m - a = (↑x0.fst : Int) ∧ b - m = (↑x0.snd.fst : Int) ∧ True ∧ a = a ∧ m = m ∧ b = b ∧ True ∧ True) ∧
 ∀ (x : Nat × Nat × List Int),
 ((0 : Nat) < x.fst ∧ (0 : Nat) < x.snd.fst ∧ x.fst ≤ m.toNat - a.toNat ∧ x.snd.fst ≤ b.toNat - m.toNat) ∧
 x.snd.snd.length = xs.length ∧ rotF x.snd.snd (m.toNat - x.fst) m.toNat (m.toNat + x.snd.fst) = rotF xs a.toNat m.toNat b.toNat →
 (¬(↑x.fst : Int) = (↑x.snd.fst : Int) →
 ¬(↑x.fst : Int) = (↑x.snd.fst : Int) ∧
 ((↑x.snd.fst : Int) < (↑x.fst : Int) →
 (↑x.snd.fst : Int) < (↑x.fst : Int) ∧
 Fits IntKind.i64 (m - (↑x.fst : Int)) ∧
 True ∧
 (x.snd.snd = x.snd.snd ∧ True) ∧
 (True ∧ m - (↑x.fst : Int) = m - (↑x.fst : Int) ∧ m = m ∧ (↑x.snd.fst : Int) = (↑x.snd.fst : Int) ∧ True ∧ True) ∧
 (((0 : Int) ≤ m - (↑x.fst : Int) ∧ (0 : Int) ≤ (↑x.snd.fst : Int) ∧ m - (↑x.fst : Int) + (↑x.snd.fst : Int) ≤ m) ∧
 m + (↑x.snd.fst : Int) ≤ (↑x.snd.snd.length : Int) ∧ x.snd.snd.length ≤ (1000 : Nat)) ∧
 Fits IntKind.i64 ((↑x.fst : Int) - (↑x.snd.fst : Int)) ∧
 ∃ (x' : Nat × Nat × List Int),
 (((0 : Nat) < x'.fst ∧ (0 : Nat) < x'.snd.fst ∧ x'.fst ≤ m.toNat - a.toNat ∧ x'.snd.fst ≤ b.toNat - m.toNat) ∧
 x'.snd.snd.length = xs.length ∧ rotF x'.snd.snd (m.toNat - x'.fst) m.toNat (m.toNat + x'.snd.fst) = rotF xs a.toNat m.toNat b.toNat) ∧
 x'.fst + x'.snd.fst < x.fst + x.snd.fst ∧
 (swapR x.snd.snd (m - (↑x.fst : Int)).toNat m.toNat (↑x.snd.fst : Int).toNat = x'.snd.snd ∧ True) ∧
 (↑x.fst : Int) - (↑x.snd.fst : Int) = (↑x'.fst : Int) ∧
 (↑x.snd.fst : Int) = (↑x'.snd.fst : Int) ∧ True ∧ a = a ∧ m = m ∧ b = b ∧ True ∧ True) ∧
 (¬(↑x.snd.fst : Int) < (↑x.fst : Int) →
 ¬(↑x.snd.fst : Int) < (↑x.fst : Int) ∧
 Fits IntKind.i64 (m - (↑x.fst : Int)) ∧
 Fits IntKind.i64 (m + (↑x.snd.fst : Int)) ∧
 Fits IntKind.i64 (m + (↑x.snd.fst : Int) - (↑x.fst : Int)) ∧
 True ∧
 (x.snd.snd = x.snd.snd ∧ True) ∧
 (True ∧
 m - (↑x.fst : Int) = m - (↑x.fst : Int) ∧
 m + (↑x.snd.fst : Int) - (↑x.fst : Int) = m + (↑x.snd.fst : Int) - (↑x.fst : Int) ∧ (↑x.fst : Int) = (↑x.fst : Int) ∧ True ∧ True) ∧
 (((0 : Int) ≤ m - (↑x.fst : Int) ∧ (0 : Int) ≤ (↑x.fst : Int) ∧ m - (↑x.fst : Int) + (↑x.fst : Int) ≤ m + (↑x.snd.fst : Int) - (↑x.fst : Int)) ∧
 m + (↑x.snd.fst : Int) - (↑x.fst : Int) + (↑x.fst : Int) ≤ (↑x.snd.snd.length : Int) ∧ x.snd.snd.length ≤ (1000 : Nat)) ∧
 Fits IntKind.i64 ((↑x.snd.fst : Int) - (↑x.fst : Int)) ∧
 ∃ (x' : Nat × Nat × List Int),
 (((0 : Nat) < x'.fst ∧ (0 : Nat) < x'.snd.fst ∧ x'.fst ≤ m.toNat - a.toNat ∧ x'.snd.fst ≤ b.toNat - m.toNat) ∧
 x'.snd.snd.length = xs.length ∧ rotF x'.snd.snd (m.toNat - x'.fst) m.toNat (m.toNat + x'.snd.fst) = rotF xs a.toNat m.toNat b.toNat) ∧
 x'.fst + x'.snd.fst < x.fst + x.snd.fst ∧
 (swapR x.snd.snd (m - (↑x.fst : Int)).toNat (m + (↑x.snd.fst : Int) - (↑x.fst : Int)).toNat (↑x.fst : Int).toNat = x'.snd.snd ∧ True) ∧
 (↑x.fst : Int) = (↑x'.fst : Int) ∧
 (↑x.snd.fst : Int) - (↑x.fst : Int) = (↑x'.snd.fst : Int) ∧ True ∧ a = a ∧ m = m ∧ b = b ∧ True ∧ True)) ∧
 (¬¬(↑x.fst : Int) = (↑x.snd.fst : Int) →
 ¬¬(↑x.fst : Int) = (↑x.snd.fst : Int) ∧
 Fits IntKind.i64 (m - (↑x.fst : Int)) ∧
 True ∧
 (x.snd.snd = x.snd.snd ∧ True) ∧
 (True ∧ m - (↑x.fst : Int) = m - (↑x.fst : Int) ∧ m = m ∧ (↑x.fst : Int) = (↑x.fst : Int) ∧ True ∧ True) ∧
 (((0 : Int) ≤ m - (↑x.fst : Int) ∧ (0 : Int) ≤ (↑x.fst : Int) ∧ m - (↑x.fst : Int) + (↑x.fst : Int) ≤ m) ∧
 m + (↑x.fst : Int) ≤ (↑x.snd.snd.length : Int) ∧ x.snd.snd.length ≤ (1000 : Nat)) ∧
 True ∧ swapR x.snd.snd (m - (↑x.fst : Int)).toNat m.toNat (↑x.fst : Int).toNat = rotF xs a.toNat m.toNat b.toNat ∧ True)) := by
 kernel_rfl

theorem g65_eq (xs : List Int) (a : Int) (b : Int) (sp : List Sp) : g65 xs a b sp = (
 Fits IntKind.i64 (a + (1 : Int)) ∧
 (∃ (x0 : Nat × List Int),
 ((a.toNat + (1 : Nat) ≤ x0.fst ∧ x0.fst ≤ max b.toNat (a.toNat + (1 : Nat))) ∧
 SegOK xs x0.snd a.toNat b.toNat ∧
 (∀ (p q : Nat),
 a.toNat ≤ p → p < q → q < b.toNat → kf sp (x0.snd.getD p (0 : Int)) = kf sp (x0.snd.getD q (0 : Int)) → x0.snd.getD p (0 : Int) < x0.snd.getD q (0 : Int)) ∧
 ∀ (p q : Nat), a.toNat ≤ p → p < q → q < x0.fst → leB sp (x0.snd.getD p (0 : Int)) (x0.snd.getD q (0 : Int)) = true) ∧
 (xs = x0.snd ∧ (sp = sp ∧ True) ∧ True) ∧ a + (1 : Int) = (↑x0.fst : Int) ∧ True ∧ a = a ∧ b = b ∧ True ∧ True) ∧
 ∀ (x : Nat × List Int),
 ((a.toNat + (1 : Nat) ≤ x.fst ∧ x.fst ≤ max b.toNat (a.toNat + (1 : Nat))) ∧
 SegOK xs x.snd a.toNat b.toNat ∧
 (∀ (p q : Nat), a.toNat ≤ p → p < q → q < b.toNat → kf sp (x.snd.getD p (0 : Int)) = kf sp (x.snd.getD q (0 : Int)) → x.snd.getD p (0 : Int) < x.snd.getD q (0 : Int)) ∧
 ∀ (p q : Nat), a.toNat ≤ p → p < q → q < x.fst → leB sp (x.snd.getD p (0 : Int)) (x.snd.getD q (0 : Int)) = true) →
 ((↑x.fst : Int) < b →
 (↑x.fst : Int) < b ∧
 (∃ (x0 : Nat × List Int),
 ((a.toNat ≤ x0.fst ∧ x0.fst ≤ (↑x.fst : Int).toNat) ∧
 SegOK xs x0.snd a.toNat b.toNat ∧
 (∀ (p q : Nat),
 a.toNat ≤ p →
 p < q → q < b.toNat → kf sp (x0.snd.getD p (0 : Int)) = kf sp (x0.snd.getD q (0 : Int)) → x0.snd.getD p (0 : Int) < x0.snd.getD q (0 : Int)) ∧
 ∀ (p q : Nat), a.toNat ≤ p → p < q → q ≤ (↑x.fst : Int).toNat → q ≠ x0.fst → leB sp (x0.snd.getD p (0 : Int)) (x0.snd.getD q (0 : Int)) = true) ∧
 (x.snd = x0.snd ∧ (sp = sp ∧ True) ∧ True) ∧ (↑x.fst : Int) = (↑x0.fst : Int) ∧ (↑x.fst : Int) = (↑x.fst : Int) ∧ True ∧ a = a ∧ b = b ∧ True ∧ True) ∧
 ∀ (x_1 : Nat × List Int),
 ((a.toNat ≤ x_1.fst ∧ x_1.fst ≤ (↑x.fst : Int).toNat) ∧
 SegOK xs x_1.snd a.toNat b.toNat ∧
 (∀ (p q : Nat),
 a.toNat ≤ p →
 p < q → q < b.toNat → kf sp (x_1.snd.getD p (0 : Int)) = kf sp (x_1.snd.getD q (0 : Int)) → x_1.snd.getD p (0 : Int) < x_1.snd.getD q (0 : Int)) ∧
 ∀ (p q : Nat), a.toNat ≤ p → p < q → q ≤ (↑x.fst : Int).toNat → q ≠ x_1.fst → leB sp (x_1.snd.getD p (0 : Int)) (x_1.snd.getD q (0 : Int)) = true) →
 (a < (↑x_1.fst : Int) →
 a < (↑x_1.fst : Int) ∧
 a < (↑x_1.fst : Int) ∧
 ((0 : Int) ≤ (↑x_1.fst : Int) ∧ (↑x_1.fst : Int) < (↑x_1.snd.length : Int)) ∧
 Fits IntKind.i64 ((↑x_1.fst : Int) - (1 : Int)) ∧
 ((0 : Int) ≤ (↑x_1.fst : Int) - (1 : Int) ∧ (↑x_1.fst : Int) - (1 : Int) < (↑x_1.snd.length : Int)) ∧
 ((0 : Int) ≤ x_1.snd.getD (↑x_1.fst : Int).toNat (0 : Int) ∧ x_1.snd.getD (↑x_1.fst : Int).toNat (0 : Int) < (↑sp.length : Int)) ∧
 ((0 : Int) ≤ x_1.snd.getD ((↑x_1.fst : Int) - (1 : Int)).toNat (0 : Int) ∧
 x_1.snd.getD ((↑x_1.fst : Int) - (1 : Int)).toNat (0 : Int) < (↑sp.length : Int)) ∧
 Fits IntKind.i64
 ((sp.getD (x_1.snd.getD (↑x_1.fst : Int).toNat (0 : Int)).toNat ((0 : Int), (0 : Int))).fst -
 (sp.getD (x_1.snd.getD ((↑x_1.fst : Int) - (1 : Int)).toNat (0 : Int)).toNat ((0 : Int), (0 : Int))).fst) ∧
 ((sp.getD (x_1.snd.getD (↑x_1.fst : Int).toNat (0 : Int)).toNat ((0 : Int), (0 : Int))).fst -
 (sp.getD (x_1.snd.getD ((↑x_1.fst : Int) - (1 : Int)).toNat (0 : Int)).toNat ((0 : Int), (0 : Int))).fst <
 (0 : Int) →
 (sp.getD (x_1.snd.getD (↑x_1.fst : Int).toNat (0 : Int)).toNat ((0 : Int), (0 : Int))).fst -
 (sp.getD (x_1.snd.getD ((↑x_1.fst : Int) - (1 : Int)).toNat (0 : Int)).toNat ((0 : Int), (0 : Int))).fst <
 (0 : Int) ∧
 (sp.getD (x_1.snd.getD (↑x_1.fst : Int).toNat (0 : Int)).toNat ((0 : Int), (0 : Int))).fst -
 (sp.getD (x_1.snd.getD ((↑x_1.fst : Int) - (1 : Int)).toNat (0 : Int)).toNat ((0 : Int), (0 : Int))).fst <
 (0 : Int) ∧
 Fits IntKind.i64 ((↑x_1.fst : Int) - (1 : Int)) ∧
 Fits IntKind.i64 ((↑x_1.fst : Int) - (1 : Int)) ∧
 ((0 : Int) ≤ (↑x_1.fst : Int) - (1 : Int) ∧ (↑x_1.fst : Int) - (1 : Int) < (↑x_1.snd.length : Int)) ∧
 ((0 : Int) ≤ (↑x_1.fst : Int) ∧ (↑x_1.fst : Int) < (↑x_1.snd.length : Int)) ∧
 ((0 : Int) ≤ (↑x_1.fst : Int) ∧ (↑x_1.fst : Int) < (↑x_1.snd.length : Int)) ∧
 ((0 : Int) ≤ (↑x_1.fst : Int) - (1 : Int) ∧
 (↑x_1.fst : Int) - (1 : Int) <
 (↑(x_1.snd.set (↑x_1.fst : Int).toNat (x_1.snd.getD ((↑x_1.fst : Int) - (1 : Int)).toNat (0 : Int))).length :
 Int)) ∧
 Fits IntKind.i64 ((↑x_1.fst : Int) - (1 : Int)) ∧
 ∃ (x' : Nat × List Int),
 ((a.toNat ≤ x'.fst ∧ x'.fst ≤ (↑x.fst : Int).toNat) ∧
 SegOK xs x'.snd a.toNat b.toNat ∧
 (∀ (p q : Nat),
 a.toNat ≤ p →
 p < q →
 q < b.toNat →
 kf sp (x'.snd.getD p (0 : Int)) = kf sp (x'.snd.getD q (0 : Int)) →
 x'.snd.getD p (0 : Int) < x'.snd.getD q (0 : Int)) ∧
 ∀ (p q : Nat),
 a.toNat ≤ p →
 p < q →
 q ≤ (↑x.fst : Int).toNat →
 q ≠ x'.fst → leB sp (x'.snd.getD p (0 : Int)) (x'.snd.getD q (0 : Int)) = true) ∧
 x'.fst < x_1.fst ∧
 ((x_1.snd.set (↑x_1.fst : Int).toNat (x_1.snd.getD ((↑x_1.fst : Int) - (1 : Int)).toNat (0 : Int))).set
 ((↑x_1.fst : Int) - (1 : Int)).toNat (x_1.snd.getD (↑x_1.fst : Int).toNat (0 : Int)) =
 x'.snd ∧
 (sp = sp ∧ True) ∧ True) ∧
 (↑x_1.fst : Int) - (1 : Int) = (↑x'.fst : Int) ∧
 (↑x.fst : Int) = (↑x.fst : Int) ∧ True ∧ a = a ∧ b = b ∧ True ∧ True) ∧
 (¬(sp.getD (x_1.snd.getD (↑x_1.fst : Int).toNat (0 : Int)).toNat ((0 : Int), (0 : Int))).fst -
 (sp.getD (x_1.snd.getD ((↑x_1.fst : Int) - (1 : Int)).toNat (0 : Int)).toNat ((0 : Int), (0 : Int))).fst <
 (0 : Int) →
 ¬(sp.getD (x_1.snd.getD (↑x_1.fst : Int).toNat (0 : Int)).toNat ((0 : Int), (0 : Int))).fst -
 (sp.getD (x_1.snd.getD ((↑x_1.fst : Int) - (1 : Int)).toNat (0 : Int)).toNat ((0 : Int), (0 : Int))).fst <
 (0 : Int) ∧
 ¬(sp.getD (x_1.snd.getD (↑x_1.fst : Int).toNat (0 : Int)).toNat ((0 : Int), (0 : Int))).fst -
 (sp.getD (x_1.snd.getD ((↑x_1.fst : Int) - (1 : Int)).toNat (0 : Int)).toNat ((0 : Int), (0 : Int))).fst <
 (0 : Int) ∧
 Fits IntKind.i64 ((↑x.fst : Int) + (1 : Int)) ∧
 ∃ (x' : Nat × List Int),
 ((a.toNat + (1 : Nat) ≤ x'.fst ∧ x'.fst ≤ max b.toNat (a.toNat + (1 : Nat))) ∧
 SegOK xs x'.snd a.toNat b.toNat ∧
 (∀ (p q : Nat),
 a.toNat ≤ p →
 p < q →
 q < b.toNat →
 kf sp (x'.snd.getD p (0 : Int)) = kf sp (x'.snd.getD q (0 : Int)) →
 x'.snd.getD p (0 : Int) < x'.snd.getD q (0 : Int)) ∧
 ∀ (p q : Nat), a.toNat ≤ p → p < q → q < x'.fst → leB sp (x'.snd.getD p (0 : Int)) (x'.snd.getD q (0 : Int)) = true) ∧
 b.toNat + (1 : Nat) - x'.fst < b.toNat + (1 : Nat) - x.fst ∧
 (x_1.snd = x'.snd ∧ (sp = sp ∧ True) ∧ True) ∧
 (↑x.fst : Int) + (1 : Int) = (↑x'.fst : Int) ∧ True ∧ a = a ∧ b = b ∧ True ∧ True)) ∧
 (¬a < (↑x_1.fst : Int) →
 ¬a < (↑x_1.fst : Int) ∧
 ¬a < (↑x_1.fst : Int) ∧
 Fits IntKind.i64 ((↑x.fst : Int) + (1 : Int)) ∧
 ∃ (x' : Nat × List Int),
 ((a.toNat + (1 : Nat) ≤ x'.fst ∧ x'.fst ≤ max b.toNat (a.toNat + (1 : Nat))) ∧
 SegOK xs x'.snd a.toNat b.toNat ∧
 (∀ (p q : Nat),
 a.toNat ≤ p →
 p < q →
 q < b.toNat → kf sp (x'.snd.getD p (0 : Int)) = kf sp (x'.snd.getD q (0 : Int)) → x'.snd.getD p (0 : Int) < x'.snd.getD q (0 : Int)) ∧
 ∀ (p q : Nat), a.toNat ≤ p → p < q → q < x'.fst → leB sp (x'.snd.getD p (0 : Int)) (x'.snd.getD q (0 : Int)) = true) ∧
 b.toNat + (1 : Nat) - x'.fst < b.toNat + (1 : Nat) - x.fst ∧
 (x_1.snd = x'.snd ∧ (sp = sp ∧ True) ∧ True) ∧ (↑x.fst : Int) + (1 : Int) = (↑x'.fst : Int) ∧ True ∧ a = a ∧ b = b ∧ True ∧ True)) ∧
 (¬(↑x.fst : Int) < b → ¬(↑x.fst : Int) < b ∧ True ∧ x.snd = sortSeg sp xs a.toNat b.toNat ∧ (sp = sp ∧ True) ∧ True)) := by
 kernel_rfl

end Go.SX.Sh
