/- Printed by VC.lean: what the executor asks. -/
import Derived.Test.YtmbbalghofbnbaaS9
namespace Go.SX.Sh
open Go Go.Proofs
theorem g66_eq (xs : List Int) (a : Int) (m : Int) (b : Int) (sp : List Sp) : g66 xs a m b sp = (
 Fits IntKind.i64 (m - a) ∧
 (m - a = (1 : Int) →
 m - a = (1 : Int) ∧
 (∃ (x0 : Nat × Nat),
 ((m.toNat ≤ x0.fst ∧ x0.fst ≤ x0.snd ∧ x0.snd ≤ b.toNat) ∧
 (x0.fst = m.toNat ∨ kf sp (xs.getD (x0.fst - (1 : Nat)) (0 : Int)) < kf sp (xs.getD a.toNat (0 : Int))) ∧
 (x0.snd = b.toNat ∨ ¬kf sp (xs.getD x0.snd (0 : Int)) < kf sp (xs.getD a.toNat (0 : Int)))) ∧
 (xs = xs ∧ (sp = sp ∧ True) ∧ True) ∧ m = (↑x0.fst : Int) ∧ b = (↑x0.snd : Int) ∧ True ∧ a = a ∧ m = m ∧ b = b ∧ True ∧ True) ∧
 ∀ (x : Nat × Nat),
 (m.toNat ≤ x.fst ∧ x.fst ≤ x.snd ∧ x.snd ≤ b.toNat) ∧
 (x.fst = m.toNat ∨ kf sp (xs.getD (x.fst - (1 : Nat)) (0 : Int)) < kf sp (xs.getD a.toNat (0 : Int))) ∧
 (x.snd = b.toNat ∨ ¬kf sp (xs.getD x.snd (0 : Int)) < kf sp (xs.getD a.toNat (0 : Int))) →
 ((↑x.fst : Int) < (↑x.snd : Int) →
 (↑x.fst : Int) < (↑x.snd : Int) ∧
 Fits IntKind.i64 ((↑x.fst : Int) + (↑x.snd : Int)) ∧
 ((0 : Int) ≤ (1 : Int) ∧ (1 : Int) < (64 : Int)) ∧
 Fits IntKind.i64 (IntKind.u64.wrap ((↑x.fst : Int) + (↑x.snd : Int)) / (2 : Int) ^ Int.toNat (1 : Int)) ∧
 ((0 : Int) ≤ IntKind.u64.wrap ((↑x.fst : Int) + (↑x.snd : Int)) / (2 : Int) ^ Int.toNat (1 : Int) ∧
 IntKind.u64.wrap ((↑x.fst : Int) + (↑x.snd : Int)) / (2 : Int) ^ Int.toNat (1 : Int) < (↑xs.length : Int)) ∧
 ((0 : Int) ≤ a ∧ a < (↑xs.length : Int)) ∧
 ((0 : Int) ≤ xs.getD (IntKind.u64.wrap ((↑x.fst : Int) + (↑x.snd : Int)) / (2 : Int) ^ Int.toNat (1 : Int)).toNat (0 : Int) ∧
 xs.getD (IntKind.u64.wrap ((↑x.fst : Int) + (↑x.snd : Int)) / (2 : Int) ^ Int.toNat (1 : Int)).toNat (0 : Int) < (↑sp.length : Int)) ∧
 ((0 : Int) ≤ xs.getD a.toNat (0 : Int) ∧ xs.getD a.toNat (0 : Int) < (↑sp.length : Int)) ∧
 Fits IntKind.i64
 ((sp.getD (xs.getD (IntKind.u64.wrap ((↑x.fst : Int) + (↑x.snd : Int)) / (2 : Int) ^ Int.toNat (1 : Int)).toNat (0 : Int)).toNat
 ((0 : Int), (0 : Int))).fst -
 (sp.getD (xs.getD a.toNat (0 : Int)).toNat ((0 : Int), (0 : Int))).fst) ∧
 ((sp.getD (xs.getD (IntKind.u64.wrap ((↑x.fst : Int) + (↑x.snd : Int)) / (2 : Int) ^ Int.toNat (1 : Int)).toNat (0 : Int)).toNat
 ((0 : Int), (0 : Int))).fst -
 (sp.getD (xs.getD a.toNat (0 : Int)).toNat ((0 : Int), (0 : Int))).fst <
 (0 : Int) →
 (sp.getD (xs.getD (IntKind.u64.wrap ((↑x.fst : Int) + (↑x.snd : Int)) / (2 : Int) ^ Int.toNat (1 : Int)).toNat (0 : Int)).toNat
 ((0 : Int), (0 : Int))).fst -
 (sp.getD (xs.getD a.toNat (0 : Int)).toNat ((0 : Int), (0 : Int))).fst <
 (0 : Int) ∧
 Fits IntKind.i64 (IntKind.u64.wrap ((↑x.fst : Int) + (↑x.snd : Int)) / (2 : Int) ^ Int.toNat (1 : Int) + (1 : Int)) ∧
 ∃ (x' : Nat × Nat),
 ((m.toNat ≤ x'.fst ∧ x'.fst ≤ x'.snd ∧ x'.snd ≤ b.toNat) ∧
 (x'.fst = m.toNat ∨ kf sp (xs.getD (x'.fst - (1 : Nat)) (0 : Int)) < kf sp (xs.getD a.toNat (0 : Int))) ∧
 (x'.snd = b.toNat ∨ ¬kf sp (xs.getD x'.snd (0 : Int)) < kf sp (xs.getD a.toNat (0 : Int)))) ∧
 x'.snd - x'.fst < x.snd - x.fst ∧
 (xs = xs ∧ (sp = sp ∧ True) ∧ True) ∧
 IntKind.u64.wrap ((↑x.fst : Int) + (↑x.snd : Int)) / (2 : Int) ^ Int.toNat (1 : Int) + (1 : Int) = (↑x'.fst : Int) ∧
 (↑x.snd : Int) = (↑x'.snd : Int) ∧ True ∧ a = a ∧ m = m ∧ b = b ∧ True ∧ True) ∧
 (¬(sp.getD (xs.getD (IntKind.u64.wrap ((↑x.fst : Int) + (↑x.snd : Int)) / (2 : Int) ^ Int.toNat (1 : Int)).toNat (0 : Int)).toNat
 ((0 : Int), (0 : Int))).fst -
 (sp.getD (xs.getD a.toNat (0 : Int)).toNat ((0 : Int), (0 : Int))).fst <
 (0 : Int) →
 ¬(sp.getD (xs.getD (IntKind.u64.wrap ((↑x.fst : Int) + (↑x.snd : Int)) / (2 : Int) ^ Int.toNat (1 : Int)).toNat (0 : Int)).toNat
 ((0 : Int), (0 : Int))).fst -
 (sp.getD (xs.getD a.toNat (0 : Int)).toNat ((0 : Int), (0 : Int))).fst <
 (0 : Int) ∧
 ∃ (x' : Nat × Nat),
 ((m.toNat ≤ x'.fst ∧ x'.fst ≤ x'.snd ∧ x'.snd ≤ b.toNat) ∧
 (x'.fst = m.toNat ∨ kf sp (xs.getD (x'.fst - (1 : Nat)) (0 : Int)) < kf sp (xs.getD a.toNat (0 : Int))) ∧
 (x'.snd = b.toNat ∨ ¬kf sp (xs.getD x'.snd (0 : Int)) < kf sp (xs.getD a.toNat (0 : Int)))) ∧
 x'.snd - x'.fst < x.snd - x.fst ∧
 (xs = xs ∧ (sp = sp ∧ True) ∧ True) ∧
 (↑x.fst : Int) = (↑x'.fst : Int) ∧
 IntKind.u64.wrap ((↑x.fst : Int) + (↑x.snd : Int)) / (2 : Int) ^ Int.toNat (1 : Int) = (↑x'.snd : Int) ∧
 True ∧ a = a ∧ m = m ∧ b = b ∧ True ∧ True)) ∧
 (¬(↑x.fst : Int) < (↑x.snd : Int) →
 ¬(↑x.fst : Int) < (↑x.snd : Int) ∧
 (∃ (x0 : Nat),
 a.toNat + (1 : Nat) + x0 ≤ (↑x.fst : Int).toNat ∧
 (xs = rotF xs a.toNat (a.toNat + (1 : Nat)) (a.toNat + (1 : Nat) + x0) ∧ (sp = sp ∧ True) ∧ True) ∧
 a = (↑(a.toNat + x0) : Int) ∧ (↑x.fst : Int) = (↑x.fst : Int) ∧ True ∧ a = a ∧ m = m ∧ b = b ∧ True ∧ True) ∧
 ∀ (x_1 : Nat),
 a.toNat + (1 : Nat) + x_1 ≤ (↑x.fst : Int).toNat →
 Fits IntKind.i64 ((↑x.fst : Int) - (1 : Int)) ∧
 ((↑(a.toNat + x_1) : Int) < (↑x.fst : Int) - (1 : Int) →
 (↑(a.toNat + x_1) : Int) < (↑x.fst : Int) - (1 : Int) ∧
 Fits IntKind.i64 ((↑(a.toNat + x_1) : Int) + (1 : Int)) ∧
 Fits IntKind.i64 ((↑(a.toNat + x_1) : Int) + (1 : Int)) ∧
 ((0 : Int) ≤ (↑(a.toNat + x_1) : Int) + (1 : Int) ∧
 (↑(a.toNat + x_1) : Int) + (1 : Int) < (↑(rotF xs a.toNat (a.toNat + (1 : Nat)) (a.toNat + (1 : Nat) + x_1)).length : Int)) ∧
 ((0 : Int) ≤ (↑(a.toNat + x_1) : Int) ∧
 (↑(a.toNat + x_1) : Int) < (↑(rotF xs a.toNat (a.toNat + (1 : Nat)) (a.toNat + (1 : Nat) + x_1)).length : Int)) ∧
 ((0 : Int) ≤ (↑(a.toNat + x_1) : Int) ∧
 (↑(a.toNat + x_1) : Int) < (↑(rotF xs a.toNat (a.toNat + (1 : Nat)) (a.toNat + (1 : Nat) + x_1)).length : Int)) ∧
 ((0 : Int) ≤ (↑(a.toNat + x_1) : Int) + (1 : Int) ∧
 (↑(a.toNat + x_1) : Int) + (1 : Int) <
 (↑((rotF xs a.toNat (a.toNat + (1 : Nat)) (a.toNat + (1 : Nat) + x_1)).set (↑(a.toNat + x_1) : Int).toNat
 ((rotF xs a.toNat (a.toNat + (1 : Nat)) (a.toNat + (1 : Nat) + x_1)).getD ((↑(a.toNat + x_1) : Int) + (1 : Int)).toNat
 (0 : Int))).length :
 Int)) ∧
 Fits IntKind.i64 ((↑(a.toNat + x_1) : Int) + (1 : Int)) ∧
 ∃ (x' : Nat),
 a.toNat + (1 : Nat) + x' ≤ (↑x.fst : Int).toNat ∧
 (↑x.fst : Int).toNat - x' < (↑x.fst : Int).toNat - x_1 ∧
 (((rotF xs a.toNat (a.toNat + (1 : Nat)) (a.toNat + (1 : Nat) + x_1)).set (↑(a.toNat + x_1) : Int).toNat
 ((rotF xs a.toNat (a.toNat + (1 : Nat)) (a.toNat + (1 : Nat) + x_1)).getD
 ((↑(a.toNat + x_1) : Int) + (1 : Int)).toNat (0 : Int))).set
 ((↑(a.toNat + x_1) : Int) + (1 : Int)).toNat
 ((rotF xs a.toNat (a.toNat + (1 : Nat)) (a.toNat + (1 : Nat) + x_1)).getD (↑(a.toNat + x_1) : Int).toNat (0 : Int)) =
 rotF xs a.toNat (a.toNat + (1 : Nat)) (a.toNat + (1 : Nat) + x') ∧
 (sp = sp ∧ True) ∧ True) ∧
 (↑(a.toNat + x_1) : Int) + (1 : Int) = (↑(a.toNat + x') : Int) ∧
 (↑x.fst : Int) = (↑x.fst : Int) ∧ True ∧ a = a ∧ m = m ∧ b = b ∧ True ∧ True) ∧
 (¬(↑(a.toNat + x_1) : Int) < (↑x.fst : Int) - (1 : Int) →
 ¬(↑(a.toNat + x_1) : Int) < (↑x.fst : Int) - (1 : Int) ∧
 True ∧ rotF xs a.toNat (a.toNat + (1 : Nat)) (a.toNat + (1 : Nat) + x_1) = sortSeg sp xs a.toNat b.toNat ∧ (sp = sp ∧ True) ∧ True))) ∧
 (¬m - a = (1 : Int) →
 ¬m - a = (1 : Int) ∧
 Fits IntKind.i64 (b - m) ∧
 (b - m = (1 : Int) →
 b - m = (1 : Int) ∧
 (∃ (x0 : Nat × Nat),
 ((a.toNat ≤ x0.fst ∧ x0.fst ≤ x0.snd ∧ x0.snd ≤ m.toNat) ∧
 (x0.fst = a.toNat ∨ ¬kf sp (xs.getD m.toNat (0 : Int)) < kf sp (xs.getD (x0.fst - (1 : Nat)) (0 : Int))) ∧
 (x0.snd = m.toNat ∨ kf sp (xs.getD m.toNat (0 : Int)) < kf sp (xs.getD x0.snd (0 : Int)))) ∧
 (xs = xs ∧ (sp = sp ∧ True) ∧ True) ∧ a = (↑x0.fst : Int) ∧ m = (↑x0.snd : Int) ∧ True ∧ a = a ∧ m = m ∧ b = b ∧ True ∧ True) ∧
 ∀ (x : Nat × Nat),
 (a.toNat ≤ x.fst ∧ x.fst ≤ x.snd ∧ x.snd ≤ m.toNat) ∧
 (x.fst = a.toNat ∨ ¬kf sp (xs.getD m.toNat (0 : Int)) < kf sp (xs.getD (x.fst - (1 : Nat)) (0 : Int))) ∧
 (x.snd = m.toNat ∨ kf sp (xs.getD m.toNat (0 : Int)) < kf sp (xs.getD x.snd (0 : Int))) →
 ((↑x.fst : Int) < (↑x.snd : Int) →
 (↑x.fst : Int) < (↑x.snd : Int) ∧
 Fits IntKind.i64 ((↑x.fst : Int) + (↑x.snd : Int)) ∧
 ((0 : Int) ≤ (1 : Int) ∧ (1 : Int) < (64 : Int)) ∧
 Fits IntKind.i64 (IntKind.u64.wrap ((↑x.fst : Int) + (↑x.snd : Int)) / (2 : Int) ^ Int.toNat (1 : Int)) ∧
 ((0 : Int) ≤ m ∧ m < (↑xs.length : Int)) ∧
 ((0 : Int) ≤ IntKind.u64.wrap ((↑x.fst : Int) + (↑x.snd : Int)) / (2 : Int) ^ Int.toNat (1 : Int) ∧
 IntKind.u64.wrap ((↑x.fst : Int) + (↑x.snd : Int)) / (2 : Int) ^ Int.toNat (1 : Int) < (↑xs.length : Int)) ∧
 ((0 : Int) ≤ xs.getD m.toNat (0 : Int) ∧ xs.getD m.toNat (0 : Int) < (↑sp.length : Int)) ∧
 ((0 : Int) ≤ xs.getD (IntKind.u64.wrap ((↑x.fst : Int) + (↑x.snd : Int)) / (2 : Int) ^ Int.toNat (1 : Int)).toNat (0 : Int) ∧
 xs.getD (IntKind.u64.wrap ((↑x.fst : Int) + (↑x.snd : Int)) / (2 : Int) ^ Int.toNat (1 : Int)).toNat (0 : Int) < (↑sp.length : Int)) ∧
 Fits IntKind.i64
 ((sp.getD (xs.getD m.toNat (0 : Int)).toNat ((0 : Int), (0 : Int))).fst -
 (sp.getD (xs.getD (IntKind.u64.wrap ((↑x.fst : Int) + (↑x.snd : Int)) / (2 : Int) ^ Int.toNat (1 : Int)).toNat (0 : Int)).toNat
 ((0 : Int), (0 : Int))).fst) ∧
 (¬(sp.getD (xs.getD m.toNat (0 : Int)).toNat ((0 : Int), (0 : Int))).fst -
 (sp.getD
 (xs.getD (IntKind.u64.wrap ((↑x.fst : Int) + (↑x.snd : Int)) / (2 : Int) ^ Int.toNat (1 : Int)).toNat (0 : Int)).toNat
 ((0 : Int), (0 : Int))).fst <
 (0 : Int) →
 ¬(sp.getD (xs.getD m.toNat (0 : Int)).toNat ((0 : Int), (0 : Int))).fst -
 (sp.getD
 (xs.getD (IntKind.u64.wrap ((↑x.fst : Int) + (↑x.snd : Int)) / (2 : Int) ^ Int.toNat (1 : Int)).toNat (0 : Int)).toNat
 ((0 : Int), (0 : Int))).fst <
 (0 : Int) ∧
 Fits IntKind.i64 (IntKind.u64.wrap ((↑x.fst : Int) + (↑x.snd : Int)) / (2 : Int) ^ Int.toNat (1 : Int) + (1 : Int)) ∧
 ∃ (x' : Nat × Nat),
 ((a.toNat ≤ x'.fst ∧ x'.fst ≤ x'.snd ∧ x'.snd ≤ m.toNat) ∧
 (x'.fst = a.toNat ∨ ¬kf sp (xs.getD m.toNat (0 : Int)) < kf sp (xs.getD (x'.fst - (1 : Nat)) (0 : Int))) ∧
 (x'.snd = m.toNat ∨ kf sp (xs.getD m.toNat (0 : Int)) < kf sp (xs.getD x'.snd (0 : Int)))) ∧
 x'.snd - x'.fst < x.snd - x.fst ∧
 (xs = xs ∧ (sp = sp ∧ True) ∧ True) ∧
 IntKind.u64.wrap ((↑x.fst : Int) + (↑x.snd : Int)) / (2 : Int) ^ Int.toNat (1 : Int) + (1 : Int) = (↑x'.fst : Int) ∧
 (↑x.snd : Int) = (↑x'.snd : Int) ∧ True ∧ a = a ∧ m = m ∧ b = b ∧ True ∧ True) ∧
 (¬¬(sp.getD (xs.getD m.toNat (0 : Int)).toNat ((0 : Int), (0 : Int))).fst -
 (sp.getD
 (xs.getD (IntKind.u64.wrap ((↑x.fst : Int) + (↑x.snd : Int)) / (2 : Int) ^ Int.toNat (1 : Int)).toNat (0 : Int)).toNat
 ((0 : Int), (0 : Int))).fst <
 (0 : Int) →
 ¬¬(sp.getD (xs.getD m.toNat (0 : Int)).toNat ((0 : Int), (0 : Int))).fst -
 (sp.getD
 (xs.getD (IntKind.u64.wrap ((↑x.fst : Int) + (↑x.snd : Int)) / (2 : Int) ^ Int.toNat (1 : Int)).toNat (0 : Int)).toNat
 ((0 : Int), (0 : Int))).fst <
 (0 : Int) ∧
 ∃ (x' : Nat × Nat),
 ((a.toNat ≤ x'.fst ∧ x'.fst ≤ x'.snd ∧ x'.snd ≤ m.toNat) ∧
 (x'.fst = a.toNat ∨ ¬kf sp (xs.getD m.toNat (0 : Int)) < kf sp (xs.getD (x'.fst - (1 : Nat)) (0 : Int))) ∧
 (x'.snd = m.toNat ∨ kf sp (xs.getD m.toNat (0 : Int)) < kf sp (xs.getD x'.snd (0 : Int)))) ∧
 x'.snd - x'.fst < x.snd - x.fst ∧
 (xs = xs ∧ (sp = sp ∧ True) ∧ True) ∧
 (↑x.fst : Int) = (↑x'.fst : Int) ∧
 IntKind.u64.wrap ((↑x.fst : Int) + (↑x.snd : Int)) / (2 : Int) ^ Int.toNat (1 : Int) = (↑x'.snd : Int) ∧
 True ∧ a = a ∧ m = m ∧ b = b ∧ True ∧ True)) ∧
 (¬(↑x.fst : Int) < (↑x.snd : Int) →
 ¬(↑x.fst : Int) < (↑x.snd : Int) ∧
 (∃ (x0 : Nat),
 ((↑x.fst : Int).toNat ≤ x0 ∧ x0 ≤ m.toNat) ∧
 (xs = rotF xs x0 m.toNat (m.toNat + (1 : Nat)) ∧ (sp = sp ∧ True) ∧ True) ∧
 m = (↑x0 : Int) ∧ (↑x.fst : Int) = (↑x.fst : Int) ∧ True ∧ a = a ∧ m = m ∧ b = b ∧ True ∧ True) ∧
 ∀ (x_1 : Nat),
 (↑x.fst : Int).toNat ≤ x_1 ∧ x_1 ≤ m.toNat →
 ((↑x.fst : Int) < (↑x_1 : Int) →
 (↑x.fst : Int) < (↑x_1 : Int) ∧
 Fits IntKind.i64 ((↑x_1 : Int) - (1 : Int)) ∧
 Fits IntKind.i64 ((↑x_1 : Int) - (1 : Int)) ∧
 ((0 : Int) ≤ (↑x_1 : Int) - (1 : Int) ∧ (↑x_1 : Int) - (1 : Int) < (↑(rotF xs x_1 m.toNat (m.toNat + (1 : Nat))).length : Int)) ∧
 ((0 : Int) ≤ (↑x_1 : Int) ∧ (↑x_1 : Int) < (↑(rotF xs x_1 m.toNat (m.toNat + (1 : Nat))).length : Int)) ∧
 ((0 : Int) ≤ (↑x_1 : Int) ∧ (↑x_1 : Int) < (↑(rotF xs x_1 m.toNat (m.toNat + (1 : Nat))).length : Int)) ∧
 ((0 : Int) ≤ (↑x_1 : Int) - (1 : Int) ∧
 (↑x_1 : Int) - (1 : Int) <
 (↑((rotF xs x_1 m.toNat (m.toNat + (1 : Nat))).set (↑x_1 : Int).toNat
 ((rotF xs x_1 m.toNat (m.toNat + (1 : Nat))).getD ((↑x_1 : Int) - (1 : Int)).toNat (0 : Int))).length :
 Int)) ∧
 Fits IntKind.i64 ((↑x_1 : Int) - (1 : Int)) ∧
 ∃ (x' : Nat),
 ((↑x.fst : Int).toNat ≤ x' ∧ x' ≤ m.toNat) ∧
 x' < x_1 ∧
 (((rotF xs x_1 m.toNat (m.toNat + (1 : Nat))).set (↑x_1 : Int).toNat
 ((rotF xs x_1 m.toNat (m.toNat + (1 : Nat))).getD ((↑x_1 : Int) - (1 : Int)).toNat (0 : Int))).set
 ((↑x_1 : Int) - (1 : Int)).toNat
 ((rotF xs x_1 m.toNat (m.toNat + (1 : Nat))).getD (↑x_1 : Int).toNat (0 : Int)) =
 rotF xs x' m.toNat (m.toNat + (1 : Nat)) ∧
 (sp = sp ∧ True) ∧ True) ∧
 (↑x_1 : Int) - (1 : Int) = (↑x' : Int) ∧
 (↑x.fst : Int) = (↑x.fst : Int) ∧ True ∧ a = a ∧ m = m ∧ b = b ∧ True ∧ True) ∧
 (¬(↑x.fst : Int) < (↑x_1 : Int) →
 ¬(↑x.fst : Int) < (↑x_1 : Int) ∧
 True ∧ rotF xs x_1 m.toNat (m.toNat + (1 : Nat)) = sortSeg sp xs a.toNat b.toNat ∧ (sp = sp ∧ True) ∧ True))) ∧
 (¬b - m = (1 : Int) →
 ¬b - m = (1 : Int) ∧
 Fits IntKind.i64 (a + b) ∧
 ((0 : Int) ≤ (1 : Int) ∧ (1 : Int) < (64 : Int)) ∧
 Fits IntKind.i64 (IntKind.u64.wrap (a + b) / (2 : Int) ^ Int.toNat (1 : Int)) ∧
 Fits IntKind.i64 (IntKind.u64.wrap (a + b) / (2 : Int) ^ Int.toNat (1 : Int) + m) ∧
 (IntKind.u64.wrap (a + b) / (2 : Int) ^ Int.toNat (1 : Int) < m →
 IntKind.u64.wrap (a + b) / (2 : Int) ^ Int.toNat (1 : Int) < m ∧
 Fits IntKind.i64 (IntKind.u64.wrap (a + b) / (2 : Int) ^ Int.toNat (1 : Int) + m - b) ∧
 Fits IntKind.i64 (IntKind.u64.wrap (a + b) / (2 : Int) ^ Int.toNat (1 : Int) + m - (1 : Int)) ∧
 (∃ (x0 : Nat × Nat),
 ((loF a.toNat m.toNat b.toNat ≤ x0.fst ∧ x0.fst ≤ x0.snd ∧ x0.snd ≤ hiF a.toNat m.toNat b.toNat) ∧
 (x0.fst = loF a.toNat m.toNat b.toNat ∨
 ¬kf sp (xs.getD (midF a.toNat b.toNat + m.toNat - x0.fst) (0 : Int)) < kf sp (xs.getD (x0.fst - (1 : Nat)) (0 : Int))) ∧
 (x0.snd = hiF a.toNat m.toNat b.toNat ∨
 kf sp (xs.getD (midF a.toNat b.toNat + m.toNat - (1 : Nat) - x0.snd) (0 : Int)) < kf sp (xs.getD x0.snd (0 : Int)))) ∧
 (xs = xs ∧ (sp = sp ∧ True) ∧ True) ∧
 IntKind.u64.wrap (a + b) / (2 : Int) ^ Int.toNat (1 : Int) + m - b = (↑x0.fst : Int) ∧
 IntKind.u64.wrap (a + b) / (2 : Int) ^ Int.toNat (1 : Int) = (↑x0.snd : Int) ∧
 IntKind.u64.wrap (a + b) / (2 : Int) ^ Int.toNat (1 : Int) + m - (1 : Int) =
 IntKind.u64.wrap (a + b) / (2 : Int) ^ Int.toNat (1 : Int) + m - (1 : Int) ∧
 IntKind.u64.wrap (a + b) / (2 : Int) ^ Int.toNat (1 : Int) + m = IntKind.u64.wrap (a + b) / (2 : Int) ^ Int.toNat (1 : Int) + m ∧
 IntKind.u64.wrap (a + b) / (2 : Int) ^ Int.toNat (1 : Int) = IntKind.u64.wrap (a + b) / (2 : Int) ^ Int.toNat (1 : Int) ∧
 True ∧ a = a ∧ m = m ∧ b = b ∧ True ∧ True) ∧
 ∀ (x : Nat × Nat),
 (loF a.toNat m.toNat b.toNat ≤ x.fst ∧ x.fst ≤ x.snd ∧ x.snd ≤ hiF a.toNat m.toNat b.toNat) ∧
 (x.fst = loF a.toNat m.toNat b.toNat ∨
 ¬kf sp (xs.getD (midF a.toNat b.toNat + m.toNat - x.fst) (0 : Int)) < kf sp (xs.getD (x.fst - (1 : Nat)) (0 : Int))) ∧
 (x.snd = hiF a.toNat m.toNat b.toNat ∨
 kf sp (xs.getD (midF a.toNat b.toNat + m.toNat - (1 : Nat) - x.snd) (0 : Int)) < kf sp (xs.getD x.snd (0 : Int))) →
 ((↑x.fst : Int) < (↑x.snd : Int) →
 (↑x.fst : Int) < (↑x.snd : Int) ∧
 Fits IntKind.i64 ((↑x.fst : Int) + (↑x.snd : Int)) ∧
 ((0 : Int) ≤ (1 : Int) ∧ (1 : Int) < (64 : Int)) ∧
 Fits IntKind.i64 (IntKind.u64.wrap ((↑x.fst : Int) + (↑x.snd : Int)) / (2 : Int) ^ Int.toNat (1 : Int)) ∧
 Fits IntKind.i64
 (IntKind.u64.wrap (a + b) / (2 : Int) ^ Int.toNat (1 : Int) + m - (1 : Int) -
 IntKind.u64.wrap ((↑x.fst : Int) + (↑x.snd : Int)) / (2 : Int) ^ Int.toNat (1 : Int)) ∧
 ((0 : Int) ≤
 IntKind.u64.wrap (a + b) / (2 : Int) ^ Int.toNat (1 : Int) + m - (1 : Int) -
 IntKind.u64.wrap ((↑x.fst : Int) + (↑x.snd : Int)) / (2 : Int) ^ Int.toNat (1 : Int) ∧
 IntKind.u64.wrap (a + b) / (2 : Int) ^ Int.toNat (1 : Int) + m - (1 : Int) -
 IntKind.u64.wrap ((↑x.fst : Int) + (↑x.snd : Int)) / (2 : Int) ^ Int.toNat (1 : Int) <
 (↑xs.length : Int)) ∧
 ((0 : Int) ≤ IntKind.u64.wrap ((↑x.fst : Int) + (↑x.snd : Int)) / (2 : Int) ^ Int.toNat (1 : Int) ∧
 IntKind.u64.wrap ((↑x.fst : Int) + (↑x.snd : Int)) / (2 : Int) ^ Int.toNat (1 : Int) < (↑xs.length : Int)) ∧
 ((0 : Int) ≤
 xs.getD
 (IntKind.u64.wrap (a + b) / (2 : Int) ^ Int.toNat (1 : Int) + m - (1 : Int) -
 IntKind.u64.wrap ((↑x.fst : Int) + (↑x.snd : Int)) / (2 : Int) ^ Int.toNat (1 : Int)).toNat
 (0 : Int) ∧
 xs.getD
 (IntKind.u64.wrap (a + b) / (2 : Int) ^ Int.toNat (1 : Int) + m - (1 : Int) -
 IntKind.u64.wrap ((↑x.fst : Int) + (↑x.snd : Int)) / (2 : Int) ^ Int.toNat (1 : Int)).toNat
 (0 : Int) <
 (↑sp.length : Int)) ∧
 ((0 : Int) ≤
 xs.getD (IntKind.u64.wrap ((↑x.fst : Int) + (↑x.snd : Int)) / (2 : Int) ^ Int.toNat (1 : Int)).toNat (0 : Int) ∧
 xs.getD (IntKind.u64.wrap ((↑x.fst : Int) + (↑x.snd : Int)) / (2 : Int) ^ Int.toNat (1 : Int)).toNat (0 : Int) <
 (↑sp.length : Int)) ∧
 Fits IntKind.i64
 ((sp.getD
 (xs.getD
 (IntKind.u64.wrap (a + b) / (2 : Int) ^ Int.toNat (1 : Int) + m - (1 : Int) -
 IntKind.u64.wrap ((↑x.fst : Int) + (↑x.snd : Int)) / (2 : Int) ^ Int.toNat (1 : Int)).toNat
 (0 : Int)).toNat
 ((0 : Int), (0 : Int))).fst -
 (sp.getD
 (xs.getD (IntKind.u64.wrap ((↑x.fst : Int) + (↑x.snd : Int)) / (2 : Int) ^ Int.toNat (1 : Int)).toNat
 (0 : Int)).toNat
 ((0 : Int), (0 : Int))).fst) ∧
 (¬(sp.getD
 (xs.getD
 (IntKind.u64.wrap (a + b) / (2 : Int) ^ Int.toNat (1 : Int) + m - (1 : Int) -
 IntKind.u64.wrap ((↑x.fst : Int) + (↑x.snd : Int)) / (2 : Int) ^ Int.toNat (1 : Int)).toNat
 (0 : Int)).toNat
 ((0 : Int), (0 : Int))).fst -
 (sp.getD
 (xs.getD (IntKind.u64.wrap ((↑x.fst : Int) + (↑x.snd : Int)) / (2 : Int) ^ Int.toNat (1 : Int)).toNat
 (0 : Int)).toNat
 ((0 : Int), (0 : Int))).fst <
 (0 : Int) →
 ¬(sp.getD
 (xs.getD
 (IntKind.u64.wrap (a + b) / (2 : Int) ^ Int.toNat (1 : Int) + m - (1 : Int) -
 IntKind.u64.wrap ((↑x.fst : Int) + (↑x.snd : Int)) / (2 : Int) ^ Int.toNat (1 : Int)).toNat
 (0 : Int)).toNat
 ((0 : Int), (0 : Int))).fst -
 (sp.getD
 (xs.getD
 (IntKind.u64.wrap ((↑x.fst : Int) + (↑x.snd : Int)) / (2 : Int) ^ Int.toNat (1 : Int)).toNat
 (0 : Int)).toNat
 ((0 : Int), (0 : Int))).fst <
 (0 : Int) ∧
 Fits IntKind.i64
 (IntKind.u64.wrap ((↑x.fst : Int) + (↑x.snd : Int)) / (2 : Int) ^ Int.toNat (1 : Int) + (1 : Int)) ∧
 ∃ (x' : Nat × Nat),
 ((loF a.toNat m.toNat b.toNat ≤ x'.fst ∧ x'.fst ≤ x'.snd ∧ x'.snd ≤ hiF a.toNat m.toNat b.toNat) ∧
 (x'.fst = loF a.toNat m.toNat b.toNat ∨
 ¬kf sp (xs.getD (midF a.toNat b.toNat + m.toNat - x'.fst) (0 : Int)) <
 kf sp (xs.getD (x'.fst - (1 : Nat)) (0 : Int))) ∧
 (x'.snd = hiF a.toNat m.toNat b.toNat ∨
 kf sp (xs.getD (midF a.toNat b.toNat + m.toNat - (1 : Nat) - x'.snd) (0 : Int)) <
 kf sp (xs.getD x'.snd (0 : Int)))) ∧
 x'.snd - x'.fst < x.snd - x.fst ∧
 (xs = xs ∧ (sp = sp ∧ True) ∧ True) ∧
 IntKind.u64.wrap ((↑x.fst : Int) + (↑x.snd : Int)) / (2 : Int) ^ Int.toNat (1 : Int) + (1 : Int) =
 (↑x'.fst : Int) ∧
 (↑x.snd : Int) = (↑x'.snd : Int) ∧
 IntKind.u64.wrap (a + b) / (2 : Int) ^ Int.toNat (1 : Int) + m - (1 : Int) =
 IntKind.u64.wrap (a + b) / (2 : Int) ^ Int.toNat (1 : Int) + m - (1 : Int) ∧
 IntKind.u64.wrap (a + b) / (2 : Int) ^ Int.toNat (1 : Int) + m =
 IntKind.u64.wrap (a + b) / (2 : Int) ^ Int.toNat (1 : Int) + m ∧
 IntKind.u64.wrap (a + b) / (2 : Int) ^ Int.toNat (1 : Int) =
 IntKind.u64.wrap (a + b) / (2 : Int) ^ Int.toNat (1 : Int) ∧
 True ∧ a = a ∧ m = m ∧ b = b ∧ True ∧ True) ∧
 (¬¬(sp.getD
 (xs.getD
 (IntKind.u64.wrap (a + b) / (2 : Int) ^ Int.toNat (1 : Int) + m - (1 : Int) -
 IntKind.u64.wrap ((↑x.fst : Int) + (↑x.snd : Int)) / (2 : Int) ^ Int.toNat (1 : Int)).toNat
 (0 : Int)).toNat
 ((0 : Int), (0 : Int))).fst -
 (sp.getD
 (xs.getD
 (IntKind.u64.wrap ((↑x.fst : Int) + (↑x.snd : Int)) / (2 : Int) ^ Int.toNat (1 : Int)).toNat
 (0 : Int)).toNat
 ((0 : Int), (0 : Int))).fst <
 (0 : Int) →
 ¬¬(sp.getD
 (xs.getD
 (IntKind.u64.wrap (a + b) / (2 : Int) ^ Int.toNat (1 : Int) + m - (1 : Int) -
 IntKind.u64.wrap ((↑x.fst : Int) + (↑x.snd : Int)) /
 (2 : Int) ^ Int.toNat (1 : Int)).toNat
 (0 : Int)).toNat
 ((0 : Int), (0 : Int))).fst -
 (sp.getD
 (xs.getD
 (IntKind.u64.wrap ((↑x.fst : Int) + (↑x.snd : Int)) / (2 : Int) ^ Int.toNat (1 : Int)).toNat
 (0 : Int)).toNat
 ((0 : Int), (0 : Int))).fst <
 (0 : Int) ∧
 ∃ (x' : Nat × Nat),
 ((loF a.toNat m.toNat b.toNat ≤ x'.fst ∧ x'.fst ≤ x'.snd ∧ x'.snd ≤ hiF a.toNat m.toNat b.toNat) ∧
 (x'.fst = loF a.toNat m.toNat b.toNat ∨
 ¬kf sp (xs.getD (midF a.toNat b.toNat + m.toNat - x'.fst) (0 : Int)) <
 kf sp (xs.getD (x'.fst - (1 : Nat)) (0 : Int))) ∧
 (x'.snd = hiF a.toNat m.toNat b.toNat ∨
 kf sp (xs.getD (midF a.toNat b.toNat + m.toNat - (1 : Nat) - x'.snd) (0 : Int)) <
 kf sp (xs.getD x'.snd (0 : Int)))) ∧
 x'.snd - x'.fst < x.snd - x.fst ∧
 (xs = xs ∧ (sp = sp ∧ True) ∧ True) ∧
 (↑x.fst : Int) = (↑x'.fst : Int) ∧
 IntKind.u64.wrap ((↑x.fst : Int) + (↑x.snd : Int)) / (2 : Int) ^ Int.toNat (1 : Int) =
 (↑x'.snd : Int) ∧
 IntKind.u64.wrap (a + b) / (2 : Int) ^ Int.toNat (1 : Int) + m - (1 : Int) =
 IntKind.u64.wrap (a + b) / (2 : Int) ^ Int.toNat (1 : Int) + m - (1 : Int) ∧
 IntKind.u64.wrap (a + b) / (2 : Int) ^ Int.toNat (1 : Int) + m =
 IntKind.u64.wrap (a + b) / (2 : Int) ^ Int.toNat (1 : Int) + m ∧
 IntKind.u64.wrap (a + b) / (2 : Int) ^ Int.toNat (1 : Int) =
 IntKind.u64.wrap (a + b) / (2 : Int) ^ Int.toNat (1 : Int) ∧
 True ∧ a = a ∧ m = m ∧ b = b ∧ True ∧ True)) ∧
 (¬(↑x.fst : Int) < (↑x.snd : Int) →
 ¬(↑x.fst : Int) < (↑x.snd : Int) ∧
 Fits IntKind.i64 (IntKind.u64.wrap (a + b) / (2 : Int) ^ Int.toNat (1 : Int) + m - (↑x.fst : Int)) ∧
 ((↑x.fst : Int) < m →
 (↑x.fst : Int) < m ∧
 (↑x.fst : Int) < m ∧
 (m < IntKind.u64.wrap (a + b) / (2 : Int) ^ Int.toNat (1 : Int) + m - (↑x.fst : Int) →
 m < IntKind.u64.wrap (a + b) / (2 : Int) ^ Int.toNat (1 : Int) + m - (↑x.fst : Int) ∧
 m < IntKind.u64.wrap (a + b) / (2 : Int) ^ Int.toNat (1 : Int) + m - (↑x.fst : Int) ∧
 True ∧
 (xs = xs ∧ True) ∧
 (True ∧
 (↑x.fst : Int) = (↑x.fst : Int) ∧
 m = m ∧
 IntKind.u64.wrap (a + b) / (2 : Int) ^ Int.toNat (1 : Int) + m - (↑x.fst : Int) =
 IntKind.u64.wrap (a + b) / (2 : Int) ^ Int.toNat (1 : Int) + m - (↑x.fst : Int) ∧
 True ∧ True) ∧
 (((0 : Int) ≤ (↑x.fst : Int) ∧
 (↑x.fst : Int) < m ∧
 m < IntKind.u64.wrap (a + b) / (2 : Int) ^ Int.toNat (1 : Int) + m - (↑x.fst : Int)) ∧
 IntKind.u64.wrap (a + b) / (2 : Int) ^ Int.toNat (1 : Int) + m - (↑x.fst : Int) ≤ (↑xs.length : Int) ∧
 xs.length ≤ (1000 : Nat)) ∧
 (a < (↑x.fst : Int) →
 a < (↑x.fst : Int) ∧
 a < (↑x.fst : Int) ∧
 ((↑x.fst : Int) < IntKind.u64.wrap (a + b) / (2 : Int) ^ Int.toNat (1 : Int) →
 (↑x.fst : Int) < IntKind.u64.wrap (a + b) / (2 : Int) ^ Int.toNat (1 : Int) ∧
 (↑x.fst : Int) < IntKind.u64.wrap (a + b) / (2 : Int) ^ Int.toNat (1 : Int) ∧
 True ∧
 (rotF xs (↑x.fst : Int).toNat m.toNat
 (IntKind.u64.wrap (a + b) / (2 : Int) ^ Int.toNat (1 : Int) + m -
 (↑x.fst : Int)).toNat =
 rotF xs (↑x.fst : Int).toNat m.toNat
 (IntKind.u64.wrap (a + b) / (2 : Int) ^ Int.toNat (1 : Int) + m -
 (↑x.fst : Int)).toNat ∧
 (sp = sp ∧ True) ∧ True) ∧
 (True ∧
 a = a ∧
 (↑x.fst : Int) = (↑x.fst : Int) ∧
 IntKind.u64.wrap (a + b) / (2 : Int) ^ Int.toNat (1 : Int) =
 IntKind.u64.wrap (a + b) / (2 : Int) ^ Int.toNat (1 : Int) ∧
 True ∧ True) ∧
 ((((0 : Int) ≤ a ∧
 a < (↑x.fst : Int) ∧
 (↑x.fst : Int) <
 IntKind.u64.wrap (a + b) / (2 : Int) ^ Int.toNat (1 : Int) ∧
 IntKind.u64.wrap (a + b) / (2 : Int) ^ Int.toNat (1 : Int) ≤
 (↑(rotF xs (↑x.fst : Int).toNat m.toNat
 (IntKind.u64.wrap (a + b) / (2 : Int) ^ Int.toNat (1 : Int) +
 m -
 (↑x.fst : Int)).toNat).length :
 Int) ∧
 (rotF xs (↑x.fst : Int).toNat m.toNat
 (IntKind.u64.wrap (a + b) / (2 : Int) ^ Int.toNat (1 : Int) + m -
 (↑x.fst : Int)).toNat).length ≤
 (1000 : Nat)) ∧
 ((∀ (e : Int),
 e ∈
 rotF xs (↑x.fst : Int).toNat m.toNat
 (IntKind.u64.wrap (a + b) / (2 : Int) ^ Int.toNat (1 : Int) + m -
 (↑x.fst : Int)).toNat →
 (0 : Int) ≤ e ∧ e < (↑sp.length : Int)) ∧
 ∀ (s : Sp), s ∈ sp → (0 : Int) ≤ s.fst ∧ s.fst ≤ (1000 : Int)) ∧
 (∀ (p q : Nat),
 a.toNat ≤ p →
 p < q →
 q <
 (IntKind.u64.wrap (a + b) /
 (2 : Int) ^ Int.toNat (1 : Int)).toNat →
 kf sp
 ((rotF xs (↑x.fst : Int).toNat m.toNat
 (IntKind.u64.wrap (a + b) /
 (2 : Int) ^ Int.toNat (1 : Int) +
 m -
 (↑x.fst : Int)).toNat).getD
 p (0 : Int)) =
 kf sp
 ((rotF xs (↑x.fst : Int).toNat m.toNat
 (IntKind.u64.wrap (a + b) /
 (2 : Int) ^ Int.toNat (1 : Int) +
 m -
 (↑x.fst : Int)).toNat).getD
 q (0 : Int)) →
 (rotF xs (↑x.fst : Int).toNat m.toNat
 (IntKind.u64.wrap (a + b) /
 (2 : Int) ^ Int.toNat (1 : Int) +
 m -
 (↑x.fst : Int)).toNat).getD
 p (0 : Int) <
 (rotF xs (↑x.fst : Int).toNat m.toNat
 (IntKind.u64.wrap (a + b) /
 (2 : Int) ^ Int.toNat (1 : Int) +
 m -
 (↑x.fst : Int)).toNat).getD
 q (0 : Int)) ∧
 (∀ (p q : Nat),
 a.toNat ≤ p →
 p < q →
 q < (↑x.fst : Int).toNat →
 leB sp
 ((rotF xs (↑x.fst : Int).toNat m.toNat
 (IntKind.u64.wrap (a + b) /
 (2 : Int) ^ Int.toNat (1 : Int) +
 m -
 (↑x.fst : Int)).toNat).getD
 p (0 : Int))
 ((rotF xs (↑x.fst : Int).toNat m.toNat
 (IntKind.u64.wrap (a + b) /
 (2 : Int) ^ Int.toNat (1 : Int) +
 m -
 (↑x.fst : Int)).toNat).getD
 q (0 : Int)) =
 true) ∧
 ∀ (p q : Nat),
 (↑x.fst : Int).toNat ≤ p →
 p < q →
 q <
 (IntKind.u64.wrap (a + b) /
 (2 : Int) ^ Int.toNat (1 : Int)).toNat →
 leB sp
 ((rotF xs (↑x.fst : Int).toNat m.toNat
 (IntKind.u64.wrap (a + b) /
 (2 : Int) ^ Int.toNat (1 : Int) +
 m -
 (↑x.fst : Int)).toNat).getD
 p (0 : Int))
 ((rotF xs (↑x.fst : Int).toNat m.toNat
 (IntKind.u64.wrap (a + b) /
 (2 : Int) ^ Int.toNat (1 : Int) +
 m -
 (↑x.fst : Int)).toNat).getD
 q (0 : Int)) =
 true) ∧
 m66
 (rotF xs (↑x.fst : Int).toNat m.toNat
 (IntKind.u64.wrap (a + b) / (2 : Int) ^ Int.toNat (1 : Int) + m -
 (↑x.fst : Int)).toNat,
 a, (↑x.fst : Int),
 IntKind.u64.wrap (a + b) / (2 : Int) ^ Int.toNat (1 : Int), sp) <
 m66 (xs, a, m, b, sp)) ∧
 (IntKind.u64.wrap (a + b) / (2 : Int) ^ Int.toNat (1 : Int) <
 IntKind.u64.wrap (a + b) / (2 : Int) ^ Int.toNat (1 : Int) + m -
 (↑x.fst : Int) →
 IntKind.u64.wrap (a + b) / (2 : Int) ^ Int.toNat (1 : Int) <
 IntKind.u64.wrap (a + b) / (2 : Int) ^ Int.toNat (1 : Int) + m -
 (↑x.fst : Int) ∧
 IntKind.u64.wrap (a + b) / (2 : Int) ^ Int.toNat (1 : Int) <
 IntKind.u64.wrap (a + b) / (2 : Int) ^ Int.toNat (1 : Int) + m -
 (↑x.fst : Int) ∧
 (IntKind.u64.wrap (a + b) / (2 : Int) ^ Int.toNat (1 : Int) + m -
 (↑x.fst : Int) <
 b →
 IntKind.u64.wrap (a + b) / (2 : Int) ^ Int.toNat (1 : Int) + m -
 (↑x.fst : Int) <
 b ∧
 IntKind.u64.wrap (a + b) / (2 : Int) ^ Int.toNat (1 : Int) + m -
 (↑x.fst : Int) <
 b ∧
 True ∧
 (sortSeg sp
 (rotF xs (↑x.fst : Int).toNat m.toNat
 (IntKind.u64.wrap (a + b) /
 (2 : Int) ^ Int.toNat (1 : Int) +
 m -
 (↑x.fst : Int)).toNat)
 a.toNat
 (IntKind.u64.wrap (a + b) /
 (2 : Int) ^ Int.toNat (1 : Int)).toNat =
 sortSeg sp
 (rotF xs (↑x.fst : Int).toNat m.toNat
 (IntKind.u64.wrap (a + b) /
 (2 : Int) ^ Int.toNat (1 : Int) +
 m -
 (↑x.fst : Int)).toNat)
 a.toNat
 (IntKind.u64.wrap (a + b) /
 (2 : Int) ^ Int.toNat (1 : Int)).toNat ∧
 (sp = sp ∧ True) ∧ True) ∧
 (True ∧
 IntKind.u64.wrap (a + b) / (2 : Int) ^ Int.toNat (1 : Int) =
 IntKind.u64.wrap (a + b) /
 (2 : Int) ^ Int.toNat (1 : Int) ∧
 IntKind.u64.wrap (a + b) /
 (2 : Int) ^ Int.toNat (1 : Int) +
 m -
 (↑x.fst : Int) =
 IntKind.u64.wrap (a + b) /
 (2 : Int) ^ Int.toNat (1 : Int) +
 m -
 (↑x.fst : Int) ∧
 b = b ∧ True ∧ True) ∧
 ((((0 : Int) ≤
 IntKind.u64.wrap (a + b) /
 (2 : Int) ^ Int.toNat (1 : Int) ∧
 IntKind.u64.wrap (a + b) /
 (2 : Int) ^ Int.toNat (1 : Int) <
 IntKind.u64.wrap (a + b) /
 (2 : Int) ^ Int.toNat (1 : Int) +
 m -
 (↑x.fst : Int) ∧
 IntKind.u64.wrap (a + b) /
 (2 : Int) ^ Int.toNat (1 : Int) +
 m -
 (↑x.fst : Int) <
 b ∧
 b ≤
 (↑(sortSeg sp
 (rotF xs (↑x.fst : Int).toNat m.toNat
 (IntKind.u64.wrap (a + b) /
 (2 : Int) ^
 Int.toNat (1 : Int) +
 m -
 (↑x.fst : Int)).toNat)
 a.toNat
 (IntKind.u64.wrap (a + b) /
 (2 : Int) ^
 Int.toNat
 (1 : Int)).toNat).length :
 Int) ∧
 (sortSeg sp
 (rotF xs (↑x.fst : Int).toNat m.toNat
 (IntKind.u64.wrap (a + b) /
 (2 : Int) ^
 Int.toNat (1 : Int) +
 m -
 (↑x.fst : Int)).toNat)
 a.toNat
 (IntKind.u64.wrap (a + b) /
 (2 : Int) ^
 Int.toNat (1 : Int)).toNat).length ≤
 (1000 : Nat)) ∧
 ((∀ (e : Int),
 e ∈
 sortSeg sp
 (rotF xs (↑x.fst : Int).toNat m.toNat
 (IntKind.u64.wrap (a + b) /
 (2 : Int) ^ Int.toNat (1 : Int) +
 m -
 (↑x.fst : Int)).toNat)
 a.toNat
 (IntKind.u64.wrap (a + b) /
 (2 : Int) ^ Int.toNat (1 : Int)).toNat →
 (0 : Int) ≤ e ∧ e < (↑sp.length : Int)) ∧
 ∀ (s : Sp),
 s ∈ sp →
 (0 : Int) ≤ s.fst ∧ s.fst ≤ (1000 : Int)) ∧
 (∀ (p q : Nat),
 (IntKind.u64.wrap (a + b) /
 (2 : Int) ^ Int.toNat (1 : Int)).toNat ≤
 p →
 p < q →
 q < b.toNat →
 kf sp
 ((sortSeg sp
 (rotF xs (↑x.fst : Int).toNat
 m.toNat
 (IntKind.u64.wrap (a + b) /
 (2 : Int) ^
 Int.toNat
 (1 : Int) +
 m -
 (↑x.fst : Int)).toNat)
 a.toNat
 (IntKind.u64.wrap (a + b) /
 (2 : Int) ^
 Int.toNat
 (1 : Int)).toNat).getD
 p (0 : Int)) =
 kf sp
 ((sortSeg sp
 (rotF xs (↑x.fst : Int).toNat
 m.toNat
 (IntKind.u64.wrap (a + b) /
 (2 : Int) ^
 Int.toNat
 (1 : Int) +
 m -
 (↑x.fst : Int)).toNat)
 a.toNat
 (IntKind.u64.wrap (a + b) /
 (2 : Int) ^
 Int.toNat
 (1 : Int)).toNat).getD
 q (0 : Int)) →
 (sortSeg sp
 (rotF xs (↑x.fst : Int).toNat
 m.toNat
 (IntKind.u64.wrap (a + b) /
 (2 : Int) ^
 Int.toNat (1 : Int) +
 m -
 (↑x.fst : Int)).toNat)
 a.toNat
 (IntKind.u64.wrap (a + b) /
 (2 : Int) ^
 Int.toNat
 (1 : Int)).toNat).getD
 p (0 : Int) <
 (sortSeg sp
 (rotF xs (↑x.fst : Int).toNat
 m.toNat
 (IntKind.u64.wrap (a + b) /
 (2 : Int) ^
 Int.toNat (1 : Int) +
 m -
 (↑x.fst : Int)).toNat)
 a.toNat
 (IntKind.u64.wrap (a + b) /
 (2 : Int) ^
 Int.toNat
 (1 : Int)).toNat).getD
 q (0 : Int)) ∧
 (∀ (p q : Nat),
 (IntKind.u64.wrap (a + b) /
 (2 : Int) ^ Int.toNat (1 : Int)).toNat ≤
 p →
 p < q →
 q <
 (IntKind.u64.wrap (a + b) /
 (2 : Int) ^
 Int.toNat (1 : Int) +
 m -
 (↑x.fst : Int)).toNat →
 leB sp
 ((sortSeg sp
 (rotF xs (↑x.fst : Int).toNat
 m.toNat
 (IntKind.u64.wrap (a + b) /
 (2 : Int) ^
 Int.toNat
 (1 : Int) +
 m -
 (↑x.fst : Int)).toNat)
 a.toNat
 (IntKind.u64.wrap (a + b) /
 (2 : Int) ^
 Int.toNat
 (1 : Int)).toNat).getD
 p (0 : Int))
 ((sortSeg sp
 (rotF xs (↑x.fst : Int).toNat
 m.toNat
 (IntKind.u64.wrap (a + b) /
 (2 : Int) ^
 Int.toNat
 (1 : Int) +
 m -
 (↑x.fst : Int)).toNat)
 a.toNat
 (IntKind.u64.wrap (a + b) /
 (2 : Int) ^
 Int.toNat
 (1 : Int)).toNat).getD
 q (0 : Int)) =
 true) ∧
 ∀ (p q : Nat),
 (IntKind.u64.wrap (a + b) /
 (2 : Int) ^ Int.toNat (1 : Int) +
 m -
 (↑x.fst : Int)).toNat ≤
 p →
 p < q →
 q < b.toNat →
 leB sp
 ((sortSeg sp
 (rotF xs (↑x.fst : Int).toNat
 m.toNat
 (IntKind.u64.wrap (a + b) /
 (2 : Int) ^
 Int.toNat
 (1 : Int) +
 m -
 (↑x.fst : Int)).toNat)
 a.toNat
 (IntKind.u64.wrap (a + b) /
 (2 : Int) ^
 Int.toNat
 (1 : Int)).toNat).getD
 p (0 : Int))
 ((sortSeg sp
 (rotF xs (↑x.fst : Int).toNat
 m.toNat
 (IntKind.u64.wrap (a + b) /
 (2 : Int) ^
 Int.toNat
 (1 : Int) +
 m -
 (↑x.fst : Int)).toNat)
 a.toNat
 (IntKind.u64.wrap (a + b) /
 (2 : Int) ^
 Int.toNat
 (1 : Int)).toNat).getD
 q (0 : Int)) =
 true) ∧
 m66
 (sortSeg sp
 (rotF xs (↑x.fst : Int).toNat m.toNat
 (IntKind.u64.wrap (a + b) /
 (2 : Int) ^ Int.toNat (1 : Int) +
 m -
 (↑x.fst : Int)).toNat)
 a.toNat
 (IntKind.u64.wrap (a + b) /
 (2 : Int) ^ Int.toNat (1 : Int)).toNat,
 IntKind.u64.wrap (a + b) /
 (2 : Int) ^ Int.toNat (1 : Int),
 IntKind.u64.wrap (a + b) /
 (2 : Int) ^ Int.toNat (1 : Int) +
 m -
 (↑x.fst : Int),
 b, sp) <
 m66 (xs, a, m, b, sp)) ∧
 True ∧
 sortSeg sp
 (sortSeg sp
 (rotF xs (↑x.fst : Int).toNat m.toNat
 (IntKind.u64.wrap (a + b) /
 (2 : Int) ^ Int.toNat (1 : Int) +
 m -
 (↑x.fst : Int)).toNat)
 a.toNat
 (IntKind.u64.wrap (a + b) /
 (2 : Int) ^ Int.toNat (1 : Int)).toNat)
 (IntKind.u64.wrap (a + b) /
 (2 : Int) ^ Int.toNat (1 : Int)).toNat
 b.toNat =
 sortSeg sp xs a.toNat b.toNat ∧
 (sp = sp ∧ True) ∧ True) ∧
 (¬IntKind.u64.wrap (a + b) / (2 : Int) ^ Int.toNat (1 : Int) + m -
 (↑x.fst : Int) <
 b →
 ¬IntKind.u64.wrap (a + b) / (2 : Int) ^ Int.toNat (1 : Int) + m -
 (↑x.fst : Int) <
 b ∧
 ¬IntKind.u64.wrap (a + b) / (2 : Int) ^ Int.toNat (1 : Int) + m -
 (↑x.fst : Int) <
 b ∧
 True ∧
 sortSeg sp
 (rotF xs (↑x.fst : Int).toNat m.toNat
 (IntKind.u64.wrap (a + b) /
 (2 : Int) ^ Int.toNat (1 : Int) +
 m -
 (↑x.fst : Int)).toNat)
 a.toNat
 (IntKind.u64.wrap (a + b) /
 (2 : Int) ^ Int.toNat (1 : Int)).toNat =
 sortSeg sp xs a.toNat b.toNat ∧
 (sp = sp ∧ True) ∧ True)) ∧
 (¬IntKind.u64.wrap (a + b) / (2 : Int) ^ Int.toNat (1 : Int) <
 IntKind.u64.wrap (a + b) / (2 : Int) ^ Int.toNat (1 : Int) + m -
 (↑x.fst : Int) →
 ¬IntKind.u64.wrap (a + b) / (2 : Int) ^ Int.toNat (1 : Int) <
 IntKind.u64.wrap (a + b) / (2 : Int) ^ Int.toNat (1 : Int) + m -
 (↑x.fst : Int) ∧
 ¬IntKind.u64.wrap (a + b) / (2 : Int) ^ Int.toNat (1 : Int) <
 IntKind.u64.wrap (a + b) / (2 : Int) ^ Int.toNat (1 : Int) + m -
 (↑x.fst : Int) ∧
 True ∧
 sortSeg sp
 (rotF xs (↑x.fst : Int).toNat m.toNat
 (IntKind.u64.wrap (a + b) / (2 : Int) ^ Int.toNat (1 : Int) + m -
 (↑x.fst : Int)).toNat)
 a.toNat
 (IntKind.u64.wrap (a + b) / (2 : Int) ^ Int.toNat (1 : Int)).toNat =
 sortSeg sp xs a.toNat b.toNat ∧
 (sp = sp ∧ True) ∧ True)) ∧
 (¬(↑x.fst : Int) < IntKind.u64.wrap (a + b) / (2 : Int) ^ Int.toNat (1 : Int) →
 ¬(↑x.fst : Int) < IntKind.u64.wrap (a + b) / (2 : Int) ^ Int.toNat (1 : Int) ∧
 ¬(↑x.fst : Int) < IntKind.u64.wrap (a + b) / (2 : Int) ^ Int.toNat (1 : Int) ∧
 (IntKind.u64.wrap (a + b) / (2 : Int) ^ Int.toNat (1 : Int) <
 IntKind.u64.wrap (a + b) / (2 : Int) ^ Int.toNat (1 : Int) + m - (↑x.fst : Int) →
 IntKind.u64.wrap (a + b) / (2 : Int) ^ Int.toNat (1 : Int) <
 IntKind.u64.wrap (a + b) / (2 : Int) ^ Int.toNat (1 : Int) + m - (↑x.fst : Int) ∧
 IntKind.u64.wrap (a + b) / (2 : Int) ^ Int.toNat (1 : Int) <
 IntKind.u64.wrap (a + b) / (2 : Int) ^ Int.toNat (1 : Int) + m - (↑x.fst : Int) ∧
 (IntKind.u64.wrap (a + b) / (2 : Int) ^ Int.toNat (1 : Int) + m - (↑x.fst : Int) <
 b →
 IntKind.u64.wrap (a + b) / (2 : Int) ^ Int.toNat (1 : Int) + m -
 (↑x.fst : Int) <
 b ∧
 IntKind.u64.wrap (a + b) / (2 : Int) ^ Int.toNat (1 : Int) + m -
 (↑x.fst : Int) <
 b ∧
 True ∧
 (rotF xs (↑x.fst : Int).toNat m.toNat
 (IntKind.u64.wrap (a + b) / (2 : Int) ^ Int.toNat (1 : Int) + m -
 (↑x.fst : Int)).toNat =
 rotF xs (↑x.fst : Int).toNat m.toNat
 (IntKind.u64.wrap (a + b) / (2 : Int) ^ Int.toNat (1 : Int) + m -
 (↑x.fst : Int)).toNat ∧
 (sp = sp ∧ True) ∧ True) ∧
 (True ∧
 IntKind.u64.wrap (a + b) / (2 : Int) ^ Int.toNat (1 : Int) =
 IntKind.u64.wrap (a + b) / (2 : Int) ^ Int.toNat (1 : Int) ∧
 IntKind.u64.wrap (a + b) / (2 : Int) ^ Int.toNat (1 : Int) + m -
 (↑x.fst : Int) =
 IntKind.u64.wrap (a + b) / (2 : Int) ^ Int.toNat (1 : Int) +
 m -
 (↑x.fst : Int) ∧
 b = b ∧ True ∧ True) ∧
 ((((0 : Int) ≤
 IntKind.u64.wrap (a + b) / (2 : Int) ^ Int.toNat (1 : Int) ∧
 IntKind.u64.wrap (a + b) / (2 : Int) ^ Int.toNat (1 : Int) <
 IntKind.u64.wrap (a + b) /
 (2 : Int) ^ Int.toNat (1 : Int) +
 m -
 (↑x.fst : Int) ∧
 IntKind.u64.wrap (a + b) / (2 : Int) ^ Int.toNat (1 : Int) +
 m -
 (↑x.fst : Int) <
 b ∧
 b ≤
 (↑(rotF xs (↑x.fst : Int).toNat m.toNat
 (IntKind.u64.wrap (a + b) /
 (2 : Int) ^ Int.toNat (1 : Int) +
 m -
 (↑x.fst : Int)).toNat).length :
 Int) ∧
 (rotF xs (↑x.fst : Int).toNat m.toNat
 (IntKind.u64.wrap (a + b) /
 (2 : Int) ^ Int.toNat (1 : Int) +
 m -
 (↑x.fst : Int)).toNat).length ≤
 (1000 : Nat)) ∧
 ((∀ (e : Int),
 e ∈
 rotF xs (↑x.fst : Int).toNat m.toNat
 (IntKind.u64.wrap (a + b) /
 (2 : Int) ^ Int.toNat (1 : Int) +
 m -
 (↑x.fst : Int)).toNat →
 (0 : Int) ≤ e ∧ e < (↑sp.length : Int)) ∧
 ∀ (s : Sp),
 s ∈ sp → (0 : Int) ≤ s.fst ∧ s.fst ≤ (1000 : Int)) ∧
 (∀ (p q : Nat),
 (IntKind.u64.wrap (a + b) /
 (2 : Int) ^ Int.toNat (1 : Int)).toNat ≤
 p →
 p < q →
 q < b.toNat →
 kf sp
 ((rotF xs (↑x.fst : Int).toNat m.toNat
 (IntKind.u64.wrap (a + b) /
 (2 : Int) ^
 Int.toNat (1 : Int) +
 m -
 (↑x.fst : Int)).toNat).getD
 p (0 : Int)) =
 kf sp
 ((rotF xs (↑x.fst : Int).toNat m.toNat
 (IntKind.u64.wrap (a + b) /
 (2 : Int) ^
 Int.toNat (1 : Int) +
 m -
 (↑x.fst : Int)).toNat).getD
 q (0 : Int)) →
 (rotF xs (↑x.fst : Int).toNat m.toNat
 (IntKind.u64.wrap (a + b) /
 (2 : Int) ^ Int.toNat (1 : Int) +
 m -
 (↑x.fst : Int)).toNat).getD
 p (0 : Int) <
 (rotF xs (↑x.fst : Int).toNat m.toNat
 (IntKind.u64.wrap (a + b) /
 (2 : Int) ^ Int.toNat (1 : Int) +
 m -
 (↑x.fst : Int)).toNat).getD
 q (0 : Int)) ∧
 (∀ (p q : Nat),
 (IntKind.u64.wrap (a + b) /
 (2 : Int) ^ Int.toNat (1 : Int)).toNat ≤
 p →
 p < q →
 q <
 (IntKind.u64.wrap (a + b) /
 (2 : Int) ^ Int.toNat (1 : Int) +
 m -
 (↑x.fst : Int)).toNat →
 leB sp
 ((rotF xs (↑x.fst : Int).toNat m.toNat
 (IntKind.u64.wrap (a + b) /
 (2 : Int) ^
 Int.toNat (1 : Int) +
 m -
 (↑x.fst : Int)).toNat).getD
 p (0 : Int))
 ((rotF xs (↑x.fst : Int).toNat m.toNat
 (IntKind.u64.wrap (a + b) /
 (2 : Int) ^
 Int.toNat (1 : Int) +
 m -
 (↑x.fst : Int)).toNat).getD
 q (0 : Int)) =
 true) ∧
 ∀ (p q : Nat),
 (IntKind.u64.wrap (a + b) /
 (2 : Int) ^ Int.toNat (1 : Int) +
 m -
 (↑x.fst : Int)).toNat ≤
 p →
 p < q →
 q < b.toNat →
 leB sp
 ((rotF xs (↑x.fst : Int).toNat m.toNat
 (IntKind.u64.wrap (a + b) /
 (2 : Int) ^
 Int.toNat (1 : Int) +
 m -
 (↑x.fst : Int)).toNat).getD
 p (0 : Int))
 ((rotF xs (↑x.fst : Int).toNat m.toNat
 (IntKind.u64.wrap (a + b) /
 (2 : Int) ^
 Int.toNat (1 : Int) +
 m -
 (↑x.fst : Int)).toNat).getD
 q (0 : Int)) =
 true) ∧
 m66
 (rotF xs (↑x.fst : Int).toNat m.toNat
 (IntKind.u64.wrap (a + b) /
 (2 : Int) ^ Int.toNat (1 : Int) +
 m -
 (↑x.fst : Int)).toNat,
 IntKind.u64.wrap (a + b) / (2 : Int) ^ Int.toNat (1 : Int),
 IntKind.u64.wrap (a + b) / (2 : Int) ^ Int.toNat (1 : Int) +
 m -
 (↑x.fst : Int),
 b, sp) <
 m66 (xs, a, m, b, sp)) ∧
 True ∧
 sortSeg sp
 (rotF xs (↑x.fst : Int).toNat m.toNat
 (IntKind.u64.wrap (a + b) /
 (2 : Int) ^ Int.toNat (1 : Int) +
 m -
 (↑x.fst : Int)).toNat)
 (IntKind.u64.wrap (a + b) /
 (2 : Int) ^ Int.toNat (1 : Int)).toNat
 b.toNat =
 sortSeg sp xs a.toNat b.toNat ∧
 (sp = sp ∧ True) ∧ True) ∧
 (¬IntKind.u64.wrap (a + b) / (2 : Int) ^ Int.toNat (1 : Int) + m -
 (↑x.fst : Int) <
 b →
 ¬IntKind.u64.wrap (a + b) / (2 : Int) ^ Int.toNat (1 : Int) + m -
 (↑x.fst : Int) <
 b ∧
 ¬IntKind.u64.wrap (a + b) / (2 : Int) ^ Int.toNat (1 : Int) + m -
 (↑x.fst : Int) <
 b ∧
 True ∧
 rotF xs (↑x.fst : Int).toNat m.toNat
 (IntKind.u64.wrap (a + b) / (2 : Int) ^ Int.toNat (1 : Int) + m -
 (↑x.fst : Int)).toNat =
 sortSeg sp xs a.toNat b.toNat ∧
 (sp = sp ∧ True) ∧ True)) ∧
 (¬IntKind.u64.wrap (a + b) / (2 : Int) ^ Int.toNat (1 : Int) <
 IntKind.u64.wrap (a + b) / (2 : Int) ^ Int.toNat (1 : Int) + m - (↑x.fst : Int) →
 ¬IntKind.u64.wrap (a + b) / (2 : Int) ^ Int.toNat (1 : Int) <
 IntKind.u64.wrap (a + b) / (2 : Int) ^ Int.toNat (1 : Int) + m - (↑x.fst : Int) ∧
 ¬IntKind.u64.wrap (a + b) / (2 : Int) ^ Int.toNat (1 : Int) <
 IntKind.u64.wrap (a + b) / (2 : Int) ^ Int.toNat (1 : Int) + m -
 (↑x.fst : Int) ∧
 True ∧
 rotF xs (↑x.fst : Int).toNat m.toNat
 (IntKind.u64.wrap (a + b) / (2 : Int) ^ Int.toNat (1 : Int) + m -
 (↑x.fst : Int)).toNat =
 sortSeg sp xs a.toNat b.toNat ∧
 (sp = sp ∧ True) ∧ True))) ∧
 (¬a < (↑x.fst : Int) →
 ¬a < (↑x.fst : Int) ∧
 ¬a < (↑x.fst : Int) ∧
 (IntKind.u64.wrap (a + b) / (2 : Int) ^ Int.toNat (1 : Int) <
 IntKind.u64.wrap (a + b) / (2 : Int) ^ Int.toNat (1 : Int) + m - (↑x.fst : Int) →
 IntKind.u64.wrap (a + b) / (2 : Int) ^ Int.toNat (1 : Int) <
 IntKind.u64.wrap (a + b) / (2 : Int) ^ Int.toNat (1 : Int) + m - (↑x.fst : Int) ∧
 IntKind.u64.wrap (a + b) / (2 : Int) ^ Int.toNat (1 : Int) <
 IntKind.u64.wrap (a + b) / (2 : Int) ^ Int.toNat (1 : Int) + m - (↑x.fst : Int) ∧
 (IntKind.u64.wrap (a + b) / (2 : Int) ^ Int.toNat (1 : Int) + m - (↑x.fst : Int) < b →
 IntKind.u64.wrap (a + b) / (2 : Int) ^ Int.toNat (1 : Int) + m - (↑x.fst : Int) < b ∧
 IntKind.u64.wrap (a + b) / (2 : Int) ^ Int.toNat (1 : Int) + m - (↑x.fst : Int) < b ∧
 True ∧
 (rotF xs (↑x.fst : Int).toNat m.toNat
 (IntKind.u64.wrap (a + b) / (2 : Int) ^ Int.toNat (1 : Int) + m -
 (↑x.fst : Int)).toNat =
 rotF xs (↑x.fst : Int).toNat m.toNat
 (IntKind.u64.wrap (a + b) / (2 : Int) ^ Int.toNat (1 : Int) + m -
 (↑x.fst : Int)).toNat ∧
 (sp = sp ∧ True) ∧ True) ∧
 (True ∧
 IntKind.u64.wrap (a + b) / (2 : Int) ^ Int.toNat (1 : Int) =
 IntKind.u64.wrap (a + b) / (2 : Int) ^ Int.toNat (1 : Int) ∧
 IntKind.u64.wrap (a + b) / (2 : Int) ^ Int.toNat (1 : Int) + m -
 (↑x.fst : Int) =
 IntKind.u64.wrap (a + b) / (2 : Int) ^ Int.toNat (1 : Int) + m -
 (↑x.fst : Int) ∧
 b = b ∧ True ∧ True) ∧
 ((((0 : Int) ≤ IntKind.u64.wrap (a + b) / (2 : Int) ^ Int.toNat (1 : Int) ∧
 IntKind.u64.wrap (a + b) / (2 : Int) ^ Int.toNat (1 : Int) <
 IntKind.u64.wrap (a + b) / (2 : Int) ^ Int.toNat (1 : Int) + m -
 (↑x.fst : Int) ∧
 IntKind.u64.wrap (a + b) / (2 : Int) ^ Int.toNat (1 : Int) + m -
 (↑x.fst : Int) <
 b ∧
 b ≤
 (↑(rotF xs (↑x.fst : Int).toNat m.toNat
 (IntKind.u64.wrap (a + b) /
 (2 : Int) ^ Int.toNat (1 : Int) +
 m -
 (↑x.fst : Int)).toNat).length :
 Int) ∧
 (rotF xs (↑x.fst : Int).toNat m.toNat
 (IntKind.u64.wrap (a + b) /
 (2 : Int) ^ Int.toNat (1 : Int) +
 m -
 (↑x.fst : Int)).toNat).length ≤
 (1000 : Nat)) ∧
 ((∀ (e : Int),
 e ∈
 rotF xs (↑x.fst : Int).toNat m.toNat
 (IntKind.u64.wrap (a + b) /
 (2 : Int) ^ Int.toNat (1 : Int) +
 m -
 (↑x.fst : Int)).toNat →
 (0 : Int) ≤ e ∧ e < (↑sp.length : Int)) ∧
 ∀ (s : Sp), s ∈ sp → (0 : Int) ≤ s.fst ∧ s.fst ≤ (1000 : Int)) ∧
 (∀ (p q : Nat),
 (IntKind.u64.wrap (a + b) /
 (2 : Int) ^ Int.toNat (1 : Int)).toNat ≤
 p →
 p < q →
 q < b.toNat →
 kf sp
 ((rotF xs (↑x.fst : Int).toNat m.toNat
 (IntKind.u64.wrap (a + b) /
 (2 : Int) ^ Int.toNat (1 : Int) +
 m -
 (↑x.fst : Int)).toNat).getD
 p (0 : Int)) =
 kf sp
 ((rotF xs (↑x.fst : Int).toNat m.toNat
 (IntKind.u64.wrap (a + b) /
 (2 : Int) ^ Int.toNat (1 : Int) +
 m -
 (↑x.fst : Int)).toNat).getD
 q (0 : Int)) →
 (rotF xs (↑x.fst : Int).toNat m.toNat
 (IntKind.u64.wrap (a + b) /
 (2 : Int) ^ Int.toNat (1 : Int) +
 m -
 (↑x.fst : Int)).toNat).getD
 p (0 : Int) <
 (rotF xs (↑x.fst : Int).toNat m.toNat
 (IntKind.u64.wrap (a + b) /
 (2 : Int) ^ Int.toNat (1 : Int) +
 m -
 (↑x.fst : Int)).toNat).getD
 q (0 : Int)) ∧
 (∀ (p q : Nat),
 (IntKind.u64.wrap (a + b) /
 (2 : Int) ^ Int.toNat (1 : Int)).toNat ≤
 p →
 p < q →
 q <
 (IntKind.u64.wrap (a + b) /
 (2 : Int) ^ Int.toNat (1 : Int) +
 m -
 (↑x.fst : Int)).toNat →
 leB sp
 ((rotF xs (↑x.fst : Int).toNat m.toNat
 (IntKind.u64.wrap (a + b) /
 (2 : Int) ^ Int.toNat (1 : Int) +
 m -
 (↑x.fst : Int)).toNat).getD
 p (0 : Int))
 ((rotF xs (↑x.fst : Int).toNat m.toNat
 (IntKind.u64.wrap (a + b) /
 (2 : Int) ^ Int.toNat (1 : Int) +
 m -
 (↑x.fst : Int)).toNat).getD
 q (0 : Int)) =
 true) ∧
 ∀ (p q : Nat),
 (IntKind.u64.wrap (a + b) / (2 : Int) ^ Int.toNat (1 : Int) +
 m -
 (↑x.fst : Int)).toNat ≤
 p →
 p < q →
 q < b.toNat →
 leB sp
 ((rotF xs (↑x.fst : Int).toNat m.toNat
 (IntKind.u64.wrap (a + b) /
 (2 : Int) ^ Int.toNat (1 : Int) +
 m -
 (↑x.fst : Int)).toNat).getD
 p (0 : Int))
 ((rotF xs (↑x.fst : Int).toNat m.toNat
 (IntKind.u64.wrap (a + b) /
 (2 : Int) ^ Int.toNat (1 : Int) +
 m -
 (↑x.fst : Int)).toNat).getD
 q (0 : Int)) =
 true) ∧
 m66
 (rotF xs (↑x.fst : Int).toNat m.toNat
 (IntKind.u64.wrap (a + b) / (2 : Int) ^ Int.toNat (1 : Int) + m -
 (↑x.fst : Int)).toNat,
 IntKind.u64.wrap (a + b) / (2 : Int) ^ Int.toNat (1 : Int),
 IntKind.u64.wrap (a + b) / (2 : Int) ^ Int.toNat (1 : Int) + m -
 (↑x.fst : Int),
 b, sp) <
 m66 (xs, a, m, b, sp)) ∧
 True ∧
 sortSeg sp
 (rotF xs (↑x.fst : Int).toNat m.toNat
 (IntKind.u64.wrap (a + b) / (2 : Int) ^ Int.toNat (1 : Int) + m -
 (↑x.fst : Int)).toNat)
 (IntKind.u64.wrap (a + b) / (2 : Int) ^ Int.toNat (1 : Int)).toNat
 b.toNat =
 sortSeg sp xs a.toNat b.toNat ∧
 (sp = sp ∧ True) ∧ True) ∧
 (¬IntKind.u64.wrap (a + b) / (2 : Int) ^ Int.toNat (1 : Int) + m - (↑x.fst : Int) < b →
 ¬IntKind.u64.wrap (a + b) / (2 : Int) ^ Int.toNat (1 : Int) + m - (↑x.fst : Int) < b ∧
 ¬IntKind.u64.wrap (a + b) / (2 : Int) ^ Int.toNat (1 : Int) + m - (↑x.fst : Int) < b ∧
 True ∧
 rotF xs (↑x.fst : Int).toNat m.toNat
 (IntKind.u64.wrap (a + b) / (2 : Int) ^ Int.toNat (1 : Int) + m -
 (↑x.fst : Int)).toNat =
 sortSeg sp xs a.toNat b.toNat ∧
 (sp = sp ∧ True) ∧ True)) ∧
 (¬IntKind.u64.wrap (a + b) / (2 : Int) ^ Int.toNat (1 : Int) <
 IntKind.u64.wrap (a + b) / (2 : Int) ^ Int.toNat (1 : Int) + m - (↑x.fst : Int) →
 ¬IntKind.u64.wrap (a + b) / (2 : Int) ^ Int.toNat (1 : Int) <
 IntKind.u64.wrap (a + b) / (2 : Int) ^ Int.toNat (1 : Int) + m - (↑x.fst : Int) ∧
 ¬IntKind.u64.wrap (a + b) / (2 : Int) ^ Int.toNat (1 : Int) <
 IntKind.u64.wrap (a + b) / (2 : Int) ^ Int.toNat (1 : Int) + m - (↑x.fst : Int) ∧
 True ∧
 rotF xs (↑x.fst : Int).toNat m.toNat
 (IntKind.u64.wrap (a + b) / (2 : Int) ^ Int.toNat (1 : Int) + m -
 (↑x.fst : Int)).toNat =
 sortSeg sp xs a.toNat b.toNat ∧
 (sp = sp ∧ True) ∧ True))) ∧
 (¬m < IntKind.u64.wrap (a + b) / (2 : Int) ^ Int.toNat (1 : Int) + m - (↑x.fst : Int) →
 ¬m < IntKind.u64.wrap (a + b) / (2 : Int) ^ Int.toNat (1 : Int) + m - (↑x.fst : Int) ∧
 ¬m < IntKind.u64.wrap (a + b) / (2 : Int) ^ Int.toNat (1 : Int) + m - (↑x.fst : Int) ∧
 (a < (↑x.fst : Int) →
 a < (↑x.fst : Int) ∧
 a < (↑x.fst : Int) ∧
 ((↑x.fst : Int) < IntKind.u64.wrap (a + b) / (2 : Int) ^ Int.toNat (1 : Int) →
 (↑x.fst : Int) < IntKind.u64.wrap (a + b) / (2 : Int) ^ Int.toNat (1 : Int) ∧
 (↑x.fst : Int) < IntKind.u64.wrap (a + b) / (2 : Int) ^ Int.toNat (1 : Int) ∧
 True ∧
 (xs = xs ∧ (sp = sp ∧ True) ∧ True) ∧
 (True ∧
 a = a ∧
 (↑x.fst : Int) = (↑x.fst : Int) ∧
 IntKind.u64.wrap (a + b) / (2 : Int) ^ Int.toNat (1 : Int) =
 IntKind.u64.wrap (a + b) / (2 : Int) ^ Int.toNat (1 : Int) ∧
 True ∧ True) ∧
 ((((0 : Int) ≤ a ∧
 a < (↑x.fst : Int) ∧
 (↑x.fst : Int) < IntKind.u64.wrap (a + b) / (2 : Int) ^ Int.toNat (1 : Int) ∧
 IntKind.u64.wrap (a + b) / (2 : Int) ^ Int.toNat (1 : Int) ≤ (↑xs.length : Int) ∧
 xs.length ≤ (1000 : Nat)) ∧
 ((∀ (e : Int), e ∈ xs → (0 : Int) ≤ e ∧ e < (↑sp.length : Int)) ∧
 ∀ (s : Sp), s ∈ sp → (0 : Int) ≤ s.fst ∧ s.fst ≤ (1000 : Int)) ∧
 (∀ (p q : Nat),
 a.toNat ≤ p →
 p < q →
 q < (IntKind.u64.wrap (a + b) / (2 : Int) ^ Int.toNat (1 : Int)).toNat →
 kf sp (xs.getD p (0 : Int)) = kf sp (xs.getD q (0 : Int)) →
 xs.getD p (0 : Int) < xs.getD q (0 : Int)) ∧
 (∀ (p q : Nat),
 a.toNat ≤ p →
 p < q →
 q < (↑x.fst : Int).toNat →
 leB sp (xs.getD p (0 : Int)) (xs.getD q (0 : Int)) = true) ∧
 ∀ (p q : Nat),
 (↑x.fst : Int).toNat ≤ p →
 p < q →
 q < (IntKind.u64.wrap (a + b) / (2 : Int) ^ Int.toNat (1 : Int)).toNat →
 leB sp (xs.getD p (0 : Int)) (xs.getD q (0 : Int)) = true) ∧
 m66
 (xs, a, (↑x.fst : Int), IntKind.u64.wrap (a + b) / (2 : Int) ^ Int.toNat (1 : Int),
 sp) <
 m66 (xs, a, m, b, sp)) ∧
 (IntKind.u64.wrap (a + b) / (2 : Int) ^ Int.toNat (1 : Int) <
 IntKind.u64.wrap (a + b) / (2 : Int) ^ Int.toNat (1 : Int) + m - (↑x.fst : Int) →
 IntKind.u64.wrap (a + b) / (2 : Int) ^ Int.toNat (1 : Int) <
 IntKind.u64.wrap (a + b) / (2 : Int) ^ Int.toNat (1 : Int) + m - (↑x.fst : Int) ∧
 IntKind.u64.wrap (a + b) / (2 : Int) ^ Int.toNat (1 : Int) <
 IntKind.u64.wrap (a + b) / (2 : Int) ^ Int.toNat (1 : Int) + m - (↑x.fst : Int) ∧
 (IntKind.u64.wrap (a + b) / (2 : Int) ^ Int.toNat (1 : Int) + m - (↑x.fst : Int) <
 b →
 IntKind.u64.wrap (a + b) / (2 : Int) ^ Int.toNat (1 : Int) + m -
 (↑x.fst : Int) <
 b ∧
 IntKind.u64.wrap (a + b) / (2 : Int) ^ Int.toNat (1 : Int) + m -
 (↑x.fst : Int) <
 b ∧
 True ∧
 (sortSeg sp xs a.toNat
 (IntKind.u64.wrap (a + b) /
 (2 : Int) ^ Int.toNat (1 : Int)).toNat =
 sortSeg sp xs a.toNat
 (IntKind.u64.wrap (a + b) /
 (2 : Int) ^ Int.toNat (1 : Int)).toNat ∧
 (sp = sp ∧ True) ∧ True) ∧
 (True ∧
 IntKind.u64.wrap (a + b) / (2 : Int) ^ Int.toNat (1 : Int) =
 IntKind.u64.wrap (a + b) / (2 : Int) ^ Int.toNat (1 : Int) ∧
 IntKind.u64.wrap (a + b) / (2 : Int) ^ Int.toNat (1 : Int) + m -
 (↑x.fst : Int) =
 IntKind.u64.wrap (a + b) / (2 : Int) ^ Int.toNat (1 : Int) +
 m -
 (↑x.fst : Int) ∧
 b = b ∧ True ∧ True) ∧
 ((((0 : Int) ≤
 IntKind.u64.wrap (a + b) / (2 : Int) ^ Int.toNat (1 : Int) ∧
 IntKind.u64.wrap (a + b) / (2 : Int) ^ Int.toNat (1 : Int) <
 IntKind.u64.wrap (a + b) /
 (2 : Int) ^ Int.toNat (1 : Int) +
 m -
 (↑x.fst : Int) ∧
 IntKind.u64.wrap (a + b) / (2 : Int) ^ Int.toNat (1 : Int) +
 m -
 (↑x.fst : Int) <
 b ∧
 b ≤
 (↑(sortSeg sp xs a.toNat
 (IntKind.u64.wrap (a + b) /
 (2 : Int) ^
 Int.toNat (1 : Int)).toNat).length :
 Int) ∧
 (sortSeg sp xs a.toNat
 (IntKind.u64.wrap (a + b) /
 (2 : Int) ^
 Int.toNat (1 : Int)).toNat).length ≤
 (1000 : Nat)) ∧
 ((∀ (e : Int),
 e ∈
 sortSeg sp xs a.toNat
 (IntKind.u64.wrap (a + b) /
 (2 : Int) ^ Int.toNat (1 : Int)).toNat →
 (0 : Int) ≤ e ∧ e < (↑sp.length : Int)) ∧
 ∀ (s : Sp),
 s ∈ sp → (0 : Int) ≤ s.fst ∧ s.fst ≤ (1000 : Int)) ∧
 (∀ (p q : Nat),
 (IntKind.u64.wrap (a + b) /
 (2 : Int) ^ Int.toNat (1 : Int)).toNat ≤
 p →
 p < q →
 q < b.toNat →
 kf sp
 ((sortSeg sp xs a.toNat
 (IntKind.u64.wrap (a + b) /
 (2 : Int) ^
 Int.toNat (1 : Int)).toNat).getD
 p (0 : Int)) =
 kf sp
 ((sortSeg sp xs a.toNat
 (IntKind.u64.wrap (a + b) /
 (2 : Int) ^
 Int.toNat (1 : Int)).toNat).getD
 q (0 : Int)) →
 (sortSeg sp xs a.toNat
 (IntKind.u64.wrap (a + b) /
 (2 : Int) ^
 Int.toNat (1 : Int)).toNat).getD
 p (0 : Int) <
 (sortSeg sp xs a.toNat
 (IntKind.u64.wrap (a + b) /
 (2 : Int) ^
 Int.toNat (1 : Int)).toNat).getD
 q (0 : Int)) ∧
 (∀ (p q : Nat),
 (IntKind.u64.wrap (a + b) /
 (2 : Int) ^ Int.toNat (1 : Int)).toNat ≤
 p →
 p < q →
 q <
 (IntKind.u64.wrap (a + b) /
 (2 : Int) ^ Int.toNat (1 : Int) +
 m -
 (↑x.fst : Int)).toNat →
 leB sp
 ((sortSeg sp xs a.toNat
 (IntKind.u64.wrap (a + b) /
 (2 : Int) ^
 Int.toNat (1 : Int)).toNat).getD
 p (0 : Int))
 ((sortSeg sp xs a.toNat
 (IntKind.u64.wrap (a + b) /
 (2 : Int) ^
 Int.toNat (1 : Int)).toNat).getD
 q (0 : Int)) =
 true) ∧
 ∀ (p q : Nat),
 (IntKind.u64.wrap (a + b) /
 (2 : Int) ^ Int.toNat (1 : Int) +
 m -
 (↑x.fst : Int)).toNat ≤
 p →
 p < q →
 q < b.toNat →
 leB sp
 ((sortSeg sp xs a.toNat
 (IntKind.u64.wrap (a + b) /
 (2 : Int) ^
 Int.toNat (1 : Int)).toNat).getD
 p (0 : Int))
 ((sortSeg sp xs a.toNat
 (IntKind.u64.wrap (a + b) /
 (2 : Int) ^
 Int.toNat (1 : Int)).toNat).getD
 q (0 : Int)) =
 true) ∧
 m66
 (sortSeg sp xs a.toNat
 (IntKind.u64.wrap (a + b) /
 (2 : Int) ^ Int.toNat (1 : Int)).toNat,
 IntKind.u64.wrap (a + b) / (2 : Int) ^ Int.toNat (1 : Int),
 IntKind.u64.wrap (a + b) / (2 : Int) ^ Int.toNat (1 : Int) +
 m -
 (↑x.fst : Int),
 b, sp) <
 m66 (xs, a, m, b, sp)) ∧
 True ∧
 sortSeg sp
 (sortSeg sp xs a.toNat
 (IntKind.u64.wrap (a + b) /
 (2 : Int) ^ Int.toNat (1 : Int)).toNat)
 (IntKind.u64.wrap (a + b) /
 (2 : Int) ^ Int.toNat (1 : Int)).toNat
 b.toNat =
 sortSeg sp xs a.toNat b.toNat ∧
 (sp = sp ∧ True) ∧ True) ∧
 (¬IntKind.u64.wrap (a + b) / (2 : Int) ^ Int.toNat (1 : Int) + m -
 (↑x.fst : Int) <
 b →
 ¬IntKind.u64.wrap (a + b) / (2 : Int) ^ Int.toNat (1 : Int) + m -
 (↑x.fst : Int) <
 b ∧
 ¬IntKind.u64.wrap (a + b) / (2 : Int) ^ Int.toNat (1 : Int) + m -
 (↑x.fst : Int) <
 b ∧
 True ∧
 sortSeg sp xs a.toNat
 (IntKind.u64.wrap (a + b) / (2 : Int) ^ Int.toNat (1 : Int)).toNat =
 sortSeg sp xs a.toNat b.toNat ∧
 (sp = sp ∧ True) ∧ True)) ∧
 (¬IntKind.u64.wrap (a + b) / (2 : Int) ^ Int.toNat (1 : Int) <
 IntKind.u64.wrap (a + b) / (2 : Int) ^ Int.toNat (1 : Int) + m - (↑x.fst : Int) →
 ¬IntKind.u64.wrap (a + b) / (2 : Int) ^ Int.toNat (1 : Int) <
 IntKind.u64.wrap (a + b) / (2 : Int) ^ Int.toNat (1 : Int) + m - (↑x.fst : Int) ∧
 ¬IntKind.u64.wrap (a + b) / (2 : Int) ^ Int.toNat (1 : Int) <
 IntKind.u64.wrap (a + b) / (2 : Int) ^ Int.toNat (1 : Int) + m -
 (↑x.fst : Int) ∧
 True ∧
 sortSeg sp xs a.toNat
 (IntKind.u64.wrap (a + b) / (2 : Int) ^ Int.toNat (1 : Int)).toNat =
 sortSeg sp xs a.toNat b.toNat ∧
 (sp = sp ∧ True) ∧ True)) ∧
 (¬(↑x.fst : Int) < IntKind.u64.wrap (a + b) / (2 : Int) ^ Int.toNat (1 : Int) →
 ¬(↑x.fst : Int) < IntKind.u64.wrap (a + b) / (2 : Int) ^ Int.toNat (1 : Int) ∧
 ¬(↑x.fst : Int) < IntKind.u64.wrap (a + b) / (2 : Int) ^ Int.toNat (1 : Int) ∧
 (IntKind.u64.wrap (a + b) / (2 : Int) ^ Int.toNat (1 : Int) <
 IntKind.u64.wrap (a + b) / (2 : Int) ^ Int.toNat (1 : Int) + m - (↑x.fst : Int) →
 IntKind.u64.wrap (a + b) / (2 : Int) ^ Int.toNat (1 : Int) <
 IntKind.u64.wrap (a + b) / (2 : Int) ^ Int.toNat (1 : Int) + m - (↑x.fst : Int) ∧
 IntKind.u64.wrap (a + b) / (2 : Int) ^ Int.toNat (1 : Int) <
 IntKind.u64.wrap (a + b) / (2 : Int) ^ Int.toNat (1 : Int) + m - (↑x.fst : Int) ∧
 (IntKind.u64.wrap (a + b) / (2 : Int) ^ Int.toNat (1 : Int) + m - (↑x.fst : Int) < b →
 IntKind.u64.wrap (a + b) / (2 : Int) ^ Int.toNat (1 : Int) + m - (↑x.fst : Int) < b ∧
 IntKind.u64.wrap (a + b) / (2 : Int) ^ Int.toNat (1 : Int) + m - (↑x.fst : Int) < b ∧
 True ∧
 (xs = xs ∧ (sp = sp ∧ True) ∧ True) ∧
 (True ∧
 IntKind.u64.wrap (a + b) / (2 : Int) ^ Int.toNat (1 : Int) =
 IntKind.u64.wrap (a + b) / (2 : Int) ^ Int.toNat (1 : Int) ∧
 IntKind.u64.wrap (a + b) / (2 : Int) ^ Int.toNat (1 : Int) + m -
 (↑x.fst : Int) =
 IntKind.u64.wrap (a + b) / (2 : Int) ^ Int.toNat (1 : Int) + m -
 (↑x.fst : Int) ∧
 b = b ∧ True ∧ True) ∧
 ((((0 : Int) ≤ IntKind.u64.wrap (a + b) / (2 : Int) ^ Int.toNat (1 : Int) ∧
 IntKind.u64.wrap (a + b) / (2 : Int) ^ Int.toNat (1 : Int) <
 IntKind.u64.wrap (a + b) / (2 : Int) ^ Int.toNat (1 : Int) + m -
 (↑x.fst : Int) ∧
 IntKind.u64.wrap (a + b) / (2 : Int) ^ Int.toNat (1 : Int) + m -
 (↑x.fst : Int) <
 b ∧
 b ≤ (↑xs.length : Int) ∧ xs.length ≤ (1000 : Nat)) ∧
 ((∀ (e : Int), e ∈ xs → (0 : Int) ≤ e ∧ e < (↑sp.length : Int)) ∧
 ∀ (s : Sp), s ∈ sp → (0 : Int) ≤ s.fst ∧ s.fst ≤ (1000 : Int)) ∧
 (∀ (p q : Nat),
 (IntKind.u64.wrap (a + b) /
 (2 : Int) ^ Int.toNat (1 : Int)).toNat ≤
 p →
 p < q →
 q < b.toNat →
 kf sp (xs.getD p (0 : Int)) = kf sp (xs.getD q (0 : Int)) →
 xs.getD p (0 : Int) < xs.getD q (0 : Int)) ∧
 (∀ (p q : Nat),
 (IntKind.u64.wrap (a + b) /
 (2 : Int) ^ Int.toNat (1 : Int)).toNat ≤
 p →
 p < q →
 q <
 (IntKind.u64.wrap (a + b) /
 (2 : Int) ^ Int.toNat (1 : Int) +
 m -
 (↑x.fst : Int)).toNat →
 leB sp (xs.getD p (0 : Int)) (xs.getD q (0 : Int)) =
 true) ∧
 ∀ (p q : Nat),
 (IntKind.u64.wrap (a + b) / (2 : Int) ^ Int.toNat (1 : Int) +
 m -
 (↑x.fst : Int)).toNat ≤
 p →
 p < q →
 q < b.toNat →
 leB sp (xs.getD p (0 : Int)) (xs.getD q (0 : Int)) =
 true) ∧
 m66
 (xs, IntKind.u64.wrap (a + b) / (2 : Int) ^ Int.toNat (1 : Int),
 IntKind.u64.wrap (a + b) / (2 : Int) ^ Int.toNat (1 : Int) + m -
 (↑x.fst : Int),
 b, sp) <
 m66 (xs, a, m, b, sp)) ∧
 True ∧
 sortSeg sp xs
 (IntKind.u64.wrap (a + b) / (2 : Int) ^ Int.toNat (1 : Int)).toNat
 b.toNat =
 sortSeg sp xs a.toNat b.toNat ∧
 (sp = sp ∧ True) ∧ True) ∧
 (¬IntKind.u64.wrap (a + b) / (2 : Int) ^ Int.toNat (1 : Int) + m - (↑x.fst : Int) < b →
 ¬IntKind.u64.wrap (a + b) / (2 : Int) ^ Int.toNat (1 : Int) + m - (↑x.fst : Int) < b ∧
 ¬IntKind.u64.wrap (a + b) / (2 : Int) ^ Int.toNat (1 : Int) + m - (↑x.fst : Int) < b ∧
 True ∧ xs = sortSeg sp xs a.toNat b.toNat ∧ (sp = sp ∧ True) ∧ True)) ∧
 (¬IntKind.u64.wrap (a + b) / (2 : Int) ^ Int.toNat (1 : Int) <
 IntKind.u64.wrap (a + b) / (2 : Int) ^ Int.toNat (1 : Int) + m - (↑x.fst : Int) →
 ¬IntKind.u64.wrap (a + b) / (2 : Int) ^ Int.toNat (1 : Int) <
 IntKind.u64.wrap (a + b) / (2 : Int) ^ Int.toNat (1 : Int) + m - (↑x.fst : Int) ∧
 ¬IntKind.u64.wrap (a + b) / (2 : Int) ^ Int.toNat (1 : Int) <
 IntKind.u64.wrap (a + b) / (2 : Int) ^ Int.toNat (1 : Int) + m - (↑x.fst : Int) ∧
 True ∧ xs = sortSeg sp xs a.toNat b.toNat ∧ (sp = sp ∧ True) ∧ True))) ∧
 (¬a < (↑x.fst : Int) →
 ¬a < (↑x.fst : Int) ∧
 ¬a < (↑x.fst : Int) ∧
 (IntKind.u64.wrap (a + b) / (2 : Int) ^ Int.toNat (1 : Int) <
 IntKind.u64.wrap (a + b) / (2 : Int) ^ Int.toNat (1 : Int) + m - (↑x.fst : Int) →
 IntKind.u64.wrap (a + b) / (2 : Int) ^ Int.toNat (1 : Int) <
 IntKind.u64.wrap (a + b) / (2 : Int) ^ Int.toNat (1 : Int) + m - (↑x.fst : Int) ∧
 IntKind.u64.wrap (a + b) / (2 : Int) ^ Int.toNat (1 : Int) <
 IntKind.u64.wrap (a + b) / (2 : Int) ^ Int.toNat (1 : Int) + m - (↑x.fst : Int) ∧
 (IntKind.u64.wrap (a + b) / (2 : Int) ^ Int.toNat (1 : Int) + m - (↑x.fst : Int) < b →
 IntKind.u64.wrap (a + b) / (2 : Int) ^ Int.toNat (1 : Int) + m - (↑x.fst : Int) < b ∧
 IntKind.u64.wrap (a + b) / (2 : Int) ^ Int.toNat (1 : Int) + m - (↑x.fst : Int) < b ∧
 True ∧
 (xs = xs ∧ (sp = sp ∧ True) ∧ True) ∧
 (True ∧
 IntKind.u64.wrap (a + b) / (2 : Int) ^ Int.toNat (1 : Int) =
 IntKind.u64.wrap (a + b) / (2 : Int) ^ Int.toNat (1 : Int) ∧
 IntKind.u64.wrap (a + b) / (2 : Int) ^ Int.toNat (1 : Int) + m - (↑x.fst : Int) =
 IntKind.u64.wrap (a + b) / (2 : Int) ^ Int.toNat (1 : Int) + m -
 (↑x.fst : Int) ∧
 b = b ∧ True ∧ True) ∧
 ((((0 : Int) ≤ IntKind.u64.wrap (a + b) / (2 : Int) ^ Int.toNat (1 : Int) ∧
 IntKind.u64.wrap (a + b) / (2 : Int) ^ Int.toNat (1 : Int) <
 IntKind.u64.wrap (a + b) / (2 : Int) ^ Int.toNat (1 : Int) + m -
 (↑x.fst : Int) ∧
 IntKind.u64.wrap (a + b) / (2 : Int) ^ Int.toNat (1 : Int) + m -
 (↑x.fst : Int) <
 b ∧
 b ≤ (↑xs.length : Int) ∧ xs.length ≤ (1000 : Nat)) ∧
 ((∀ (e : Int), e ∈ xs → (0 : Int) ≤ e ∧ e < (↑sp.length : Int)) ∧
 ∀ (s : Sp), s ∈ sp → (0 : Int) ≤ s.fst ∧ s.fst ≤ (1000 : Int)) ∧
 (∀ (p q : Nat),
 (IntKind.u64.wrap (a + b) / (2 : Int) ^ Int.toNat (1 : Int)).toNat ≤ p →
 p < q →
 q < b.toNat →
 kf sp (xs.getD p (0 : Int)) = kf sp (xs.getD q (0 : Int)) →
 xs.getD p (0 : Int) < xs.getD q (0 : Int)) ∧
 (∀ (p q : Nat),
 (IntKind.u64.wrap (a + b) / (2 : Int) ^ Int.toNat (1 : Int)).toNat ≤ p →
 p < q →
 q <
 (IntKind.u64.wrap (a + b) / (2 : Int) ^ Int.toNat (1 : Int) +
 m -
 (↑x.fst : Int)).toNat →
 leB sp (xs.getD p (0 : Int)) (xs.getD q (0 : Int)) = true) ∧
 ∀ (p q : Nat),
 (IntKind.u64.wrap (a + b) / (2 : Int) ^ Int.toNat (1 : Int) + m -
 (↑x.fst : Int)).toNat ≤
 p →
 p < q →
 q < b.toNat →
 leB sp (xs.getD p (0 : Int)) (xs.getD q (0 : Int)) = true) ∧
 m66
 (xs, IntKind.u64.wrap (a + b) / (2 : Int) ^ Int.toNat (1 : Int),
 IntKind.u64.wrap (a + b) / (2 : Int) ^ Int.toNat (1 : Int) + m -
 (↑x.fst : Int),
 b, sp) <
 m66 (xs, a, m, b, sp)) ∧
 True ∧
 sortSeg sp xs (IntKind.u64.wrap (a + b) / (2 : Int) ^ Int.toNat (1 : Int)).toNat
 b.toNat =
 sortSeg sp xs a.toNat b.toNat ∧
 (sp = sp ∧ True) ∧ True) ∧
 (¬IntKind.u64.wrap (a + b) / (2 : Int) ^ Int.toNat (1 : Int) + m - (↑x.fst : Int) < b →
 ¬IntKind.u64.wrap (a + b) / (2 : Int) ^ Int.toNat (1 : Int) + m - (↑x.fst : Int) < b ∧
 ¬IntKind.u64.wrap (a + b) / (2 : Int) ^ Int.toNat (1 : Int) + m - (↑x.fst : Int) < b ∧
 True ∧ xs = sortSeg sp xs a.toNat b.toNat ∧ (sp = sp ∧ True) ∧ True)) ∧
 (¬IntKind.u64.wrap (a + b) / (2 : Int) ^ Int.toNat (1 : Int) <
 IntKind.u64.wrap (a + b) / (2 : Int) ^ Int.toNat (1 : Int) + m - (↑x.fst : Int) →
 ¬IntKind.u64.wrap (a + b) / (2 : Int) ^ Int.toNat (1 : Int) <
 IntKind.u64.wrap (a + b) / (2 : Int) ^ Int.toNat (1 : Int) + m - (↑x.fst : Int) ∧
 ¬IntKind.u64.wrap (a + b) / (2 : Int) ^ Int.toNat (1 : Int) <
 IntKind.u64.wrap (a + b) / (2 : Int) ^ Int.toNat (1 : Int) + m - (↑x.fst : Int) ∧
 True ∧ xs = sortSeg sp xs a.toNat b.toNat ∧ (sp = sp ∧ True) ∧ True)))) ∧
 (¬(↑x.fst : Int) < m →
 ¬(↑x.fst : Int) < m ∧
 ¬(↑x.fst : Int) < m ∧
 (a < (↑x.fst : Int) →
 a < (↑x.fst : Int) ∧
 a < (↑x.fst : Int) ∧
 ((↑x.fst : Int) < IntKind.u64.wrap (a + b) / (2 : Int) ^ Int.toNat (1 : Int) →
 (↑x.fst : Int) < IntKind.u64.wrap (a + b) / (2 : Int) ^ Int.toNat (1 : Int) ∧
 (↑x.fst : Int) < IntKind.u64.wrap (a + b) / (2 : Int) ^ Int.toNat (1 : Int) ∧
 True ∧
 (xs = xs ∧ (sp = sp ∧ True) ∧ True) ∧
 (True ∧
 a = a ∧
 (↑x.fst : Int) = (↑x.fst : Int) ∧
 IntKind.u64.wrap (a + b) / (2 : Int) ^ Int.toNat (1 : Int) =
 IntKind.u64.wrap (a + b) / (2 : Int) ^ Int.toNat (1 : Int) ∧
 True ∧ True) ∧
 ((((0 : Int) ≤ a ∧
 a < (↑x.fst : Int) ∧
 (↑x.fst : Int) < IntKind.u64.wrap (a + b) / (2 : Int) ^ Int.toNat (1 : Int) ∧
 IntKind.u64.wrap (a + b) / (2 : Int) ^ Int.toNat (1 : Int) ≤ (↑xs.length : Int) ∧
 xs.length ≤ (1000 : Nat)) ∧
 ((∀ (e : Int), e ∈ xs → (0 : Int) ≤ e ∧ e < (↑sp.length : Int)) ∧
 ∀ (s : Sp), s ∈ sp → (0 : Int) ≤ s.fst ∧ s.fst ≤ (1000 : Int)) ∧
 (∀ (p q : Nat),
 a.toNat ≤ p →
 p < q →
 q < (IntKind.u64.wrap (a + b) / (2 : Int) ^ Int.toNat (1 : Int)).toNat →
 kf sp (xs.getD p (0 : Int)) = kf sp (xs.getD q (0 : Int)) →
 xs.getD p (0 : Int) < xs.getD q (0 : Int)) ∧
 (∀ (p q : Nat),
 a.toNat ≤ p →
 p < q →
 q < (↑x.fst : Int).toNat →
 leB sp (xs.getD p (0 : Int)) (xs.getD q (0 : Int)) = true) ∧
 ∀ (p q : Nat),
 (↑x.fst : Int).toNat ≤ p →
 p < q →
 q < (IntKind.u64.wrap (a + b) / (2 : Int) ^ Int.toNat (1 : Int)).toNat →
 leB sp (xs.getD p (0 : Int)) (xs.getD q (0 : Int)) = true) ∧
 m66 (xs, a, (↑x.fst : Int), IntKind.u64.wrap (a + b) / (2 : Int) ^ Int.toNat (1 : Int), sp) <
 m66 (xs, a, m, b, sp)) ∧
 (IntKind.u64.wrap (a + b) / (2 : Int) ^ Int.toNat (1 : Int) <
 IntKind.u64.wrap (a + b) / (2 : Int) ^ Int.toNat (1 : Int) + m - (↑x.fst : Int) →
 IntKind.u64.wrap (a + b) / (2 : Int) ^ Int.toNat (1 : Int) <
 IntKind.u64.wrap (a + b) / (2 : Int) ^ Int.toNat (1 : Int) + m - (↑x.fst : Int) ∧
 IntKind.u64.wrap (a + b) / (2 : Int) ^ Int.toNat (1 : Int) <
 IntKind.u64.wrap (a + b) / (2 : Int) ^ Int.toNat (1 : Int) + m - (↑x.fst : Int) ∧
 (IntKind.u64.wrap (a + b) / (2 : Int) ^ Int.toNat (1 : Int) + m - (↑x.fst : Int) < b →
 IntKind.u64.wrap (a + b) / (2 : Int) ^ Int.toNat (1 : Int) + m - (↑x.fst : Int) < b ∧
 IntKind.u64.wrap (a + b) / (2 : Int) ^ Int.toNat (1 : Int) + m - (↑x.fst : Int) < b ∧
 True ∧
 (sortSeg sp xs a.toNat
 (IntKind.u64.wrap (a + b) / (2 : Int) ^ Int.toNat (1 : Int)).toNat =
 sortSeg sp xs a.toNat
 (IntKind.u64.wrap (a + b) / (2 : Int) ^ Int.toNat (1 : Int)).toNat ∧
 (sp = sp ∧ True) ∧ True) ∧
 (True ∧
 IntKind.u64.wrap (a + b) / (2 : Int) ^ Int.toNat (1 : Int) =
 IntKind.u64.wrap (a + b) / (2 : Int) ^ Int.toNat (1 : Int) ∧
 IntKind.u64.wrap (a + b) / (2 : Int) ^ Int.toNat (1 : Int) + m -
 (↑x.fst : Int) =
 IntKind.u64.wrap (a + b) / (2 : Int) ^ Int.toNat (1 : Int) + m -
 (↑x.fst : Int) ∧
 b = b ∧ True ∧ True) ∧
 ((((0 : Int) ≤ IntKind.u64.wrap (a + b) / (2 : Int) ^ Int.toNat (1 : Int) ∧
 IntKind.u64.wrap (a + b) / (2 : Int) ^ Int.toNat (1 : Int) <
 IntKind.u64.wrap (a + b) / (2 : Int) ^ Int.toNat (1 : Int) + m -
 (↑x.fst : Int) ∧
 IntKind.u64.wrap (a + b) / (2 : Int) ^ Int.toNat (1 : Int) + m -
 (↑x.fst : Int) <
 b ∧
 b ≤
 (↑(sortSeg sp xs a.toNat
 (IntKind.u64.wrap (a + b) /
 (2 : Int) ^ Int.toNat (1 : Int)).toNat).length :
 Int) ∧
 (sortSeg sp xs a.toNat
 (IntKind.u64.wrap (a + b) /
 (2 : Int) ^ Int.toNat (1 : Int)).toNat).length ≤
 (1000 : Nat)) ∧
 ((∀ (e : Int),
 e ∈
 sortSeg sp xs a.toNat
 (IntKind.u64.wrap (a + b) /
 (2 : Int) ^ Int.toNat (1 : Int)).toNat →
 (0 : Int) ≤ e ∧ e < (↑sp.length : Int)) ∧
 ∀ (s : Sp), s ∈ sp → (0 : Int) ≤ s.fst ∧ s.fst ≤ (1000 : Int)) ∧
 (∀ (p q : Nat),
 (IntKind.u64.wrap (a + b) /
 (2 : Int) ^ Int.toNat (1 : Int)).toNat ≤
 p →
 p < q →
 q < b.toNat →
 kf sp
 ((sortSeg sp xs a.toNat
 (IntKind.u64.wrap (a + b) /
 (2 : Int) ^ Int.toNat (1 : Int)).toNat).getD
 p (0 : Int)) =
 kf sp
 ((sortSeg sp xs a.toNat
 (IntKind.u64.wrap (a + b) /
 (2 : Int) ^ Int.toNat (1 : Int)).toNat).getD
 q (0 : Int)) →
 (sortSeg sp xs a.toNat
 (IntKind.u64.wrap (a + b) /
 (2 : Int) ^ Int.toNat (1 : Int)).toNat).getD
 p (0 : Int) <
 (sortSeg sp xs a.toNat
 (IntKind.u64.wrap (a + b) /
 (2 : Int) ^ Int.toNat (1 : Int)).toNat).getD
 q (0 : Int)) ∧
 (∀ (p q : Nat),
 (IntKind.u64.wrap (a + b) /
 (2 : Int) ^ Int.toNat (1 : Int)).toNat ≤
 p →
 p < q →
 q <
 (IntKind.u64.wrap (a + b) /
 (2 : Int) ^ Int.toNat (1 : Int) +
 m -
 (↑x.fst : Int)).toNat →
 leB sp
 ((sortSeg sp xs a.toNat
 (IntKind.u64.wrap (a + b) /
 (2 : Int) ^ Int.toNat (1 : Int)).toNat).getD
 p (0 : Int))
 ((sortSeg sp xs a.toNat
 (IntKind.u64.wrap (a + b) /
 (2 : Int) ^ Int.toNat (1 : Int)).toNat).getD
 q (0 : Int)) =
 true) ∧
 ∀ (p q : Nat),
 (IntKind.u64.wrap (a + b) / (2 : Int) ^ Int.toNat (1 : Int) +
 m -
 (↑x.fst : Int)).toNat ≤
 p →
 p < q →
 q < b.toNat →
 leB sp
 ((sortSeg sp xs a.toNat
 (IntKind.u64.wrap (a + b) /
 (2 : Int) ^ Int.toNat (1 : Int)).toNat).getD
 p (0 : Int))
 ((sortSeg sp xs a.toNat
 (IntKind.u64.wrap (a + b) /
 (2 : Int) ^ Int.toNat (1 : Int)).toNat).getD
 q (0 : Int)) =
 true) ∧
 m66
 (sortSeg sp xs a.toNat
 (IntKind.u64.wrap (a + b) /
 (2 : Int) ^ Int.toNat (1 : Int)).toNat,
 IntKind.u64.wrap (a + b) / (2 : Int) ^ Int.toNat (1 : Int),
 IntKind.u64.wrap (a + b) / (2 : Int) ^ Int.toNat (1 : Int) + m -
 (↑x.fst : Int),
 b, sp) <
 m66 (xs, a, m, b, sp)) ∧
 True ∧
 sortSeg sp
 (sortSeg sp xs a.toNat
 (IntKind.u64.wrap (a + b) /
 (2 : Int) ^ Int.toNat (1 : Int)).toNat)
 (IntKind.u64.wrap (a + b) / (2 : Int) ^ Int.toNat (1 : Int)).toNat
 b.toNat =
 sortSeg sp xs a.toNat b.toNat ∧
 (sp = sp ∧ True) ∧ True) ∧
 (¬IntKind.u64.wrap (a + b) / (2 : Int) ^ Int.toNat (1 : Int) + m - (↑x.fst : Int) < b →
 ¬IntKind.u64.wrap (a + b) / (2 : Int) ^ Int.toNat (1 : Int) + m - (↑x.fst : Int) < b ∧
 ¬IntKind.u64.wrap (a + b) / (2 : Int) ^ Int.toNat (1 : Int) + m - (↑x.fst : Int) < b ∧
 True ∧
 sortSeg sp xs a.toNat
 (IntKind.u64.wrap (a + b) / (2 : Int) ^ Int.toNat (1 : Int)).toNat =
 sortSeg sp xs a.toNat b.toNat ∧
 (sp = sp ∧ True) ∧ True)) ∧
 (¬IntKind.u64.wrap (a + b) / (2 : Int) ^ Int.toNat (1 : Int) <
 IntKind.u64.wrap (a + b) / (2 : Int) ^ Int.toNat (1 : Int) + m - (↑x.fst : Int) →
 ¬IntKind.u64.wrap (a + b) / (2 : Int) ^ Int.toNat (1 : Int) <
 IntKind.u64.wrap (a + b) / (2 : Int) ^ Int.toNat (1 : Int) + m - (↑x.fst : Int) ∧
 ¬IntKind.u64.wrap (a + b) / (2 : Int) ^ Int.toNat (1 : Int) <
 IntKind.u64.wrap (a + b) / (2 : Int) ^ Int.toNat (1 : Int) + m - (↑x.fst : Int) ∧
 True ∧
 sortSeg sp xs a.toNat (IntKind.u64.wrap (a + b) / (2 : Int) ^ Int.toNat (1 : Int)).toNat =
 sortSeg sp xs a.toNat b.toNat ∧
 (sp = sp ∧ True) ∧ True)) ∧
 (¬(↑x.fst : Int) < IntKind.u64.wrap (a + b) / (2 : Int) ^ Int.toNat (1 : Int) →
 ¬(↑x.fst : Int) < IntKind.u64.wrap (a + b) / (2 : Int) ^ Int.toNat (1 : Int) ∧
 ¬(↑x.fst : Int) < IntKind.u64.wrap (a + b) / (2 : Int) ^ Int.toNat (1 : Int) ∧
 (IntKind.u64.wrap (a + b) / (2 : Int) ^ Int.toNat (1 : Int) <
 IntKind.u64.wrap (a + b) / (2 : Int) ^ Int.toNat (1 : Int) + m - (↑x.fst : Int) →
 IntKind.u64.wrap (a + b) / (2 : Int) ^ Int.toNat (1 : Int) <
 IntKind.u64.wrap (a + b) / (2 : Int) ^ Int.toNat (1 : Int) + m - (↑x.fst : Int) ∧
 IntKind.u64.wrap (a + b) / (2 : Int) ^ Int.toNat (1 : Int) <
 IntKind.u64.wrap (a + b) / (2 : Int) ^ Int.toNat (1 : Int) + m - (↑x.fst : Int) ∧
 (IntKind.u64.wrap (a + b) / (2 : Int) ^ Int.toNat (1 : Int) + m - (↑x.fst : Int) < b →
 IntKind.u64.wrap (a + b) / (2 : Int) ^ Int.toNat (1 : Int) + m - (↑x.fst : Int) < b ∧
 IntKind.u64.wrap (a + b) / (2 : Int) ^ Int.toNat (1 : Int) + m - (↑x.fst : Int) < b ∧
 True ∧
 (xs = xs ∧ (sp = sp ∧ True) ∧ True) ∧
 (True ∧
 IntKind.u64.wrap (a + b) / (2 : Int) ^ Int.toNat (1 : Int) =
 IntKind.u64.wrap (a + b) / (2 : Int) ^ Int.toNat (1 : Int) ∧
 IntKind.u64.wrap (a + b) / (2 : Int) ^ Int.toNat (1 : Int) + m - (↑x.fst : Int) =
 IntKind.u64.wrap (a + b) / (2 : Int) ^ Int.toNat (1 : Int) + m -
 (↑x.fst : Int) ∧
 b = b ∧ True ∧ True) ∧
 ((((0 : Int) ≤ IntKind.u64.wrap (a + b) / (2 : Int) ^ Int.toNat (1 : Int) ∧
 IntKind.u64.wrap (a + b) / (2 : Int) ^ Int.toNat (1 : Int) <
 IntKind.u64.wrap (a + b) / (2 : Int) ^ Int.toNat (1 : Int) + m -
 (↑x.fst : Int) ∧
 IntKind.u64.wrap (a + b) / (2 : Int) ^ Int.toNat (1 : Int) + m -
 (↑x.fst : Int) <
 b ∧
 b ≤ (↑xs.length : Int) ∧ xs.length ≤ (1000 : Nat)) ∧
 ((∀ (e : Int), e ∈ xs → (0 : Int) ≤ e ∧ e < (↑sp.length : Int)) ∧
 ∀ (s : Sp), s ∈ sp → (0 : Int) ≤ s.fst ∧ s.fst ≤ (1000 : Int)) ∧
 (∀ (p q : Nat),
 (IntKind.u64.wrap (a + b) / (2 : Int) ^ Int.toNat (1 : Int)).toNat ≤ p →
 p < q →
 q < b.toNat →
 kf sp (xs.getD p (0 : Int)) = kf sp (xs.getD q (0 : Int)) →
 xs.getD p (0 : Int) < xs.getD q (0 : Int)) ∧
 (∀ (p q : Nat),
 (IntKind.u64.wrap (a + b) / (2 : Int) ^ Int.toNat (1 : Int)).toNat ≤ p →
 p < q →
 q <
 (IntKind.u64.wrap (a + b) / (2 : Int) ^ Int.toNat (1 : Int) +
 m -
 (↑x.fst : Int)).toNat →
 leB sp (xs.getD p (0 : Int)) (xs.getD q (0 : Int)) = true) ∧
 ∀ (p q : Nat),
 (IntKind.u64.wrap (a + b) / (2 : Int) ^ Int.toNat (1 : Int) + m -
 (↑x.fst : Int)).toNat ≤
 p →
 p < q →
 q < b.toNat →
 leB sp (xs.getD p (0 : Int)) (xs.getD q (0 : Int)) = true) ∧
 m66
 (xs, IntKind.u64.wrap (a + b) / (2 : Int) ^ Int.toNat (1 : Int),
 IntKind.u64.wrap (a + b) / (2 : Int) ^ Int.toNat (1 : Int) + m -
 (↑x.fst : Int),
 b, sp) <
 m66 (xs, a, m, b, sp)) ∧
 True ∧
 sortSeg sp xs (IntKind.u64.wrap (a + b) / (2 : Int) ^ Int.toNat (1 : Int)).toNat
 b.toNat =
 sortSeg sp xs a.toNat b.toNat ∧
 (sp = sp ∧ True) ∧ True) ∧
 (¬IntKind.u64.wrap (a + b) / (2 : Int) ^ Int.toNat (1 : Int) + m - (↑x.fst : Int) < b →
 ¬IntKind.u64.wrap (a + b) / (2 : Int) ^ Int.toNat (1 : Int) + m - (↑x.fst : Int) < b ∧
 ¬IntKind.u64.wrap (a + b) / (2 : Int) ^ Int.toNat (1 : Int) + m - (↑x.fst : Int) < b ∧
 True ∧ xs = sortSeg sp xs a.toNat b.toNat ∧ (sp = sp ∧ True) ∧ True)) ∧
 (¬IntKind.u64.wrap (a + b) / (2 : Int) ^ Int.toNat (1 : Int) <
 IntKind.u64.wrap (a + b) / (2 : Int) ^ Int.toNat (1 : Int) + m - (↑x.fst : Int) →
 ¬IntKind.u64.wrap (a + b) / (2 : Int) ^ Int.toNat (1 : Int) <
 IntKind.u64.wrap (a + b) / (2 : Int) ^ Int.toNat (1 : Int) + m - (↑x.fst : Int) ∧
 ¬IntKind.u64.wrap (a + b) / (2 : Int) ^ Int.toNat (1 : Int) <
 IntKind.u64.wrap (a + b) / (2 : Int) ^ Int.toNat (1 : Int) + m - (↑x.fst : Int) ∧
 True ∧ xs = sortSeg sp xs a.toNat b.toNat ∧ (sp = sp ∧ True) ∧ True))) ∧
 (¬a < (↑x.fst : Int) →
 ¬a < (↑x.fst : Int) ∧
 ¬a < (↑x.fst : Int) ∧
 (IntKind.u64.wrap (a + b) / (2 : Int) ^ Int.toNat (1 : Int) <
 IntKind.u64.wrap (a + b) / (2 : Int) ^ Int.toNat (1 : Int) + m - (↑x.fst : Int) →
 IntKind.u64.wrap (a + b) / (2 : Int) ^ Int.toNat (1 : Int) <
 IntKind.u64.wrap (a + b) / (2 : Int) ^ Int.toNat (1 : Int) + m - (↑x.fst : Int) ∧
 IntKind.u64.wrap (a + b) / (2 : Int) ^ Int.toNat (1 : Int) <
 IntKind.u64.wrap (a + b) / (2 : Int) ^ Int.toNat (1 : Int) + m - (↑x.fst : Int) ∧
 (IntKind.u64.wrap (a + b) / (2 : Int) ^ Int.toNat (1 : Int) + m - (↑x.fst : Int) < b →
 IntKind.u64.wrap (a + b) / (2 : Int) ^ Int.toNat (1 : Int) + m - (↑x.fst : Int) < b ∧
 IntKind.u64.wrap (a + b) / (2 : Int) ^ Int.toNat (1 : Int) + m - (↑x.fst : Int) < b ∧
 True ∧
 (xs = xs ∧ (sp = sp ∧ True) ∧ True) ∧
 (True ∧
 IntKind.u64.wrap (a + b) / (2 : Int) ^ Int.toNat (1 : Int) =
 IntKind.u64.wrap (a + b) / (2 : Int) ^ Int.toNat (1 : Int) ∧
 IntKind.u64.wrap (a + b) / (2 : Int) ^ Int.toNat (1 : Int) + m - (↑x.fst : Int) =
 IntKind.u64.wrap (a + b) / (2 : Int) ^ Int.toNat (1 : Int) + m - (↑x.fst : Int) ∧
 b = b ∧ True ∧ True) ∧
 ((((0 : Int) ≤ IntKind.u64.wrap (a + b) / (2 : Int) ^ Int.toNat (1 : Int) ∧
 IntKind.u64.wrap (a + b) / (2 : Int) ^ Int.toNat (1 : Int) <
 IntKind.u64.wrap (a + b) / (2 : Int) ^ Int.toNat (1 : Int) + m - (↑x.fst : Int) ∧
 IntKind.u64.wrap (a + b) / (2 : Int) ^ Int.toNat (1 : Int) + m - (↑x.fst : Int) <
 b ∧
 b ≤ (↑xs.length : Int) ∧ xs.length ≤ (1000 : Nat)) ∧
 ((∀ (e : Int), e ∈ xs → (0 : Int) ≤ e ∧ e < (↑sp.length : Int)) ∧
 ∀ (s : Sp), s ∈ sp → (0 : Int) ≤ s.fst ∧ s.fst ≤ (1000 : Int)) ∧
 (∀ (p q : Nat),
 (IntKind.u64.wrap (a + b) / (2 : Int) ^ Int.toNat (1 : Int)).toNat ≤ p →
 p < q →
 q < b.toNat →
 kf sp (xs.getD p (0 : Int)) = kf sp (xs.getD q (0 : Int)) →
 xs.getD p (0 : Int) < xs.getD q (0 : Int)) ∧
 (∀ (p q : Nat),
 (IntKind.u64.wrap (a + b) / (2 : Int) ^ Int.toNat (1 : Int)).toNat ≤ p →
 p < q →
 q <
 (IntKind.u64.wrap (a + b) / (2 : Int) ^ Int.toNat (1 : Int) + m -
 (↑x.fst : Int)).toNat →
 leB sp (xs.getD p (0 : Int)) (xs.getD q (0 : Int)) = true) ∧
 ∀ (p q : Nat),
 (IntKind.u64.wrap (a + b) / (2 : Int) ^ Int.toNat (1 : Int) + m -
 (↑x.fst : Int)).toNat ≤
 p →
 p < q →
 q < b.toNat → leB sp (xs.getD p (0 : Int)) (xs.getD q (0 : Int)) = true) ∧
 m66
 (xs, IntKind.u64.wrap (a + b) / (2 : Int) ^ Int.toNat (1 : Int),
 IntKind.u64.wrap (a + b) / (2 : Int) ^ Int.toNat (1 : Int) + m - (↑x.fst : Int), b,
 sp) <
 m66 (xs, a, m, b, sp)) ∧
 True ∧
 sortSeg sp xs (IntKind.u64.wrap (a + b) / (2 : Int) ^ Int.toNat (1 : Int)).toNat b.toNat =
 sortSeg sp xs a.toNat b.toNat ∧
 (sp = sp ∧ True) ∧ True) ∧
 (¬IntKind.u64.wrap (a + b) / (2 : Int) ^ Int.toNat (1 : Int) + m - (↑x.fst : Int) < b →
 ¬IntKind.u64.wrap (a + b) / (2 : Int) ^ Int.toNat (1 : Int) + m - (↑x.fst : Int) < b ∧
 ¬IntKind.u64.wrap (a + b) / (2 : Int) ^ Int.toNat (1 : Int) + m - (↑x.fst : Int) < b ∧
 True ∧ xs = sortSeg sp xs a.toNat b.toNat ∧ (sp = sp ∧ True) ∧ True)) ∧
 (¬IntKind.u64.wrap (a + b) / (2 : Int) ^ Int.toNat (1 : Int) <
 IntKind.u64.wrap (a + b) / (2 : Int) ^ Int.toNat (1 : Int) + m - (↑x.fst : Int) →
 ¬IntKind.u64.wrap (a + b) / (2 : Int) ^ Int.toNat (1 : Int) <
 IntKind.u64.wrap (a + b) / (2 : Int) ^ Int.toNat (1 : Int) + m - (↑x.fst : Int) ∧
 ¬IntKind.u64.wrap (a + b) / (2 : Int) ^ Int.toNat (1 : Int) <
 IntKind.u64.wrap (a + b) / (2 : Int) ^ Int.toNat (1 : Int) + m - (↑x.fst : Int) ∧
 True ∧ xs = sortSeg sp xs a.toNat b.toNat ∧ (sp = sp ∧ True) ∧ True))))) ∧
 (¬IntKind.u64.wrap (a + b) / (2 : Int) ^ Int.toNat (1 : Int) < m →
 ¬IntKind.u64.wrap (a + b) / (2 : Int) ^ Int.toNat (1 : Int) < m ∧
 Fits IntKind.i64 (IntKind.u64.wrap (a + b) / (2 : Int) ^ Int.toNat (1 : Int) + m - (1 : Int)) ∧
 (∃ (x0 : Nat × Nat),
 ((loF a.toNat m.toNat b.toNat ≤ x0.fst ∧ x0.fst ≤ x0.snd ∧ x0.snd ≤ hiF a.toNat m.toNat b.toNat) ∧
 (x0.fst = loF a.toNat m.toNat b.toNat ∨
 ¬kf sp (xs.getD (midF a.toNat b.toNat + m.toNat - x0.fst) (0 : Int)) < kf sp (xs.getD (x0.fst - (1 : Nat)) (0 : Int))) ∧
 (x0.snd = hiF a.toNat m.toNat b.toNat ∨
 kf sp (xs.getD (midF a.toNat b.toNat + m.toNat - (1 : Nat) - x0.snd) (0 : Int)) < kf sp (xs.getD x0.snd (0 : Int)))) ∧
 (xs = xs ∧ (sp = sp ∧ True) ∧ True) ∧
 a = (↑x0.fst : Int) ∧
 m = (↑x0.snd : Int) ∧
 IntKind.u64.wrap (a + b) / (2 : Int) ^ Int.toNat (1 : Int) + m - (1 : Int) =
 IntKind.u64.wrap (a + b) / (2 : Int) ^ Int.toNat (1 : Int) + m - (1 : Int) ∧
 IntKind.u64.wrap (a + b) / (2 : Int) ^ Int.toNat (1 : Int) + m = IntKind.u64.wrap (a + b) / (2 : Int) ^ Int.toNat (1 : Int) + m ∧
 IntKind.u64.wrap (a + b) / (2 : Int) ^ Int.toNat (1 : Int) = IntKind.u64.wrap (a + b) / (2 : Int) ^ Int.toNat (1 : Int) ∧
 True ∧ a = a ∧ m = m ∧ b = b ∧ True ∧ True) ∧
 ∀ (x : Nat × Nat),
 (loF a.toNat m.toNat b.toNat ≤ x.fst ∧ x.fst ≤ x.snd ∧ x.snd ≤ hiF a.toNat m.toNat b.toNat) ∧
 (x.fst = loF a.toNat m.toNat b.toNat ∨
 ¬kf sp (xs.getD (midF a.toNat b.toNat + m.toNat - x.fst) (0 : Int)) < kf sp (xs.getD (x.fst - (1 : Nat)) (0 : Int))) ∧
 (x.snd = hiF a.toNat m.toNat b.toNat ∨
 kf sp (xs.getD (midF a.toNat b.toNat + m.toNat - (1 : Nat) - x.snd) (0 : Int)) < kf sp (xs.getD x.snd (0 : Int))) →
 ((↑x.fst : Int) < (↑x.snd : Int) →
 (↑x.fst : Int) < (↑x.snd : Int) ∧
 Fits IntKind.i64 ((↑x.fst : Int) + (↑x.snd : Int)) ∧
 ((0 : Int) ≤ (1 : Int) ∧ (1 : Int) < (64 : Int)) ∧
 Fits IntKind.i64 (IntKind.u64.wrap ((↑x.fst : Int) + (↑x.snd : Int)) / (2 : Int) ^ Int.toNat (1 : Int)) ∧
 Fits IntKind.i64
 (IntKind.u64.wrap (a + b) / (2 : Int) ^ Int.toNat (1 : Int) + m - (1 : Int) -
 IntKind.u64.wrap ((↑x.fst : Int) + (↑x.snd : Int)) / (2 : Int) ^ Int.toNat (1 : Int)) ∧
 ((0 : Int) ≤
 IntKind.u64.wrap (a + b) / (2 : Int) ^ Int.toNat (1 : Int) + m - (1 : Int) -
 IntKind.u64.wrap ((↑x.fst : Int) + (↑x.snd : Int)) / (2 : Int) ^ Int.toNat (1 : Int) ∧
 IntKind.u64.wrap (a + b) / (2 : Int) ^ Int.toNat (1 : Int) + m - (1 : Int) -
 IntKind.u64.wrap ((↑x.fst : Int) + (↑x.snd : Int)) / (2 : Int) ^ Int.toNat (1 : Int) <
 (↑xs.length : Int)) ∧
 ((0 : Int) ≤ IntKind.u64.wrap ((↑x.fst : Int) + (↑x.snd : Int)) / (2 : Int) ^ Int.toNat (1 : Int) ∧
 IntKind.u64.wrap ((↑x.fst : Int) + (↑x.snd : Int)) / (2 : Int) ^ Int.toNat (1 : Int) < (↑xs.length : Int)) ∧
 ((0 : Int) ≤
 xs.getD
 (IntKind.u64.wrap (a + b) / (2 : Int) ^ Int.toNat (1 : Int) + m - (1 : Int) -
 IntKind.u64.wrap ((↑x.fst : Int) + (↑x.snd : Int)) / (2 : Int) ^ Int.toNat (1 : Int)).toNat
 (0 : Int) ∧
 xs.getD
 (IntKind.u64.wrap (a + b) / (2 : Int) ^ Int.toNat (1 : Int) + m - (1 : Int) -
 IntKind.u64.wrap ((↑x.fst : Int) + (↑x.snd : Int)) / (2 : Int) ^ Int.toNat (1 : Int)).toNat
 (0 : Int) <
 (↑sp.length : Int)) ∧
 ((0 : Int) ≤
 xs.getD (IntKind.u64.wrap ((↑x.fst : Int) + (↑x.snd : Int)) / (2 : Int) ^ Int.toNat (1 : Int)).toNat (0 : Int) ∧
 xs.getD (IntKind.u64.wrap ((↑x.fst : Int) + (↑x.snd : Int)) / (2 : Int) ^ Int.toNat (1 : Int)).toNat (0 : Int) <
 (↑sp.length : Int)) ∧
 Fits IntKind.i64
 ((sp.getD
 (xs.getD
 (IntKind.u64.wrap (a + b) / (2 : Int) ^ Int.toNat (1 : Int) + m - (1 : Int) -
 IntKind.u64.wrap ((↑x.fst : Int) + (↑x.snd : Int)) / (2 : Int) ^ Int.toNat (1 : Int)).toNat
 (0 : Int)).toNat
 ((0 : Int), (0 : Int))).fst -
 (sp.getD
 (xs.getD (IntKind.u64.wrap ((↑x.fst : Int) + (↑x.snd : Int)) / (2 : Int) ^ Int.toNat (1 : Int)).toNat
 (0 : Int)).toNat
 ((0 : Int), (0 : Int))).fst) ∧
 (¬(sp.getD
 (xs.getD
 (IntKind.u64.wrap (a + b) / (2 : Int) ^ Int.toNat (1 : Int) + m - (1 : Int) -
 IntKind.u64.wrap ((↑x.fst : Int) + (↑x.snd : Int)) / (2 : Int) ^ Int.toNat (1 : Int)).toNat
 (0 : Int)).toNat
 ((0 : Int), (0 : Int))).fst -
 (sp.getD
 (xs.getD (IntKind.u64.wrap ((↑x.fst : Int) + (↑x.snd : Int)) / (2 : Int) ^ Int.toNat (1 : Int)).toNat
 (0 : Int)).toNat
 ((0 : Int), (0 : Int))).fst <
 (0 : Int) →
 ¬(sp.getD
 (xs.getD
 (IntKind.u64.wrap (a + b) / (2 : Int) ^ Int.toNat (1 : Int) + m - (1 : Int) -
 IntKind.u64.wrap ((↑x.fst : Int) + (↑x.snd : Int)) / (2 : Int) ^ Int.toNat (1 : Int)).toNat
 (0 : Int)).toNat
 ((0 : Int), (0 : Int))).fst -
 (sp.getD
 (xs.getD (IntKind.u64.wrap ((↑x.fst : Int) + (↑x.snd : Int)) / (2 : Int) ^ Int.toNat (1 : Int)).toNat
 (0 : Int)).toNat
 ((0 : Int), (0 : Int))).fst <
 (0 : Int) ∧
 Fits IntKind.i64
 (IntKind.u64.wrap ((↑x.fst : Int) + (↑x.snd : Int)) / (2 : Int) ^ Int.toNat (1 : Int) + (1 : Int)) ∧
 ∃ (x' : Nat × Nat),
 ((loF a.toNat m.toNat b.toNat ≤ x'.fst ∧ x'.fst ≤ x'.snd ∧ x'.snd ≤ hiF a.toNat m.toNat b.toNat) ∧
 (x'.fst = loF a.toNat m.toNat b.toNat ∨
 ¬kf sp (xs.getD (midF a.toNat b.toNat + m.toNat - x'.fst) (0 : Int)) <
 kf sp (xs.getD (x'.fst - (1 : Nat)) (0 : Int))) ∧
 (x'.snd = hiF a.toNat m.toNat b.toNat ∨
 kf sp (xs.getD (midF a.toNat b.toNat + m.toNat - (1 : Nat) - x'.snd) (0 : Int)) <
 kf sp (xs.getD x'.snd (0 : Int)))) ∧
 x'.snd - x'.fst < x.snd - x.fst ∧
 (xs = xs ∧ (sp = sp ∧ True) ∧ True) ∧
 IntKind.u64.wrap ((↑x.fst : Int) + (↑x.snd : Int)) / (2 : Int) ^ Int.toNat (1 : Int) + (1 : Int) =
 (↑x'.fst : Int) ∧
 (↑x.snd : Int) = (↑x'.snd : Int) ∧
 IntKind.u64.wrap (a + b) / (2 : Int) ^ Int.toNat (1 : Int) + m - (1 : Int) =
 IntKind.u64.wrap (a + b) / (2 : Int) ^ Int.toNat (1 : Int) + m - (1 : Int) ∧
 IntKind.u64.wrap (a + b) / (2 : Int) ^ Int.toNat (1 : Int) + m =
 IntKind.u64.wrap (a + b) / (2 : Int) ^ Int.toNat (1 : Int) + m ∧
 IntKind.u64.wrap (a + b) / (2 : Int) ^ Int.toNat (1 : Int) =
 IntKind.u64.wrap (a + b) / (2 : Int) ^ Int.toNat (1 : Int) ∧
 True ∧ a = a ∧ m = m ∧ b = b ∧ True ∧ True) ∧
 (¬¬(sp.getD
 (xs.getD
 (IntKind.u64.wrap (a + b) / (2 : Int) ^ Int.toNat (1 : Int) + m - (1 : Int) -
 IntKind.u64.wrap ((↑x.fst : Int) + (↑x.snd : Int)) / (2 : Int) ^ Int.toNat (1 : Int)).toNat
 (0 : Int)).toNat
 ((0 : Int), (0 : Int))).fst -
 (sp.getD
 (xs.getD (IntKind.u64.wrap ((↑x.fst : Int) + (↑x.snd : Int)) / (2 : Int) ^ Int.toNat (1 : Int)).toNat
 (0 : Int)).toNat
 ((0 : Int), (0 : Int))).fst <
 (0 : Int) →
 ¬¬(sp.getD
 (xs.getD
 (IntKind.u64.wrap (a + b) / (2 : Int) ^ Int.toNat (1 : Int) + m - (1 : Int) -
 IntKind.u64.wrap ((↑x.fst : Int) + (↑x.snd : Int)) / (2 : Int) ^ Int.toNat (1 : Int)).toNat
 (0 : Int)).toNat
 ((0 : Int), (0 : Int))).fst -
 (sp.getD
 (xs.getD
 (IntKind.u64.wrap ((↑x.fst : Int) + (↑x.snd : Int)) / (2 : Int) ^ Int.toNat (1 : Int)).toNat
 (0 : Int)).toNat
 ((0 : Int), (0 : Int))).fst <
 (0 : Int) ∧
 ∃ (x' : Nat × Nat),
 ((loF a.toNat m.toNat b.toNat ≤ x'.fst ∧ x'.fst ≤ x'.snd ∧ x'.snd ≤ hiF a.toNat m.toNat b.toNat) ∧
 (x'.fst = loF a.toNat m.toNat b.toNat ∨
 ¬kf sp (xs.getD (midF a.toNat b.toNat + m.toNat - x'.fst) (0 : Int)) <
 kf sp (xs.getD (x'.fst - (1 : Nat)) (0 : Int))) ∧
 (x'.snd = hiF a.toNat m.toNat b.toNat ∨
 kf sp (xs.getD (midF a.toNat b.toNat + m.toNat - (1 : Nat) - x'.snd) (0 : Int)) <
 kf sp (xs.getD x'.snd (0 : Int)))) ∧
 x'.snd - x'.fst < x.snd - x.fst ∧
 (xs = xs ∧ (sp = sp ∧ True) ∧ True) ∧
 (↑x.fst : Int) = (↑x'.fst : Int) ∧
 IntKind.u64.wrap ((↑x.fst : Int) + (↑x.snd : Int)) / (2 : Int) ^ Int.toNat (1 : Int) =
 (↑x'.snd : Int) ∧
 IntKind.u64.wrap (a + b) / (2 : Int) ^ Int.toNat (1 : Int) + m - (1 : Int) =
 IntKind.u64.wrap (a + b) / (2 : Int) ^ Int.toNat (1 : Int) + m - (1 : Int) ∧
 IntKind.u64.wrap (a + b) / (2 : Int) ^ Int.toNat (1 : Int) + m =
 IntKind.u64.wrap (a + b) / (2 : Int) ^ Int.toNat (1 : Int) + m ∧
 IntKind.u64.wrap (a + b) / (2 : Int) ^ Int.toNat (1 : Int) =
 IntKind.u64.wrap (a + b) / (2 : Int) ^ Int.toNat (1 : Int) ∧
 True ∧ a = a ∧ m = m ∧ b = b ∧ True ∧ True)) ∧
 (¬(↑x.fst : Int) < (↑x.snd : Int) →
 ¬(↑x.fst : Int) < (↑x.snd : Int) ∧
 Fits IntKind.i64 (IntKind.u64.wrap (a + b) / (2 : Int) ^ Int.toNat (1 : Int) + m - (↑x.fst : Int)) ∧
 ((↑x.fst : Int) < m →
 (↑x.fst : Int) < m ∧
 (↑x.fst : Int) < m ∧
 (m < IntKind.u64.wrap (a + b) / (2 : Int) ^ Int.toNat (1 : Int) + m - (↑x.fst : Int) →
 m < IntKind.u64.wrap (a + b) / (2 : Int) ^ Int.toNat (1 : Int) + m - (↑x.fst : Int) ∧
 m < IntKind.u64.wrap (a + b) / (2 : Int) ^ Int.toNat (1 : Int) + m - (↑x.fst : Int) ∧
 True ∧
 (xs = xs ∧ True) ∧
 (True ∧
 (↑x.fst : Int) = (↑x.fst : Int) ∧
 m = m ∧
 IntKind.u64.wrap (a + b) / (2 : Int) ^ Int.toNat (1 : Int) + m - (↑x.fst : Int) =
 IntKind.u64.wrap (a + b) / (2 : Int) ^ Int.toNat (1 : Int) + m - (↑x.fst : Int) ∧
 True ∧ True) ∧
 (((0 : Int) ≤ (↑x.fst : Int) ∧
 (↑x.fst : Int) < m ∧
 m < IntKind.u64.wrap (a + b) / (2 : Int) ^ Int.toNat (1 : Int) + m - (↑x.fst : Int)) ∧
 IntKind.u64.wrap (a + b) / (2 : Int) ^ Int.toNat (1 : Int) + m - (↑x.fst : Int) ≤ (↑xs.length : Int) ∧
 xs.length ≤ (1000 : Nat)) ∧
 (a < (↑x.fst : Int) →
 a < (↑x.fst : Int) ∧
 a < (↑x.fst : Int) ∧
 ((↑x.fst : Int) < IntKind.u64.wrap (a + b) / (2 : Int) ^ Int.toNat (1 : Int) →
 (↑x.fst : Int) < IntKind.u64.wrap (a + b) / (2 : Int) ^ Int.toNat (1 : Int) ∧
 (↑x.fst : Int) < IntKind.u64.wrap (a + b) / (2 : Int) ^ Int.toNat (1 : Int) ∧
 True ∧
 (rotF xs (↑x.fst : Int).toNat m.toNat
 (IntKind.u64.wrap (a + b) / (2 : Int) ^ Int.toNat (1 : Int) + m -
 (↑x.fst : Int)).toNat =
 rotF xs (↑x.fst : Int).toNat m.toNat
 (IntKind.u64.wrap (a + b) / (2 : Int) ^ Int.toNat (1 : Int) + m -
 (↑x.fst : Int)).toNat ∧
 (sp = sp ∧ True) ∧ True) ∧
 (True ∧
 a = a ∧
 (↑x.fst : Int) = (↑x.fst : Int) ∧
 IntKind.u64.wrap (a + b) / (2 : Int) ^ Int.toNat (1 : Int) =
 IntKind.u64.wrap (a + b) / (2 : Int) ^ Int.toNat (1 : Int) ∧
 True ∧ True) ∧
 ((((0 : Int) ≤ a ∧
 a < (↑x.fst : Int) ∧
 (↑x.fst : Int) < IntKind.u64.wrap (a + b) / (2 : Int) ^ Int.toNat (1 : Int) ∧
 IntKind.u64.wrap (a + b) / (2 : Int) ^ Int.toNat (1 : Int) ≤
 (↑(rotF xs (↑x.fst : Int).toNat m.toNat
 (IntKind.u64.wrap (a + b) / (2 : Int) ^ Int.toNat (1 : Int) +
 m -
 (↑x.fst : Int)).toNat).length :
 Int) ∧
 (rotF xs (↑x.fst : Int).toNat m.toNat
 (IntKind.u64.wrap (a + b) / (2 : Int) ^ Int.toNat (1 : Int) + m -
 (↑x.fst : Int)).toNat).length ≤
 (1000 : Nat)) ∧
 ((∀ (e : Int),
 e ∈
 rotF xs (↑x.fst : Int).toNat m.toNat
 (IntKind.u64.wrap (a + b) / (2 : Int) ^ Int.toNat (1 : Int) + m -
 (↑x.fst : Int)).toNat →
 (0 : Int) ≤ e ∧ e < (↑sp.length : Int)) ∧
 ∀ (s : Sp), s ∈ sp → (0 : Int) ≤ s.fst ∧ s.fst ≤ (1000 : Int)) ∧
 (∀ (p q : Nat),
 a.toNat ≤ p →
 p < q →
 q < (IntKind.u64.wrap (a + b) / (2 : Int) ^ Int.toNat (1 : Int)).toNat →
 kf sp
 ((rotF xs (↑x.fst : Int).toNat m.toNat
 (IntKind.u64.wrap (a + b) /
 (2 : Int) ^ Int.toNat (1 : Int) +
 m -
 (↑x.fst : Int)).toNat).getD
 p (0 : Int)) =
 kf sp
 ((rotF xs (↑x.fst : Int).toNat m.toNat
 (IntKind.u64.wrap (a + b) /
 (2 : Int) ^ Int.toNat (1 : Int) +
 m -
 (↑x.fst : Int)).toNat).getD
 q (0 : Int)) →
 (rotF xs (↑x.fst : Int).toNat m.toNat
 (IntKind.u64.wrap (a + b) /
 (2 : Int) ^ Int.toNat (1 : Int) +
 m -
 (↑x.fst : Int)).toNat).getD
 p (0 : Int) <
 (rotF xs (↑x.fst : Int).toNat m.toNat
 (IntKind.u64.wrap (a + b) /
 (2 : Int) ^ Int.toNat (1 : Int) +
 m -
 (↑x.fst : Int)).toNat).getD
 q (0 : Int)) ∧
 (∀ (p q : Nat),
 a.toNat ≤ p →
 p < q →
 q < (↑x.fst : Int).toNat →
 leB sp
 ((rotF xs (↑x.fst : Int).toNat m.toNat
 (IntKind.u64.wrap (a + b) /
 (2 : Int) ^ Int.toNat (1 : Int) +
 m -
 (↑x.fst : Int)).toNat).getD
 p (0 : Int))
 ((rotF xs (↑x.fst : Int).toNat m.toNat
 (IntKind.u64.wrap (a + b) /
 (2 : Int) ^ Int.toNat (1 : Int) +
 m -
 (↑x.fst : Int)).toNat).getD
 q (0 : Int)) =
 true) ∧
 ∀ (p q : Nat),
 (↑x.fst : Int).toNat ≤ p →
 p < q →
 q <
 (IntKind.u64.wrap (a + b) /
 (2 : Int) ^ Int.toNat (1 : Int)).toNat →
 leB sp
 ((rotF xs (↑x.fst : Int).toNat m.toNat
 (IntKind.u64.wrap (a + b) /
 (2 : Int) ^ Int.toNat (1 : Int) +
 m -
 (↑x.fst : Int)).toNat).getD
 p (0 : Int))
 ((rotF xs (↑x.fst : Int).toNat m.toNat
 (IntKind.u64.wrap (a + b) /
 (2 : Int) ^ Int.toNat (1 : Int) +
 m -
 (↑x.fst : Int)).toNat).getD
 q (0 : Int)) =
 true) ∧
 m66
 (rotF xs (↑x.fst : Int).toNat m.toNat
 (IntKind.u64.wrap (a + b) / (2 : Int) ^ Int.toNat (1 : Int) + m -
 (↑x.fst : Int)).toNat,
 a, (↑x.fst : Int), IntKind.u64.wrap (a + b) / (2 : Int) ^ Int.toNat (1 : Int),
 sp) <
 m66 (xs, a, m, b, sp)) ∧
 (IntKind.u64.wrap (a + b) / (2 : Int) ^ Int.toNat (1 : Int) <
 IntKind.u64.wrap (a + b) / (2 : Int) ^ Int.toNat (1 : Int) + m -
 (↑x.fst : Int) →
 IntKind.u64.wrap (a + b) / (2 : Int) ^ Int.toNat (1 : Int) <
 IntKind.u64.wrap (a + b) / (2 : Int) ^ Int.toNat (1 : Int) + m -
 (↑x.fst : Int) ∧
 IntKind.u64.wrap (a + b) / (2 : Int) ^ Int.toNat (1 : Int) <
 IntKind.u64.wrap (a + b) / (2 : Int) ^ Int.toNat (1 : Int) + m -
 (↑x.fst : Int) ∧
 (IntKind.u64.wrap (a + b) / (2 : Int) ^ Int.toNat (1 : Int) + m -
 (↑x.fst : Int) <
 b →
 IntKind.u64.wrap (a + b) / (2 : Int) ^ Int.toNat (1 : Int) + m -
 (↑x.fst : Int) <
 b ∧
 IntKind.u64.wrap (a + b) / (2 : Int) ^ Int.toNat (1 : Int) + m -
 (↑x.fst : Int) <
 b ∧
 True ∧
 (sortSeg sp
 (rotF xs (↑x.fst : Int).toNat m.toNat
 (IntKind.u64.wrap (a + b) /
 (2 : Int) ^ Int.toNat (1 : Int) +
 m -
 (↑x.fst : Int)).toNat)
 a.toNat
 (IntKind.u64.wrap (a + b) /
 (2 : Int) ^ Int.toNat (1 : Int)).toNat =
 sortSeg sp
 (rotF xs (↑x.fst : Int).toNat m.toNat
 (IntKind.u64.wrap (a + b) /
 (2 : Int) ^ Int.toNat (1 : Int) +
 m -
 (↑x.fst : Int)).toNat)
 a.toNat
 (IntKind.u64.wrap (a + b) /
 (2 : Int) ^ Int.toNat (1 : Int)).toNat ∧
 (sp = sp ∧ True) ∧ True) ∧
 (True ∧
 IntKind.u64.wrap (a + b) / (2 : Int) ^ Int.toNat (1 : Int) =
 IntKind.u64.wrap (a + b) /
 (2 : Int) ^ Int.toNat (1 : Int) ∧
 IntKind.u64.wrap (a + b) / (2 : Int) ^ Int.toNat (1 : Int) +
 m -
 (↑x.fst : Int) =
 IntKind.u64.wrap (a + b) /
 (2 : Int) ^ Int.toNat (1 : Int) +
 m -
 (↑x.fst : Int) ∧
 b = b ∧ True ∧ True) ∧
 ((((0 : Int) ≤
 IntKind.u64.wrap (a + b) /
 (2 : Int) ^ Int.toNat (1 : Int) ∧
 IntKind.u64.wrap (a + b) /
 (2 : Int) ^ Int.toNat (1 : Int) <
 IntKind.u64.wrap (a + b) /
 (2 : Int) ^ Int.toNat (1 : Int) +
 m -
 (↑x.fst : Int) ∧
 IntKind.u64.wrap (a + b) /
 (2 : Int) ^ Int.toNat (1 : Int) +
 m -
 (↑x.fst : Int) <
 b ∧
 b ≤
 (↑(sortSeg sp
 (rotF xs (↑x.fst : Int).toNat m.toNat
 (IntKind.u64.wrap (a + b) /
 (2 : Int) ^
 Int.toNat (1 : Int) +
 m -
 (↑x.fst : Int)).toNat)
 a.toNat
 (IntKind.u64.wrap (a + b) /
 (2 : Int) ^
 Int.toNat
 (1 : Int)).toNat).length :
 Int) ∧
 (sortSeg sp
 (rotF xs (↑x.fst : Int).toNat m.toNat
 (IntKind.u64.wrap (a + b) /
 (2 : Int) ^ Int.toNat (1 : Int) +
 m -
 (↑x.fst : Int)).toNat)
 a.toNat
 (IntKind.u64.wrap (a + b) /
 (2 : Int) ^
 Int.toNat (1 : Int)).toNat).length ≤
 (1000 : Nat)) ∧
 ((∀ (e : Int),
 e ∈
 sortSeg sp
 (rotF xs (↑x.fst : Int).toNat m.toNat
 (IntKind.u64.wrap (a + b) /
 (2 : Int) ^ Int.toNat (1 : Int) +
 m -
 (↑x.fst : Int)).toNat)
 a.toNat
 (IntKind.u64.wrap (a + b) /
 (2 : Int) ^ Int.toNat (1 : Int)).toNat →
 (0 : Int) ≤ e ∧ e < (↑sp.length : Int)) ∧
 ∀ (s : Sp),
 s ∈ sp → (0 : Int) ≤ s.fst ∧ s.fst ≤ (1000 : Int)) ∧
 (∀ (p q : Nat),
 (IntKind.u64.wrap (a + b) /
 (2 : Int) ^ Int.toNat (1 : Int)).toNat ≤
 p →
 p < q →
 q < b.toNat →
 kf sp
 ((sortSeg sp
 (rotF xs (↑x.fst : Int).toNat
 m.toNat
 (IntKind.u64.wrap (a + b) /
 (2 : Int) ^
 Int.toNat (1 : Int) +
 m -
 (↑x.fst : Int)).toNat)
 a.toNat
 (IntKind.u64.wrap (a + b) /
 (2 : Int) ^
 Int.toNat
 (1 : Int)).toNat).getD
 p (0 : Int)) =
 kf sp
 ((sortSeg sp
 (rotF xs (↑x.fst : Int).toNat
 m.toNat
 (IntKind.u64.wrap (a + b) /
 (2 : Int) ^
 Int.toNat (1 : Int) +
 m -
 (↑x.fst : Int)).toNat)
 a.toNat
 (IntKind.u64.wrap (a + b) /
 (2 : Int) ^
 Int.toNat
 (1 : Int)).toNat).getD
 q (0 : Int)) →
 (sortSeg sp
 (rotF xs (↑x.fst : Int).toNat
 m.toNat
 (IntKind.u64.wrap (a + b) /
 (2 : Int) ^
 Int.toNat (1 : Int) +
 m -
 (↑x.fst : Int)).toNat)
 a.toNat
 (IntKind.u64.wrap (a + b) /
 (2 : Int) ^
 Int.toNat
 (1 : Int)).toNat).getD
 p (0 : Int) <
 (sortSeg sp
 (rotF xs (↑x.fst : Int).toNat
 m.toNat
 (IntKind.u64.wrap (a + b) /
 (2 : Int) ^
 Int.toNat (1 : Int) +
 m -
 (↑x.fst : Int)).toNat)
 a.toNat
 (IntKind.u64.wrap (a + b) /
 (2 : Int) ^
 Int.toNat
 (1 : Int)).toNat).getD
 q (0 : Int)) ∧
 (∀ (p q : Nat),
 (IntKind.u64.wrap (a + b) /
 (2 : Int) ^ Int.toNat (1 : Int)).toNat ≤
 p →
 p < q →
 q <
 (IntKind.u64.wrap (a + b) /
 (2 : Int) ^ Int.toNat (1 : Int) +
 m -
 (↑x.fst : Int)).toNat →
 leB sp
 ((sortSeg sp
 (rotF xs (↑x.fst : Int).toNat
 m.toNat
 (IntKind.u64.wrap (a + b) /
 (2 : Int) ^
 Int.toNat (1 : Int) +
 m -
 (↑x.fst : Int)).toNat)
 a.toNat
 (IntKind.u64.wrap (a + b) /
 (2 : Int) ^
 Int.toNat
 (1 : Int)).toNat).getD
 p (0 : Int))
 ((sortSeg sp
 (rotF xs (↑x.fst : Int).toNat
 m.toNat
 (IntKind.u64.wrap (a + b) /
 (2 : Int) ^
 Int.toNat (1 : Int) +
 m -
 (↑x.fst : Int)).toNat)
 a.toNat
 (IntKind.u64.wrap (a + b) /
 (2 : Int) ^
 Int.toNat
 (1 : Int)).toNat).getD
 q (0 : Int)) =
 true) ∧
 ∀ (p q : Nat),
 (IntKind.u64.wrap (a + b) /
 (2 : Int) ^ Int.toNat (1 : Int) +
 m -
 (↑x.fst : Int)).toNat ≤
 p →
 p < q →
 q < b.toNat →
 leB sp
 ((sortSeg sp
 (rotF xs (↑x.fst : Int).toNat
 m.toNat
 (IntKind.u64.wrap (a + b) /
 (2 : Int) ^
 Int.toNat (1 : Int) +
 m -
 (↑x.fst : Int)).toNat)
 a.toNat
 (IntKind.u64.wrap (a + b) /
 (2 : Int) ^
 Int.toNat
 (1 : Int)).toNat).getD
 p (0 : Int))
 ((sortSeg sp
 (rotF xs (↑x.fst : Int).toNat
 m.toNat
 (IntKind.u64.wrap (a + b) /
 (2 : Int) ^
 Int.toNat (1 : Int) +
 m -
 (↑x.fst : Int)).toNat)
 a.toNat
 (IntKind.u64.wrap (a + b) /
 (2 : Int) ^
 Int.toNat
 (1 : Int)).toNat).getD
 q (0 : Int)) =
 true) ∧
 m66
 (sortSeg sp
 (rotF xs (↑x.fst : Int).toNat m.toNat
 (IntKind.u64.wrap (a + b) /
 (2 : Int) ^ Int.toNat (1 : Int) +
 m -
 (↑x.fst : Int)).toNat)
 a.toNat
 (IntKind.u64.wrap (a + b) /
 (2 : Int) ^ Int.toNat (1 : Int)).toNat,
 IntKind.u64.wrap (a + b) /
 (2 : Int) ^ Int.toNat (1 : Int),
 IntKind.u64.wrap (a + b) /
 (2 : Int) ^ Int.toNat (1 : Int) +
 m -
 (↑x.fst : Int),
 b, sp) <
 m66 (xs, a, m, b, sp)) ∧
 True ∧
 sortSeg sp
 (sortSeg sp
 (rotF xs (↑x.fst : Int).toNat m.toNat
 (IntKind.u64.wrap (a + b) /
 (2 : Int) ^ Int.toNat (1 : Int) +
 m -
 (↑x.fst : Int)).toNat)
 a.toNat
 (IntKind.u64.wrap (a + b) /
 (2 : Int) ^ Int.toNat (1 : Int)).toNat)
 (IntKind.u64.wrap (a + b) /
 (2 : Int) ^ Int.toNat (1 : Int)).toNat
 b.toNat =
 sortSeg sp xs a.toNat b.toNat ∧
 (sp = sp ∧ True) ∧ True) ∧
 (¬IntKind.u64.wrap (a + b) / (2 : Int) ^ Int.toNat (1 : Int) + m -
 (↑x.fst : Int) <
 b →
 ¬IntKind.u64.wrap (a + b) / (2 : Int) ^ Int.toNat (1 : Int) + m -
 (↑x.fst : Int) <
 b ∧
 ¬IntKind.u64.wrap (a + b) / (2 : Int) ^ Int.toNat (1 : Int) + m -
 (↑x.fst : Int) <
 b ∧
 True ∧
 sortSeg sp
 (rotF xs (↑x.fst : Int).toNat m.toNat
 (IntKind.u64.wrap (a + b) /
 (2 : Int) ^ Int.toNat (1 : Int) +
 m -
 (↑x.fst : Int)).toNat)
 a.toNat
 (IntKind.u64.wrap (a + b) /
 (2 : Int) ^ Int.toNat (1 : Int)).toNat =
 sortSeg sp xs a.toNat b.toNat ∧
 (sp = sp ∧ True) ∧ True)) ∧
 (¬IntKind.u64.wrap (a + b) / (2 : Int) ^ Int.toNat (1 : Int) <
 IntKind.u64.wrap (a + b) / (2 : Int) ^ Int.toNat (1 : Int) + m -
 (↑x.fst : Int) →
 ¬IntKind.u64.wrap (a + b) / (2 : Int) ^ Int.toNat (1 : Int) <
 IntKind.u64.wrap (a + b) / (2 : Int) ^ Int.toNat (1 : Int) + m -
 (↑x.fst : Int) ∧
 ¬IntKind.u64.wrap (a + b) / (2 : Int) ^ Int.toNat (1 : Int) <
 IntKind.u64.wrap (a + b) / (2 : Int) ^ Int.toNat (1 : Int) + m -
 (↑x.fst : Int) ∧
 True ∧
 sortSeg sp
 (rotF xs (↑x.fst : Int).toNat m.toNat
 (IntKind.u64.wrap (a + b) / (2 : Int) ^ Int.toNat (1 : Int) + m -
 (↑x.fst : Int)).toNat)
 a.toNat
 (IntKind.u64.wrap (a + b) / (2 : Int) ^ Int.toNat (1 : Int)).toNat =
 sortSeg sp xs a.toNat b.toNat ∧
 (sp = sp ∧ True) ∧ True)) ∧
 (¬(↑x.fst : Int) < IntKind.u64.wrap (a + b) / (2 : Int) ^ Int.toNat (1 : Int) →
 ¬(↑x.fst : Int) < IntKind.u64.wrap (a + b) / (2 : Int) ^ Int.toNat (1 : Int) ∧
 ¬(↑x.fst : Int) < IntKind.u64.wrap (a + b) / (2 : Int) ^ Int.toNat (1 : Int) ∧
 (IntKind.u64.wrap (a + b) / (2 : Int) ^ Int.toNat (1 : Int) <
 IntKind.u64.wrap (a + b) / (2 : Int) ^ Int.toNat (1 : Int) + m - (↑x.fst : Int) →
 IntKind.u64.wrap (a + b) / (2 : Int) ^ Int.toNat (1 : Int) <
 IntKind.u64.wrap (a + b) / (2 : Int) ^ Int.toNat (1 : Int) + m - (↑x.fst : Int) ∧
 IntKind.u64.wrap (a + b) / (2 : Int) ^ Int.toNat (1 : Int) <
 IntKind.u64.wrap (a + b) / (2 : Int) ^ Int.toNat (1 : Int) + m - (↑x.fst : Int) ∧
 (IntKind.u64.wrap (a + b) / (2 : Int) ^ Int.toNat (1 : Int) + m - (↑x.fst : Int) < b →
 IntKind.u64.wrap (a + b) / (2 : Int) ^ Int.toNat (1 : Int) + m - (↑x.fst : Int) <
 b ∧
 IntKind.u64.wrap (a + b) / (2 : Int) ^ Int.toNat (1 : Int) + m -
 (↑x.fst : Int) <
 b ∧
 True ∧
 (rotF xs (↑x.fst : Int).toNat m.toNat
 (IntKind.u64.wrap (a + b) / (2 : Int) ^ Int.toNat (1 : Int) + m -
 (↑x.fst : Int)).toNat =
 rotF xs (↑x.fst : Int).toNat m.toNat
 (IntKind.u64.wrap (a + b) / (2 : Int) ^ Int.toNat (1 : Int) + m -
 (↑x.fst : Int)).toNat ∧
 (sp = sp ∧ True) ∧ True) ∧
 (True ∧
 IntKind.u64.wrap (a + b) / (2 : Int) ^ Int.toNat (1 : Int) =
 IntKind.u64.wrap (a + b) / (2 : Int) ^ Int.toNat (1 : Int) ∧
 IntKind.u64.wrap (a + b) / (2 : Int) ^ Int.toNat (1 : Int) + m -
 (↑x.fst : Int) =
 IntKind.u64.wrap (a + b) / (2 : Int) ^ Int.toNat (1 : Int) + m -
 (↑x.fst : Int) ∧
 b = b ∧ True ∧ True) ∧
 ((((0 : Int) ≤
 IntKind.u64.wrap (a + b) / (2 : Int) ^ Int.toNat (1 : Int) ∧
 IntKind.u64.wrap (a + b) / (2 : Int) ^ Int.toNat (1 : Int) <
 IntKind.u64.wrap (a + b) / (2 : Int) ^ Int.toNat (1 : Int) +
 m -
 (↑x.fst : Int) ∧
 IntKind.u64.wrap (a + b) / (2 : Int) ^ Int.toNat (1 : Int) +
 m -
 (↑x.fst : Int) <
 b ∧
 b ≤
 (↑(rotF xs (↑x.fst : Int).toNat m.toNat
 (IntKind.u64.wrap (a + b) /
 (2 : Int) ^ Int.toNat (1 : Int) +
 m -
 (↑x.fst : Int)).toNat).length :
 Int) ∧
 (rotF xs (↑x.fst : Int).toNat m.toNat
 (IntKind.u64.wrap (a + b) /
 (2 : Int) ^ Int.toNat (1 : Int) +
 m -
 (↑x.fst : Int)).toNat).length ≤
 (1000 : Nat)) ∧
 ((∀ (e : Int),
 e ∈
 rotF xs (↑x.fst : Int).toNat m.toNat
 (IntKind.u64.wrap (a + b) /
 (2 : Int) ^ Int.toNat (1 : Int) +
 m -
 (↑x.fst : Int)).toNat →
 (0 : Int) ≤ e ∧ e < (↑sp.length : Int)) ∧
 ∀ (s : Sp),
 s ∈ sp → (0 : Int) ≤ s.fst ∧ s.fst ≤ (1000 : Int)) ∧
 (∀ (p q : Nat),
 (IntKind.u64.wrap (a + b) /
 (2 : Int) ^ Int.toNat (1 : Int)).toNat ≤
 p →
 p < q →
 q < b.toNat →
 kf sp
 ((rotF xs (↑x.fst : Int).toNat m.toNat
 (IntKind.u64.wrap (a + b) /
 (2 : Int) ^ Int.toNat (1 : Int) +
 m -
 (↑x.fst : Int)).toNat).getD
 p (0 : Int)) =
 kf sp
 ((rotF xs (↑x.fst : Int).toNat m.toNat
 (IntKind.u64.wrap (a + b) /
 (2 : Int) ^ Int.toNat (1 : Int) +
 m -
 (↑x.fst : Int)).toNat).getD
 q (0 : Int)) →
 (rotF xs (↑x.fst : Int).toNat m.toNat
 (IntKind.u64.wrap (a + b) /
 (2 : Int) ^ Int.toNat (1 : Int) +
 m -
 (↑x.fst : Int)).toNat).getD
 p (0 : Int) <
 (rotF xs (↑x.fst : Int).toNat m.toNat
 (IntKind.u64.wrap (a + b) /
 (2 : Int) ^ Int.toNat (1 : Int) +
 m -
 (↑x.fst : Int)).toNat).getD
 q (0 : Int)) ∧
 (∀ (p q : Nat),
 (IntKind.u64.wrap (a + b) /
 (2 : Int) ^ Int.toNat (1 : Int)).toNat ≤
 p →
 p < q →
 q <
 (IntKind.u64.wrap (a + b) /
 (2 : Int) ^ Int.toNat (1 : Int) +
 m -
 (↑x.fst : Int)).toNat →
 leB sp
 ((rotF xs (↑x.fst : Int).toNat m.toNat
 (IntKind.u64.wrap (a + b) /
 (2 : Int) ^ Int.toNat (1 : Int) +
 m -
 (↑x.fst : Int)).toNat).getD
 p (0 : Int))
 ((rotF xs (↑x.fst : Int).toNat m.toNat
 (IntKind.u64.wrap (a + b) /
 (2 : Int) ^ Int.toNat (1 : Int) +
 m -
 (↑x.fst : Int)).toNat).getD
 q (0 : Int)) =
 true) ∧
 ∀ (p q : Nat),
 (IntKind.u64.wrap (a + b) /
 (2 : Int) ^ Int.toNat (1 : Int) +
 m -
 (↑x.fst : Int)).toNat ≤
 p →
 p < q →
 q < b.toNat →
 leB sp
 ((rotF xs (↑x.fst : Int).toNat m.toNat
 (IntKind.u64.wrap (a + b) /
 (2 : Int) ^ Int.toNat (1 : Int) +
 m -
 (↑x.fst : Int)).toNat).getD
 p (0 : Int))
 ((rotF xs (↑x.fst : Int).toNat m.toNat
 (IntKind.u64.wrap (a + b) /
 (2 : Int) ^ Int.toNat (1 : Int) +
 m -
 (↑x.fst : Int)).toNat).getD
 q (0 : Int)) =
 true) ∧
 m66
 (rotF xs (↑x.fst : Int).toNat m.toNat
 (IntKind.u64.wrap (a + b) /
 (2 : Int) ^ Int.toNat (1 : Int) +
 m -
 (↑x.fst : Int)).toNat,
 IntKind.u64.wrap (a + b) / (2 : Int) ^ Int.toNat (1 : Int),
 IntKind.u64.wrap (a + b) / (2 : Int) ^ Int.toNat (1 : Int) +
 m -
 (↑x.fst : Int),
 b, sp) <
 m66 (xs, a, m, b, sp)) ∧
 True ∧
 sortSeg sp
 (rotF xs (↑x.fst : Int).toNat m.toNat
 (IntKind.u64.wrap (a + b) /
 (2 : Int) ^ Int.toNat (1 : Int) +
 m -
 (↑x.fst : Int)).toNat)
 (IntKind.u64.wrap (a + b) /
 (2 : Int) ^ Int.toNat (1 : Int)).toNat
 b.toNat =
 sortSeg sp xs a.toNat b.toNat ∧
 (sp = sp ∧ True) ∧ True) ∧
 (¬IntKind.u64.wrap (a + b) / (2 : Int) ^ Int.toNat (1 : Int) + m - (↑x.fst : Int) <
 b →
 ¬IntKind.u64.wrap (a + b) / (2 : Int) ^ Int.toNat (1 : Int) + m - (↑x.fst : Int) <
 b ∧
 ¬IntKind.u64.wrap (a + b) / (2 : Int) ^ Int.toNat (1 : Int) + m -
 (↑x.fst : Int) <
 b ∧
 True ∧
 rotF xs (↑x.fst : Int).toNat m.toNat
 (IntKind.u64.wrap (a + b) / (2 : Int) ^ Int.toNat (1 : Int) + m -
 (↑x.fst : Int)).toNat =
 sortSeg sp xs a.toNat b.toNat ∧
 (sp = sp ∧ True) ∧ True)) ∧
 (¬IntKind.u64.wrap (a + b) / (2 : Int) ^ Int.toNat (1 : Int) <
 IntKind.u64.wrap (a + b) / (2 : Int) ^ Int.toNat (1 : Int) + m - (↑x.fst : Int) →
 ¬IntKind.u64.wrap (a + b) / (2 : Int) ^ Int.toNat (1 : Int) <
 IntKind.u64.wrap (a + b) / (2 : Int) ^ Int.toNat (1 : Int) + m - (↑x.fst : Int) ∧
 ¬IntKind.u64.wrap (a + b) / (2 : Int) ^ Int.toNat (1 : Int) <
 IntKind.u64.wrap (a + b) / (2 : Int) ^ Int.toNat (1 : Int) + m - (↑x.fst : Int) ∧
 True ∧
 rotF xs (↑x.fst : Int).toNat m.toNat
 (IntKind.u64.wrap (a + b) / (2 : Int) ^ Int.toNat (1 : Int) + m -
 (↑x.fst : Int)).toNat =
 sortSeg sp xs a.toNat b.toNat ∧
 (sp = sp ∧ True) ∧ True))) ∧
 (¬a < (↑x.fst : Int) →
 ¬a < (↑x.fst : Int) ∧
 ¬a < (↑x.fst : Int) ∧
 (IntKind.u64.wrap (a + b) / (2 : Int) ^ Int.toNat (1 : Int) <
 IntKind.u64.wrap (a + b) / (2 : Int) ^ Int.toNat (1 : Int) + m - (↑x.fst : Int) →
 IntKind.u64.wrap (a + b) / (2 : Int) ^ Int.toNat (1 : Int) <
 IntKind.u64.wrap (a + b) / (2 : Int) ^ Int.toNat (1 : Int) + m - (↑x.fst : Int) ∧
 IntKind.u64.wrap (a + b) / (2 : Int) ^ Int.toNat (1 : Int) <
 IntKind.u64.wrap (a + b) / (2 : Int) ^ Int.toNat (1 : Int) + m - (↑x.fst : Int) ∧
 (IntKind.u64.wrap (a + b) / (2 : Int) ^ Int.toNat (1 : Int) + m - (↑x.fst : Int) < b →
 IntKind.u64.wrap (a + b) / (2 : Int) ^ Int.toNat (1 : Int) + m - (↑x.fst : Int) < b ∧
 IntKind.u64.wrap (a + b) / (2 : Int) ^ Int.toNat (1 : Int) + m - (↑x.fst : Int) < b ∧
 True ∧
 (rotF xs (↑x.fst : Int).toNat m.toNat
 (IntKind.u64.wrap (a + b) / (2 : Int) ^ Int.toNat (1 : Int) + m -
 (↑x.fst : Int)).toNat =
 rotF xs (↑x.fst : Int).toNat m.toNat
 (IntKind.u64.wrap (a + b) / (2 : Int) ^ Int.toNat (1 : Int) + m -
 (↑x.fst : Int)).toNat ∧
 (sp = sp ∧ True) ∧ True) ∧
 (True ∧
 IntKind.u64.wrap (a + b) / (2 : Int) ^ Int.toNat (1 : Int) =
 IntKind.u64.wrap (a + b) / (2 : Int) ^ Int.toNat (1 : Int) ∧
 IntKind.u64.wrap (a + b) / (2 : Int) ^ Int.toNat (1 : Int) + m -
 (↑x.fst : Int) =
 IntKind.u64.wrap (a + b) / (2 : Int) ^ Int.toNat (1 : Int) + m -
 (↑x.fst : Int) ∧
 b = b ∧ True ∧ True) ∧
 ((((0 : Int) ≤ IntKind.u64.wrap (a + b) / (2 : Int) ^ Int.toNat (1 : Int) ∧
 IntKind.u64.wrap (a + b) / (2 : Int) ^ Int.toNat (1 : Int) <
 IntKind.u64.wrap (a + b) / (2 : Int) ^ Int.toNat (1 : Int) + m -
 (↑x.fst : Int) ∧
 IntKind.u64.wrap (a + b) / (2 : Int) ^ Int.toNat (1 : Int) + m -
 (↑x.fst : Int) <
 b ∧
 b ≤
 (↑(rotF xs (↑x.fst : Int).toNat m.toNat
 (IntKind.u64.wrap (a + b) /
 (2 : Int) ^ Int.toNat (1 : Int) +
 m -
 (↑x.fst : Int)).toNat).length :
 Int) ∧
 (rotF xs (↑x.fst : Int).toNat m.toNat
 (IntKind.u64.wrap (a + b) /
 (2 : Int) ^ Int.toNat (1 : Int) +
 m -
 (↑x.fst : Int)).toNat).length ≤
 (1000 : Nat)) ∧
 ((∀ (e : Int),
 e ∈
 rotF xs (↑x.fst : Int).toNat m.toNat
 (IntKind.u64.wrap (a + b) / (2 : Int) ^ Int.toNat (1 : Int) +
 m -
 (↑x.fst : Int)).toNat →
 (0 : Int) ≤ e ∧ e < (↑sp.length : Int)) ∧
 ∀ (s : Sp), s ∈ sp → (0 : Int) ≤ s.fst ∧ s.fst ≤ (1000 : Int)) ∧
 (∀ (p q : Nat),
 (IntKind.u64.wrap (a + b) / (2 : Int) ^ Int.toNat (1 : Int)).toNat ≤
 p →
 p < q →
 q < b.toNat →
 kf sp
 ((rotF xs (↑x.fst : Int).toNat m.toNat
 (IntKind.u64.wrap (a + b) /
 (2 : Int) ^ Int.toNat (1 : Int) +
 m -
 (↑x.fst : Int)).toNat).getD
 p (0 : Int)) =
 kf sp
 ((rotF xs (↑x.fst : Int).toNat m.toNat
 (IntKind.u64.wrap (a + b) /
 (2 : Int) ^ Int.toNat (1 : Int) +
 m -
 (↑x.fst : Int)).toNat).getD
 q (0 : Int)) →
 (rotF xs (↑x.fst : Int).toNat m.toNat
 (IntKind.u64.wrap (a + b) /
 (2 : Int) ^ Int.toNat (1 : Int) +
 m -
 (↑x.fst : Int)).toNat).getD
 p (0 : Int) <
 (rotF xs (↑x.fst : Int).toNat m.toNat
 (IntKind.u64.wrap (a + b) /
 (2 : Int) ^ Int.toNat (1 : Int) +
 m -
 (↑x.fst : Int)).toNat).getD
 q (0 : Int)) ∧
 (∀ (p q : Nat),
 (IntKind.u64.wrap (a + b) /
 (2 : Int) ^ Int.toNat (1 : Int)).toNat ≤
 p →
 p < q →
 q <
 (IntKind.u64.wrap (a + b) /
 (2 : Int) ^ Int.toNat (1 : Int) +
 m -
 (↑x.fst : Int)).toNat →
 leB sp
 ((rotF xs (↑x.fst : Int).toNat m.toNat
 (IntKind.u64.wrap (a + b) /
 (2 : Int) ^ Int.toNat (1 : Int) +
 m -
 (↑x.fst : Int)).toNat).getD
 p (0 : Int))
 ((rotF xs (↑x.fst : Int).toNat m.toNat
 (IntKind.u64.wrap (a + b) /
 (2 : Int) ^ Int.toNat (1 : Int) +
 m -
 (↑x.fst : Int)).toNat).getD
 q (0 : Int)) =
 true) ∧
 ∀ (p q : Nat),
 (IntKind.u64.wrap (a + b) / (2 : Int) ^ Int.toNat (1 : Int) + m -
 (↑x.fst : Int)).toNat ≤
 p →
 p < q →
 q < b.toNat →
 leB sp
 ((rotF xs (↑x.fst : Int).toNat m.toNat
 (IntKind.u64.wrap (a + b) /
 (2 : Int) ^ Int.toNat (1 : Int) +
 m -
 (↑x.fst : Int)).toNat).getD
 p (0 : Int))
 ((rotF xs (↑x.fst : Int).toNat m.toNat
 (IntKind.u64.wrap (a + b) /
 (2 : Int) ^ Int.toNat (1 : Int) +
 m -
 (↑x.fst : Int)).toNat).getD
 q (0 : Int)) =
 true) ∧
 m66
 (rotF xs (↑x.fst : Int).toNat m.toNat
 (IntKind.u64.wrap (a + b) / (2 : Int) ^ Int.toNat (1 : Int) + m -
 (↑x.fst : Int)).toNat,
 IntKind.u64.wrap (a + b) / (2 : Int) ^ Int.toNat (1 : Int),
 IntKind.u64.wrap (a + b) / (2 : Int) ^ Int.toNat (1 : Int) + m -
 (↑x.fst : Int),
 b, sp) <
 m66 (xs, a, m, b, sp)) ∧
 True ∧
 sortSeg sp
 (rotF xs (↑x.fst : Int).toNat m.toNat
 (IntKind.u64.wrap (a + b) / (2 : Int) ^ Int.toNat (1 : Int) + m -
 (↑x.fst : Int)).toNat)
 (IntKind.u64.wrap (a + b) / (2 : Int) ^ Int.toNat (1 : Int)).toNat
 b.toNat =
 sortSeg sp xs a.toNat b.toNat ∧
 (sp = sp ∧ True) ∧ True) ∧
 (¬IntKind.u64.wrap (a + b) / (2 : Int) ^ Int.toNat (1 : Int) + m - (↑x.fst : Int) < b →
 ¬IntKind.u64.wrap (a + b) / (2 : Int) ^ Int.toNat (1 : Int) + m - (↑x.fst : Int) < b ∧
 ¬IntKind.u64.wrap (a + b) / (2 : Int) ^ Int.toNat (1 : Int) + m - (↑x.fst : Int) < b ∧
 True ∧
 rotF xs (↑x.fst : Int).toNat m.toNat
 (IntKind.u64.wrap (a + b) / (2 : Int) ^ Int.toNat (1 : Int) + m -
 (↑x.fst : Int)).toNat =
 sortSeg sp xs a.toNat b.toNat ∧
 (sp = sp ∧ True) ∧ True)) ∧
 (¬IntKind.u64.wrap (a + b) / (2 : Int) ^ Int.toNat (1 : Int) <
 IntKind.u64.wrap (a + b) / (2 : Int) ^ Int.toNat (1 : Int) + m - (↑x.fst : Int) →
 ¬IntKind.u64.wrap (a + b) / (2 : Int) ^ Int.toNat (1 : Int) <
 IntKind.u64.wrap (a + b) / (2 : Int) ^ Int.toNat (1 : Int) + m - (↑x.fst : Int) ∧
 ¬IntKind.u64.wrap (a + b) / (2 : Int) ^ Int.toNat (1 : Int) <
 IntKind.u64.wrap (a + b) / (2 : Int) ^ Int.toNat (1 : Int) + m - (↑x.fst : Int) ∧
 True ∧
 rotF xs (↑x.fst : Int).toNat m.toNat
 (IntKind.u64.wrap (a + b) / (2 : Int) ^ Int.toNat (1 : Int) + m -
 (↑x.fst : Int)).toNat =
 sortSeg sp xs a.toNat b.toNat ∧
 (sp = sp ∧ True) ∧ True))) ∧
 (¬m < IntKind.u64.wrap (a + b) / (2 : Int) ^ Int.toNat (1 : Int) + m - (↑x.fst : Int) →
 ¬m < IntKind.u64.wrap (a + b) / (2 : Int) ^ Int.toNat (1 : Int) + m - (↑x.fst : Int) ∧
 ¬m < IntKind.u64.wrap (a + b) / (2 : Int) ^ Int.toNat (1 : Int) + m - (↑x.fst : Int) ∧
 (a < (↑x.fst : Int) →
 a < (↑x.fst : Int) ∧
 a < (↑x.fst : Int) ∧
 ((↑x.fst : Int) < IntKind.u64.wrap (a + b) / (2 : Int) ^ Int.toNat (1 : Int) →
 (↑x.fst : Int) < IntKind.u64.wrap (a + b) / (2 : Int) ^ Int.toNat (1 : Int) ∧
 (↑x.fst : Int) < IntKind.u64.wrap (a + b) / (2 : Int) ^ Int.toNat (1 : Int) ∧
 True ∧
 (xs = xs ∧ (sp = sp ∧ True) ∧ True) ∧
 (True ∧
 a = a ∧
 (↑x.fst : Int) = (↑x.fst : Int) ∧
 IntKind.u64.wrap (a + b) / (2 : Int) ^ Int.toNat (1 : Int) =
 IntKind.u64.wrap (a + b) / (2 : Int) ^ Int.toNat (1 : Int) ∧
 True ∧ True) ∧
 ((((0 : Int) ≤ a ∧
 a < (↑x.fst : Int) ∧
 (↑x.fst : Int) < IntKind.u64.wrap (a + b) / (2 : Int) ^ Int.toNat (1 : Int) ∧
 IntKind.u64.wrap (a + b) / (2 : Int) ^ Int.toNat (1 : Int) ≤ (↑xs.length : Int) ∧
 xs.length ≤ (1000 : Nat)) ∧
 ((∀ (e : Int), e ∈ xs → (0 : Int) ≤ e ∧ e < (↑sp.length : Int)) ∧
 ∀ (s : Sp), s ∈ sp → (0 : Int) ≤ s.fst ∧ s.fst ≤ (1000 : Int)) ∧
 (∀ (p q : Nat),
 a.toNat ≤ p →
 p < q →
 q < (IntKind.u64.wrap (a + b) / (2 : Int) ^ Int.toNat (1 : Int)).toNat →
 kf sp (xs.getD p (0 : Int)) = kf sp (xs.getD q (0 : Int)) →
 xs.getD p (0 : Int) < xs.getD q (0 : Int)) ∧
 (∀ (p q : Nat),
 a.toNat ≤ p →
 p < q →
 q < (↑x.fst : Int).toNat →
 leB sp (xs.getD p (0 : Int)) (xs.getD q (0 : Int)) = true) ∧
 ∀ (p q : Nat),
 (↑x.fst : Int).toNat ≤ p →
 p < q →
 q < (IntKind.u64.wrap (a + b) / (2 : Int) ^ Int.toNat (1 : Int)).toNat →
 leB sp (xs.getD p (0 : Int)) (xs.getD q (0 : Int)) = true) ∧
 m66
 (xs, a, (↑x.fst : Int), IntKind.u64.wrap (a + b) / (2 : Int) ^ Int.toNat (1 : Int),
 sp) <
 m66 (xs, a, m, b, sp)) ∧
 (IntKind.u64.wrap (a + b) / (2 : Int) ^ Int.toNat (1 : Int) <
 IntKind.u64.wrap (a + b) / (2 : Int) ^ Int.toNat (1 : Int) + m - (↑x.fst : Int) →
 IntKind.u64.wrap (a + b) / (2 : Int) ^ Int.toNat (1 : Int) <
 IntKind.u64.wrap (a + b) / (2 : Int) ^ Int.toNat (1 : Int) + m - (↑x.fst : Int) ∧
 IntKind.u64.wrap (a + b) / (2 : Int) ^ Int.toNat (1 : Int) <
 IntKind.u64.wrap (a + b) / (2 : Int) ^ Int.toNat (1 : Int) + m - (↑x.fst : Int) ∧
 (IntKind.u64.wrap (a + b) / (2 : Int) ^ Int.toNat (1 : Int) + m - (↑x.fst : Int) < b →
 IntKind.u64.wrap (a + b) / (2 : Int) ^ Int.toNat (1 : Int) + m - (↑x.fst : Int) <
 b ∧
 IntKind.u64.wrap (a + b) / (2 : Int) ^ Int.toNat (1 : Int) + m -
 (↑x.fst : Int) <
 b ∧
 True ∧
 (sortSeg sp xs a.toNat
 (IntKind.u64.wrap (a + b) / (2 : Int) ^ Int.toNat (1 : Int)).toNat =
 sortSeg sp xs a.toNat
 (IntKind.u64.wrap (a + b) / (2 : Int) ^ Int.toNat (1 : Int)).toNat ∧
 (sp = sp ∧ True) ∧ True) ∧
 (True ∧
 IntKind.u64.wrap (a + b) / (2 : Int) ^ Int.toNat (1 : Int) =
 IntKind.u64.wrap (a + b) / (2 : Int) ^ Int.toNat (1 : Int) ∧
 IntKind.u64.wrap (a + b) / (2 : Int) ^ Int.toNat (1 : Int) + m -
 (↑x.fst : Int) =
 IntKind.u64.wrap (a + b) / (2 : Int) ^ Int.toNat (1 : Int) + m -
 (↑x.fst : Int) ∧
 b = b ∧ True ∧ True) ∧
 ((((0 : Int) ≤
 IntKind.u64.wrap (a + b) / (2 : Int) ^ Int.toNat (1 : Int) ∧
 IntKind.u64.wrap (a + b) / (2 : Int) ^ Int.toNat (1 : Int) <
 IntKind.u64.wrap (a + b) / (2 : Int) ^ Int.toNat (1 : Int) +
 m -
 (↑x.fst : Int) ∧
 IntKind.u64.wrap (a + b) / (2 : Int) ^ Int.toNat (1 : Int) +
 m -
 (↑x.fst : Int) <
 b ∧
 b ≤
 (↑(sortSeg sp xs a.toNat
 (IntKind.u64.wrap (a + b) /
 (2 : Int) ^
 Int.toNat (1 : Int)).toNat).length :
 Int) ∧
 (sortSeg sp xs a.toNat
 (IntKind.u64.wrap (a + b) /
 (2 : Int) ^ Int.toNat (1 : Int)).toNat).length ≤
 (1000 : Nat)) ∧
 ((∀ (e : Int),
 e ∈
 sortSeg sp xs a.toNat
 (IntKind.u64.wrap (a + b) /
 (2 : Int) ^ Int.toNat (1 : Int)).toNat →
 (0 : Int) ≤ e ∧ e < (↑sp.length : Int)) ∧
 ∀ (s : Sp),
 s ∈ sp → (0 : Int) ≤ s.fst ∧ s.fst ≤ (1000 : Int)) ∧
 (∀ (p q : Nat),
 (IntKind.u64.wrap (a + b) /
 (2 : Int) ^ Int.toNat (1 : Int)).toNat ≤
 p →
 p < q →
 q < b.toNat →
 kf sp
 ((sortSeg sp xs a.toNat
 (IntKind.u64.wrap (a + b) /
 (2 : Int) ^
 Int.toNat (1 : Int)).toNat).getD
 p (0 : Int)) =
 kf sp
 ((sortSeg sp xs a.toNat
 (IntKind.u64.wrap (a + b) /
 (2 : Int) ^
 Int.toNat (1 : Int)).toNat).getD
 q (0 : Int)) →
 (sortSeg sp xs a.toNat
 (IntKind.u64.wrap (a + b) /
 (2 : Int) ^
 Int.toNat (1 : Int)).toNat).getD
 p (0 : Int) <
 (sortSeg sp xs a.toNat
 (IntKind.u64.wrap (a + b) /
 (2 : Int) ^
 Int.toNat (1 : Int)).toNat).getD
 q (0 : Int)) ∧
 (∀ (p q : Nat),
 (IntKind.u64.wrap (a + b) /
 (2 : Int) ^ Int.toNat (1 : Int)).toNat ≤
 p →
 p < q →
 q <
 (IntKind.u64.wrap (a + b) /
 (2 : Int) ^ Int.toNat (1 : Int) +
 m -
 (↑x.fst : Int)).toNat →
 leB sp
 ((sortSeg sp xs a.toNat
 (IntKind.u64.wrap (a + b) /
 (2 : Int) ^
 Int.toNat (1 : Int)).toNat).getD
 p (0 : Int))
 ((sortSeg sp xs a.toNat
 (IntKind.u64.wrap (a + b) /
 (2 : Int) ^
 Int.toNat (1 : Int)).toNat).getD
 q (0 : Int)) =
 true) ∧
 ∀ (p q : Nat),
 (IntKind.u64.wrap (a + b) /
 (2 : Int) ^ Int.toNat (1 : Int) +
 m -
 (↑x.fst : Int)).toNat ≤
 p →
 p < q →
 q < b.toNat →
 leB sp
 ((sortSeg sp xs a.toNat
 (IntKind.u64.wrap (a + b) /
 (2 : Int) ^
 Int.toNat (1 : Int)).toNat).getD
 p (0 : Int))
 ((sortSeg sp xs a.toNat
 (IntKind.u64.wrap (a + b) /
 (2 : Int) ^
 Int.toNat (1 : Int)).toNat).getD
 q (0 : Int)) =
 true) ∧
 m66
 (sortSeg sp xs a.toNat
 (IntKind.u64.wrap (a + b) /
 (2 : Int) ^ Int.toNat (1 : Int)).toNat,
 IntKind.u64.wrap (a + b) / (2 : Int) ^ Int.toNat (1 : Int),
 IntKind.u64.wrap (a + b) / (2 : Int) ^ Int.toNat (1 : Int) +
 m -
 (↑x.fst : Int),
 b, sp) <
 m66 (xs, a, m, b, sp)) ∧
 True ∧
 sortSeg sp
 (sortSeg sp xs a.toNat
 (IntKind.u64.wrap (a + b) /
 (2 : Int) ^ Int.toNat (1 : Int)).toNat)
 (IntKind.u64.wrap (a + b) /
 (2 : Int) ^ Int.toNat (1 : Int)).toNat
 b.toNat =
 sortSeg sp xs a.toNat b.toNat ∧
 (sp = sp ∧ True) ∧ True) ∧
 (¬IntKind.u64.wrap (a + b) / (2 : Int) ^ Int.toNat (1 : Int) + m - (↑x.fst : Int) <
 b →
 ¬IntKind.u64.wrap (a + b) / (2 : Int) ^ Int.toNat (1 : Int) + m - (↑x.fst : Int) <
 b ∧
 ¬IntKind.u64.wrap (a + b) / (2 : Int) ^ Int.toNat (1 : Int) + m -
 (↑x.fst : Int) <
 b ∧
 True ∧
 sortSeg sp xs a.toNat
 (IntKind.u64.wrap (a + b) / (2 : Int) ^ Int.toNat (1 : Int)).toNat =
 sortSeg sp xs a.toNat b.toNat ∧
 (sp = sp ∧ True) ∧ True)) ∧
 (¬IntKind.u64.wrap (a + b) / (2 : Int) ^ Int.toNat (1 : Int) <
 IntKind.u64.wrap (a + b) / (2 : Int) ^ Int.toNat (1 : Int) + m - (↑x.fst : Int) →
 ¬IntKind.u64.wrap (a + b) / (2 : Int) ^ Int.toNat (1 : Int) <
 IntKind.u64.wrap (a + b) / (2 : Int) ^ Int.toNat (1 : Int) + m - (↑x.fst : Int) ∧
 ¬IntKind.u64.wrap (a + b) / (2 : Int) ^ Int.toNat (1 : Int) <
 IntKind.u64.wrap (a + b) / (2 : Int) ^ Int.toNat (1 : Int) + m - (↑x.fst : Int) ∧
 True ∧
 sortSeg sp xs a.toNat
 (IntKind.u64.wrap (a + b) / (2 : Int) ^ Int.toNat (1 : Int)).toNat =
 sortSeg sp xs a.toNat b.toNat ∧
 (sp = sp ∧ True) ∧ True)) ∧
 (¬(↑x.fst : Int) < IntKind.u64.wrap (a + b) / (2 : Int) ^ Int.toNat (1 : Int) →
 ¬(↑x.fst : Int) < IntKind.u64.wrap (a + b) / (2 : Int) ^ Int.toNat (1 : Int) ∧
 ¬(↑x.fst : Int) < IntKind.u64.wrap (a + b) / (2 : Int) ^ Int.toNat (1 : Int) ∧
 (IntKind.u64.wrap (a + b) / (2 : Int) ^ Int.toNat (1 : Int) <
 IntKind.u64.wrap (a + b) / (2 : Int) ^ Int.toNat (1 : Int) + m - (↑x.fst : Int) →
 IntKind.u64.wrap (a + b) / (2 : Int) ^ Int.toNat (1 : Int) <
 IntKind.u64.wrap (a + b) / (2 : Int) ^ Int.toNat (1 : Int) + m - (↑x.fst : Int) ∧
 IntKind.u64.wrap (a + b) / (2 : Int) ^ Int.toNat (1 : Int) <
 IntKind.u64.wrap (a + b) / (2 : Int) ^ Int.toNat (1 : Int) + m - (↑x.fst : Int) ∧
 (IntKind.u64.wrap (a + b) / (2 : Int) ^ Int.toNat (1 : Int) + m - (↑x.fst : Int) < b →
 IntKind.u64.wrap (a + b) / (2 : Int) ^ Int.toNat (1 : Int) + m - (↑x.fst : Int) < b ∧
 IntKind.u64.wrap (a + b) / (2 : Int) ^ Int.toNat (1 : Int) + m - (↑x.fst : Int) < b ∧
 True ∧
 (xs = xs ∧ (sp = sp ∧ True) ∧ True) ∧
 (True ∧
 IntKind.u64.wrap (a + b) / (2 : Int) ^ Int.toNat (1 : Int) =
 IntKind.u64.wrap (a + b) / (2 : Int) ^ Int.toNat (1 : Int) ∧
 IntKind.u64.wrap (a + b) / (2 : Int) ^ Int.toNat (1 : Int) + m -
 (↑x.fst : Int) =
 IntKind.u64.wrap (a + b) / (2 : Int) ^ Int.toNat (1 : Int) + m -
 (↑x.fst : Int) ∧
 b = b ∧ True ∧ True) ∧
 ((((0 : Int) ≤ IntKind.u64.wrap (a + b) / (2 : Int) ^ Int.toNat (1 : Int) ∧
 IntKind.u64.wrap (a + b) / (2 : Int) ^ Int.toNat (1 : Int) <
 IntKind.u64.wrap (a + b) / (2 : Int) ^ Int.toNat (1 : Int) + m -
 (↑x.fst : Int) ∧
 IntKind.u64.wrap (a + b) / (2 : Int) ^ Int.toNat (1 : Int) + m -
 (↑x.fst : Int) <
 b ∧
 b ≤ (↑xs.length : Int) ∧ xs.length ≤ (1000 : Nat)) ∧
 ((∀ (e : Int), e ∈ xs → (0 : Int) ≤ e ∧ e < (↑sp.length : Int)) ∧
 ∀ (s : Sp), s ∈ sp → (0 : Int) ≤ s.fst ∧ s.fst ≤ (1000 : Int)) ∧
 (∀ (p q : Nat),
 (IntKind.u64.wrap (a + b) / (2 : Int) ^ Int.toNat (1 : Int)).toNat ≤
 p →
 p < q →
 q < b.toNat →
 kf sp (xs.getD p (0 : Int)) = kf sp (xs.getD q (0 : Int)) →
 xs.getD p (0 : Int) < xs.getD q (0 : Int)) ∧
 (∀ (p q : Nat),
 (IntKind.u64.wrap (a + b) /
 (2 : Int) ^ Int.toNat (1 : Int)).toNat ≤
 p →
 p < q →
 q <
 (IntKind.u64.wrap (a + b) /
 (2 : Int) ^ Int.toNat (1 : Int) +
 m -
 (↑x.fst : Int)).toNat →
 leB sp (xs.getD p (0 : Int)) (xs.getD q (0 : Int)) = true) ∧
 ∀ (p q : Nat),
 (IntKind.u64.wrap (a + b) / (2 : Int) ^ Int.toNat (1 : Int) + m -
 (↑x.fst : Int)).toNat ≤
 p →
 p < q →
 q < b.toNat →
 leB sp (xs.getD p (0 : Int)) (xs.getD q (0 : Int)) = true) ∧
 m66
 (xs, IntKind.u64.wrap (a + b) / (2 : Int) ^ Int.toNat (1 : Int),
 IntKind.u64.wrap (a + b) / (2 : Int) ^ Int.toNat (1 : Int) + m -
 (↑x.fst : Int),
 b, sp) <
 m66 (xs, a, m, b, sp)) ∧
 True ∧
 sortSeg sp xs
 (IntKind.u64.wrap (a + b) / (2 : Int) ^ Int.toNat (1 : Int)).toNat
 b.toNat =
 sortSeg sp xs a.toNat b.toNat ∧
 (sp = sp ∧ True) ∧ True) ∧
 (¬IntKind.u64.wrap (a + b) / (2 : Int) ^ Int.toNat (1 : Int) + m - (↑x.fst : Int) < b →
 ¬IntKind.u64.wrap (a + b) / (2 : Int) ^ Int.toNat (1 : Int) + m - (↑x.fst : Int) < b ∧
 ¬IntKind.u64.wrap (a + b) / (2 : Int) ^ Int.toNat (1 : Int) + m - (↑x.fst : Int) < b ∧
 True ∧ xs = sortSeg sp xs a.toNat b.toNat ∧ (sp = sp ∧ True) ∧ True)) ∧
 (¬IntKind.u64.wrap (a + b) / (2 : Int) ^ Int.toNat (1 : Int) <
 IntKind.u64.wrap (a + b) / (2 : Int) ^ Int.toNat (1 : Int) + m - (↑x.fst : Int) →
 ¬IntKind.u64.wrap (a + b) / (2 : Int) ^ Int.toNat (1 : Int) <
 IntKind.u64.wrap (a + b) / (2 : Int) ^ Int.toNat (1 : Int) + m - (↑x.fst : Int) ∧
 ¬IntKind.u64.wrap (a + b) / (2 : Int) ^ Int.toNat (1 : Int) <
 IntKind.u64.wrap (a + b) / (2 : Int) ^ Int.toNat (1 : Int) + m - (↑x.fst : Int) ∧
 True ∧ xs = sortSeg sp xs a.toNat b.toNat ∧ (sp = sp ∧ True) ∧ True))) ∧
 (¬a < (↑x.fst : Int) →
 ¬a < (↑x.fst : Int) ∧
 ¬a < (↑x.fst : Int) ∧
 (IntKind.u64.wrap (a + b) / (2 : Int) ^ Int.toNat (1 : Int) <
 IntKind.u64.wrap (a + b) / (2 : Int) ^ Int.toNat (1 : Int) + m - (↑x.fst : Int) →
 IntKind.u64.wrap (a + b) / (2 : Int) ^ Int.toNat (1 : Int) <
 IntKind.u64.wrap (a + b) / (2 : Int) ^ Int.toNat (1 : Int) + m - (↑x.fst : Int) ∧
 IntKind.u64.wrap (a + b) / (2 : Int) ^ Int.toNat (1 : Int) <
 IntKind.u64.wrap (a + b) / (2 : Int) ^ Int.toNat (1 : Int) + m - (↑x.fst : Int) ∧
 (IntKind.u64.wrap (a + b) / (2 : Int) ^ Int.toNat (1 : Int) + m - (↑x.fst : Int) < b →
 IntKind.u64.wrap (a + b) / (2 : Int) ^ Int.toNat (1 : Int) + m - (↑x.fst : Int) < b ∧
 IntKind.u64.wrap (a + b) / (2 : Int) ^ Int.toNat (1 : Int) + m - (↑x.fst : Int) < b ∧
 True ∧
 (xs = xs ∧ (sp = sp ∧ True) ∧ True) ∧
 (True ∧
 IntKind.u64.wrap (a + b) / (2 : Int) ^ Int.toNat (1 : Int) =
 IntKind.u64.wrap (a + b) / (2 : Int) ^ Int.toNat (1 : Int) ∧
 IntKind.u64.wrap (a + b) / (2 : Int) ^ Int.toNat (1 : Int) + m - (↑x.fst : Int) =
 IntKind.u64.wrap (a + b) / (2 : Int) ^ Int.toNat (1 : Int) + m -
 (↑x.fst : Int) ∧
 b = b ∧ True ∧ True) ∧
 ((((0 : Int) ≤ IntKind.u64.wrap (a + b) / (2 : Int) ^ Int.toNat (1 : Int) ∧
 IntKind.u64.wrap (a + b) / (2 : Int) ^ Int.toNat (1 : Int) <
 IntKind.u64.wrap (a + b) / (2 : Int) ^ Int.toNat (1 : Int) + m -
 (↑x.fst : Int) ∧
 IntKind.u64.wrap (a + b) / (2 : Int) ^ Int.toNat (1 : Int) + m -
 (↑x.fst : Int) <
 b ∧
 b ≤ (↑xs.length : Int) ∧ xs.length ≤ (1000 : Nat)) ∧
 ((∀ (e : Int), e ∈ xs → (0 : Int) ≤ e ∧ e < (↑sp.length : Int)) ∧
 ∀ (s : Sp), s ∈ sp → (0 : Int) ≤ s.fst ∧ s.fst ≤ (1000 : Int)) ∧
 (∀ (p q : Nat),
 (IntKind.u64.wrap (a + b) / (2 : Int) ^ Int.toNat (1 : Int)).toNat ≤ p →
 p < q →
 q < b.toNat →
 kf sp (xs.getD p (0 : Int)) = kf sp (xs.getD q (0 : Int)) →
 xs.getD p (0 : Int) < xs.getD q (0 : Int)) ∧
 (∀ (p q : Nat),
 (IntKind.u64.wrap (a + b) / (2 : Int) ^ Int.toNat (1 : Int)).toNat ≤ p →
 p < q →
 q <
 (IntKind.u64.wrap (a + b) / (2 : Int) ^ Int.toNat (1 : Int) + m -
 (↑x.fst : Int)).toNat →
 leB sp (xs.getD p (0 : Int)) (xs.getD q (0 : Int)) = true) ∧
 ∀ (p q : Nat),
 (IntKind.u64.wrap (a + b) / (2 : Int) ^ Int.toNat (1 : Int) + m -
 (↑x.fst : Int)).toNat ≤
 p →
 p < q →
 q < b.toNat →
 leB sp (xs.getD p (0 : Int)) (xs.getD q (0 : Int)) = true) ∧
 m66
 (xs, IntKind.u64.wrap (a + b) / (2 : Int) ^ Int.toNat (1 : Int),
 IntKind.u64.wrap (a + b) / (2 : Int) ^ Int.toNat (1 : Int) + m -
 (↑x.fst : Int),
 b, sp) <
 m66 (xs, a, m, b, sp)) ∧
 True ∧
 sortSeg sp xs (IntKind.u64.wrap (a + b) / (2 : Int) ^ Int.toNat (1 : Int)).toNat
 b.toNat =
 sortSeg sp xs a.toNat b.toNat ∧
 (sp = sp ∧ True) ∧ True) ∧
 (¬IntKind.u64.wrap (a + b) / (2 : Int) ^ Int.toNat (1 : Int) + m - (↑x.fst : Int) < b →
 ¬IntKind.u64.wrap (a + b) / (2 : Int) ^ Int.toNat (1 : Int) + m - (↑x.fst : Int) < b ∧
 ¬IntKind.u64.wrap (a + b) / (2 : Int) ^ Int.toNat (1 : Int) + m - (↑x.fst : Int) < b ∧
 True ∧ xs = sortSeg sp xs a.toNat b.toNat ∧ (sp = sp ∧ True) ∧ True)) ∧
 (¬IntKind.u64.wrap (a + b) / (2 : Int) ^ Int.toNat (1 : Int) <
 IntKind.u64.wrap (a + b) / (2 : Int) ^ Int.toNat (1 : Int) + m - (↑x.fst : Int) →
 ¬IntKind.u64.wrap (a + b) / (2 : Int) ^ Int.toNat (1 : Int) <
 IntKind.u64.wrap (a + b) / (2 : Int) ^ Int.toNat (1 : Int) + m - (↑x.fst : Int) ∧
 ¬IntKind.u64.wrap (a + b) / (2 : Int) ^ Int.toNat (1 : Int) <
 IntKind.u64.wrap (a + b) / (2 : Int) ^ Int.toNat (1 : Int) + m - (↑x.fst : Int) ∧
 True ∧ xs = sortSeg sp xs a.toNat b.toNat ∧ (sp = sp ∧ True) ∧ True)))) ∧
 (¬(↑x.fst : Int) < m →
 ¬(↑x.fst : Int) < m ∧
 ¬(↑x.fst : Int) < m ∧
 (a < (↑x.fst : Int) →
 a < (↑x.fst : Int) ∧
 a < (↑x.fst : Int) ∧
 ((↑x.fst : Int) < IntKind.u64.wrap (a + b) / (2 : Int) ^ Int.toNat (1 : Int) →
 (↑x.fst : Int) < IntKind.u64.wrap (a + b) / (2 : Int) ^ Int.toNat (1 : Int) ∧
 (↑x.fst : Int) < IntKind.u64.wrap (a + b) / (2 : Int) ^ Int.toNat (1 : Int) ∧
 True ∧
 (xs = xs ∧ (sp = sp ∧ True) ∧ True) ∧
 (True ∧
 a = a ∧
 (↑x.fst : Int) = (↑x.fst : Int) ∧
 IntKind.u64.wrap (a + b) / (2 : Int) ^ Int.toNat (1 : Int) =
 IntKind.u64.wrap (a + b) / (2 : Int) ^ Int.toNat (1 : Int) ∧
 True ∧ True) ∧
 ((((0 : Int) ≤ a ∧
 a < (↑x.fst : Int) ∧
 (↑x.fst : Int) < IntKind.u64.wrap (a + b) / (2 : Int) ^ Int.toNat (1 : Int) ∧
 IntKind.u64.wrap (a + b) / (2 : Int) ^ Int.toNat (1 : Int) ≤ (↑xs.length : Int) ∧
 xs.length ≤ (1000 : Nat)) ∧
 ((∀ (e : Int), e ∈ xs → (0 : Int) ≤ e ∧ e < (↑sp.length : Int)) ∧
 ∀ (s : Sp), s ∈ sp → (0 : Int) ≤ s.fst ∧ s.fst ≤ (1000 : Int)) ∧
 (∀ (p q : Nat),
 a.toNat ≤ p →
 p < q →
 q < (IntKind.u64.wrap (a + b) / (2 : Int) ^ Int.toNat (1 : Int)).toNat →
 kf sp (xs.getD p (0 : Int)) = kf sp (xs.getD q (0 : Int)) →
 xs.getD p (0 : Int) < xs.getD q (0 : Int)) ∧
 (∀ (p q : Nat),
 a.toNat ≤ p →
 p < q →
 q < (↑x.fst : Int).toNat →
 leB sp (xs.getD p (0 : Int)) (xs.getD q (0 : Int)) = true) ∧
 ∀ (p q : Nat),
 (↑x.fst : Int).toNat ≤ p →
 p < q →
 q < (IntKind.u64.wrap (a + b) / (2 : Int) ^ Int.toNat (1 : Int)).toNat →
 leB sp (xs.getD p (0 : Int)) (xs.getD q (0 : Int)) = true) ∧
 m66 (xs, a, (↑x.fst : Int), IntKind.u64.wrap (a + b) / (2 : Int) ^ Int.toNat (1 : Int), sp) <
 m66 (xs, a, m, b, sp)) ∧
 (IntKind.u64.wrap (a + b) / (2 : Int) ^ Int.toNat (1 : Int) <
 IntKind.u64.wrap (a + b) / (2 : Int) ^ Int.toNat (1 : Int) + m - (↑x.fst : Int) →
 IntKind.u64.wrap (a + b) / (2 : Int) ^ Int.toNat (1 : Int) <
 IntKind.u64.wrap (a + b) / (2 : Int) ^ Int.toNat (1 : Int) + m - (↑x.fst : Int) ∧
 IntKind.u64.wrap (a + b) / (2 : Int) ^ Int.toNat (1 : Int) <
 IntKind.u64.wrap (a + b) / (2 : Int) ^ Int.toNat (1 : Int) + m - (↑x.fst : Int) ∧
 (IntKind.u64.wrap (a + b) / (2 : Int) ^ Int.toNat (1 : Int) + m - (↑x.fst : Int) < b →
 IntKind.u64.wrap (a + b) / (2 : Int) ^ Int.toNat (1 : Int) + m - (↑x.fst : Int) < b ∧
 IntKind.u64.wrap (a + b) / (2 : Int) ^ Int.toNat (1 : Int) + m - (↑x.fst : Int) < b ∧
 True ∧
 (sortSeg sp xs a.toNat
 (IntKind.u64.wrap (a + b) / (2 : Int) ^ Int.toNat (1 : Int)).toNat =
 sortSeg sp xs a.toNat
 (IntKind.u64.wrap (a + b) / (2 : Int) ^ Int.toNat (1 : Int)).toNat ∧
 (sp = sp ∧ True) ∧ True) ∧
 (True ∧
 IntKind.u64.wrap (a + b) / (2 : Int) ^ Int.toNat (1 : Int) =
 IntKind.u64.wrap (a + b) / (2 : Int) ^ Int.toNat (1 : Int) ∧
 IntKind.u64.wrap (a + b) / (2 : Int) ^ Int.toNat (1 : Int) + m -
 (↑x.fst : Int) =
 IntKind.u64.wrap (a + b) / (2 : Int) ^ Int.toNat (1 : Int) + m -
 (↑x.fst : Int) ∧
 b = b ∧ True ∧ True) ∧
 ((((0 : Int) ≤ IntKind.u64.wrap (a + b) / (2 : Int) ^ Int.toNat (1 : Int) ∧
 IntKind.u64.wrap (a + b) / (2 : Int) ^ Int.toNat (1 : Int) <
 IntKind.u64.wrap (a + b) / (2 : Int) ^ Int.toNat (1 : Int) + m -
 (↑x.fst : Int) ∧
 IntKind.u64.wrap (a + b) / (2 : Int) ^ Int.toNat (1 : Int) + m -
 (↑x.fst : Int) <
 b ∧
 b ≤
 (↑(sortSeg sp xs a.toNat
 (IntKind.u64.wrap (a + b) /
 (2 : Int) ^ Int.toNat (1 : Int)).toNat).length :
 Int) ∧
 (sortSeg sp xs a.toNat
 (IntKind.u64.wrap (a + b) /
 (2 : Int) ^ Int.toNat (1 : Int)).toNat).length ≤
 (1000 : Nat)) ∧
 ((∀ (e : Int),
 e ∈
 sortSeg sp xs a.toNat
 (IntKind.u64.wrap (a + b) /
 (2 : Int) ^ Int.toNat (1 : Int)).toNat →
 (0 : Int) ≤ e ∧ e < (↑sp.length : Int)) ∧
 ∀ (s : Sp), s ∈ sp → (0 : Int) ≤ s.fst ∧ s.fst ≤ (1000 : Int)) ∧
 (∀ (p q : Nat),
 (IntKind.u64.wrap (a + b) / (2 : Int) ^ Int.toNat (1 : Int)).toNat ≤
 p →
 p < q →
 q < b.toNat →
 kf sp
 ((sortSeg sp xs a.toNat
 (IntKind.u64.wrap (a + b) /
 (2 : Int) ^ Int.toNat (1 : Int)).toNat).getD
 p (0 : Int)) =
 kf sp
 ((sortSeg sp xs a.toNat
 (IntKind.u64.wrap (a + b) /
 (2 : Int) ^ Int.toNat (1 : Int)).toNat).getD
 q (0 : Int)) →
 (sortSeg sp xs a.toNat
 (IntKind.u64.wrap (a + b) /
 (2 : Int) ^ Int.toNat (1 : Int)).toNat).getD
 p (0 : Int) <
 (sortSeg sp xs a.toNat
 (IntKind.u64.wrap (a + b) /
 (2 : Int) ^ Int.toNat (1 : Int)).toNat).getD
 q (0 : Int)) ∧
 (∀ (p q : Nat),
 (IntKind.u64.wrap (a + b) /
 (2 : Int) ^ Int.toNat (1 : Int)).toNat ≤
 p →
 p < q →
 q <
 (IntKind.u64.wrap (a + b) /
 (2 : Int) ^ Int.toNat (1 : Int) +
 m -
 (↑x.fst : Int)).toNat →
 leB sp
 ((sortSeg sp xs a.toNat
 (IntKind.u64.wrap (a + b) /
 (2 : Int) ^ Int.toNat (1 : Int)).toNat).getD
 p (0 : Int))
 ((sortSeg sp xs a.toNat
 (IntKind.u64.wrap (a + b) /
 (2 : Int) ^ Int.toNat (1 : Int)).toNat).getD
 q (0 : Int)) =
 true) ∧
 ∀ (p q : Nat),
 (IntKind.u64.wrap (a + b) / (2 : Int) ^ Int.toNat (1 : Int) + m -
 (↑x.fst : Int)).toNat ≤
 p →
 p < q →
 q < b.toNat →
 leB sp
 ((sortSeg sp xs a.toNat
 (IntKind.u64.wrap (a + b) /
 (2 : Int) ^ Int.toNat (1 : Int)).toNat).getD
 p (0 : Int))
 ((sortSeg sp xs a.toNat
 (IntKind.u64.wrap (a + b) /
 (2 : Int) ^ Int.toNat (1 : Int)).toNat).getD
 q (0 : Int)) =
 true) ∧
 m66
 (sortSeg sp xs a.toNat
 (IntKind.u64.wrap (a + b) / (2 : Int) ^ Int.toNat (1 : Int)).toNat,
 IntKind.u64.wrap (a + b) / (2 : Int) ^ Int.toNat (1 : Int),
 IntKind.u64.wrap (a + b) / (2 : Int) ^ Int.toNat (1 : Int) + m -
 (↑x.fst : Int),
 b, sp) <
 m66 (xs, a, m, b, sp)) ∧
 True ∧
 sortSeg sp
 (sortSeg sp xs a.toNat
 (IntKind.u64.wrap (a + b) / (2 : Int) ^ Int.toNat (1 : Int)).toNat)
 (IntKind.u64.wrap (a + b) / (2 : Int) ^ Int.toNat (1 : Int)).toNat
 b.toNat =
 sortSeg sp xs a.toNat b.toNat ∧
 (sp = sp ∧ True) ∧ True) ∧
 (¬IntKind.u64.wrap (a + b) / (2 : Int) ^ Int.toNat (1 : Int) + m - (↑x.fst : Int) < b →
 ¬IntKind.u64.wrap (a + b) / (2 : Int) ^ Int.toNat (1 : Int) + m - (↑x.fst : Int) < b ∧
 ¬IntKind.u64.wrap (a + b) / (2 : Int) ^ Int.toNat (1 : Int) + m - (↑x.fst : Int) < b ∧
 True ∧
 sortSeg sp xs a.toNat
 (IntKind.u64.wrap (a + b) / (2 : Int) ^ Int.toNat (1 : Int)).toNat =
 sortSeg sp xs a.toNat b.toNat ∧
 (sp = sp ∧ True) ∧ True)) ∧
 (¬IntKind.u64.wrap (a + b) / (2 : Int) ^ Int.toNat (1 : Int) <
 IntKind.u64.wrap (a + b) / (2 : Int) ^ Int.toNat (1 : Int) + m - (↑x.fst : Int) →
 ¬IntKind.u64.wrap (a + b) / (2 : Int) ^ Int.toNat (1 : Int) <
 IntKind.u64.wrap (a + b) / (2 : Int) ^ Int.toNat (1 : Int) + m - (↑x.fst : Int) ∧
 ¬IntKind.u64.wrap (a + b) / (2 : Int) ^ Int.toNat (1 : Int) <
 IntKind.u64.wrap (a + b) / (2 : Int) ^ Int.toNat (1 : Int) + m - (↑x.fst : Int) ∧
 True ∧
 sortSeg sp xs a.toNat (IntKind.u64.wrap (a + b) / (2 : Int) ^ Int.toNat (1 : Int)).toNat =
 sortSeg sp xs a.toNat b.toNat ∧
 (sp = sp ∧ True) ∧ True)) ∧
 (¬(↑x.fst : Int) < IntKind.u64.wrap (a + b) / (2 : Int) ^ Int.toNat (1 : Int) →
 ¬(↑x.fst : Int) < IntKind.u64.wrap (a + b) / (2 : Int) ^ Int.toNat (1 : Int) ∧
 ¬(↑x.fst : Int) < IntKind.u64.wrap (a + b) / (2 : Int) ^ Int.toNat (1 : Int) ∧
 (IntKind.u64.wrap (a + b) / (2 : Int) ^ Int.toNat (1 : Int) <
 IntKind.u64.wrap (a + b) / (2 : Int) ^ Int.toNat (1 : Int) + m - (↑x.fst : Int) →
 IntKind.u64.wrap (a + b) / (2 : Int) ^ Int.toNat (1 : Int) <
 IntKind.u64.wrap (a + b) / (2 : Int) ^ Int.toNat (1 : Int) + m - (↑x.fst : Int) ∧
 IntKind.u64.wrap (a + b) / (2 : Int) ^ Int.toNat (1 : Int) <
 IntKind.u64.wrap (a + b) / (2 : Int) ^ Int.toNat (1 : Int) + m - (↑x.fst : Int) ∧
 (IntKind.u64.wrap (a + b) / (2 : Int) ^ Int.toNat (1 : Int) + m - (↑x.fst : Int) < b →
 IntKind.u64.wrap (a + b) / (2 : Int) ^ Int.toNat (1 : Int) + m - (↑x.fst : Int) < b ∧
 IntKind.u64.wrap (a + b) / (2 : Int) ^ Int.toNat (1 : Int) + m - (↑x.fst : Int) < b ∧
 True ∧
 (xs = xs ∧ (sp = sp ∧ True) ∧ True) ∧
 (True ∧
 IntKind.u64.wrap (a + b) / (2 : Int) ^ Int.toNat (1 : Int) =
 IntKind.u64.wrap (a + b) / (2 : Int) ^ Int.toNat (1 : Int) ∧
 IntKind.u64.wrap (a + b) / (2 : Int) ^ Int.toNat (1 : Int) + m - (↑x.fst : Int) =
 IntKind.u64.wrap (a + b) / (2 : Int) ^ Int.toNat (1 : Int) + m -
 (↑x.fst : Int) ∧
 b = b ∧ True ∧ True) ∧
 ((((0 : Int) ≤ IntKind.u64.wrap (a + b) / (2 : Int) ^ Int.toNat (1 : Int) ∧
 IntKind.u64.wrap (a + b) / (2 : Int) ^ Int.toNat (1 : Int) <
 IntKind.u64.wrap (a + b) / (2 : Int) ^ Int.toNat (1 : Int) + m -
 (↑x.fst : Int) ∧
 IntKind.u64.wrap (a + b) / (2 : Int) ^ Int.toNat (1 : Int) + m -
 (↑x.fst : Int) <
 b ∧
 b ≤ (↑xs.length : Int) ∧ xs.length ≤ (1000 : Nat)) ∧
 ((∀ (e : Int), e ∈ xs → (0 : Int) ≤ e ∧ e < (↑sp.length : Int)) ∧
 ∀ (s : Sp), s ∈ sp → (0 : Int) ≤ s.fst ∧ s.fst ≤ (1000 : Int)) ∧
 (∀ (p q : Nat),
 (IntKind.u64.wrap (a + b) / (2 : Int) ^ Int.toNat (1 : Int)).toNat ≤ p →
 p < q →
 q < b.toNat →
 kf sp (xs.getD p (0 : Int)) = kf sp (xs.getD q (0 : Int)) →
 xs.getD p (0 : Int) < xs.getD q (0 : Int)) ∧
 (∀ (p q : Nat),
 (IntKind.u64.wrap (a + b) / (2 : Int) ^ Int.toNat (1 : Int)).toNat ≤ p →
 p < q →
 q <
 (IntKind.u64.wrap (a + b) / (2 : Int) ^ Int.toNat (1 : Int) + m -
 (↑x.fst : Int)).toNat →
 leB sp (xs.getD p (0 : Int)) (xs.getD q (0 : Int)) = true) ∧
 ∀ (p q : Nat),
 (IntKind.u64.wrap (a + b) / (2 : Int) ^ Int.toNat (1 : Int) + m -
 (↑x.fst : Int)).toNat ≤
 p →
 p < q →
 q < b.toNat →
 leB sp (xs.getD p (0 : Int)) (xs.getD q (0 : Int)) = true) ∧
 m66
 (xs, IntKind.u64.wrap (a + b) / (2 : Int) ^ Int.toNat (1 : Int),
 IntKind.u64.wrap (a + b) / (2 : Int) ^ Int.toNat (1 : Int) + m -
 (↑x.fst : Int),
 b, sp) <
 m66 (xs, a, m, b, sp)) ∧
 True ∧
 sortSeg sp xs (IntKind.u64.wrap (a + b) / (2 : Int) ^ Int.toNat (1 : Int)).toNat
 b.toNat =
 sortSeg sp xs a.toNat b.toNat ∧
 (sp = sp ∧ True) ∧ True) ∧
 (¬IntKind.u64.wrap (a + b) / (2 : Int) ^ Int.toNat (1 : Int) + m - (↑x.fst : Int) < b →
 ¬IntKind.u64.wrap (a + b) / (2 : Int) ^ Int.toNat (1 : Int) + m - (↑x.fst : Int) < b ∧
 ¬IntKind.u64.wrap (a + b) / (2 : Int) ^ Int.toNat (1 : Int) + m - (↑x.fst : Int) < b ∧
 True ∧ xs = sortSeg sp xs a.toNat b.toNat ∧ (sp = sp ∧ True) ∧ True)) ∧
 (¬IntKind.u64.wrap (a + b) / (2 : Int) ^ Int.toNat (1 : Int) <
 IntKind.u64.wrap (a + b) / (2 : Int) ^ Int.toNat (1 : Int) + m - (↑x.fst : Int) →
 ¬IntKind.u64.wrap (a + b) / (2 : Int) ^ Int.toNat (1 : Int) <
 IntKind.u64.wrap (a + b) / (2 : Int) ^ Int.toNat (1 : Int) + m - (↑x.fst : Int) ∧
 ¬IntKind.u64.wrap (a + b) / (2 : Int) ^ Int.toNat (1 : Int) <
 IntKind.u64.wrap (a + b) / (2 : Int) ^ Int.toNat (1 : Int) + m - (↑x.fst : Int) ∧
 True ∧ xs = sortSeg sp xs a.toNat b.toNat ∧ (sp = sp ∧ True) ∧ True))) ∧
 (¬a < (↑x.fst : Int) →
 ¬a < (↑x.fst : Int) ∧
 ¬a < (↑x.fst : Int) ∧
 (IntKind.u64.wrap (a + b) / (2 : Int) ^ Int.toNat (1 : Int) <
 IntKind.u64.wrap (a + b) / (2 : Int) ^ Int.toNat (1 : Int) + m - (↑x.fst : Int) →
 IntKind.u64.wrap (a + b) / (2 : Int) ^ Int.toNat (1 : Int) <
 IntKind.u64.wrap (a + b) / (2 : Int) ^ Int.toNat (1 : Int) + m - (↑x.fst : Int) ∧
 IntKind.u64.wrap (a + b) / (2 : Int) ^ Int.toNat (1 : Int) <
 IntKind.u64.wrap (a + b) / (2 : Int) ^ Int.toNat (1 : Int) + m - (↑x.fst : Int) ∧
 (IntKind.u64.wrap (a + b) / (2 : Int) ^ Int.toNat (1 : Int) + m - (↑x.fst : Int) < b →
 IntKind.u64.wrap (a + b) / (2 : Int) ^ Int.toNat (1 : Int) + m - (↑x.fst : Int) < b ∧
 IntKind.u64.wrap (a + b) / (2 : Int) ^ Int.toNat (1 : Int) + m - (↑x.fst : Int) < b ∧
 True ∧
 (xs = xs ∧ (sp = sp ∧ True) ∧ True) ∧
 (True ∧
 IntKind.u64.wrap (a + b) / (2 : Int) ^ Int.toNat (1 : Int) =
 IntKind.u64.wrap (a + b) / (2 : Int) ^ Int.toNat (1 : Int) ∧
 IntKind.u64.wrap (a + b) / (2 : Int) ^ Int.toNat (1 : Int) + m - (↑x.fst : Int) =
 IntKind.u64.wrap (a + b) / (2 : Int) ^ Int.toNat (1 : Int) + m - (↑x.fst : Int) ∧
 b = b ∧ True ∧ True) ∧
 ((((0 : Int) ≤ IntKind.u64.wrap (a + b) / (2 : Int) ^ Int.toNat (1 : Int) ∧
 IntKind.u64.wrap (a + b) / (2 : Int) ^ Int.toNat (1 : Int) <
 IntKind.u64.wrap (a + b) / (2 : Int) ^ Int.toNat (1 : Int) + m - (↑x.fst : Int) ∧
 IntKind.u64.wrap (a + b) / (2 : Int) ^ Int.toNat (1 : Int) + m - (↑x.fst : Int) < b ∧
 b ≤ (↑xs.length : Int) ∧ xs.length ≤ (1000 : Nat)) ∧
 ((∀ (e : Int), e ∈ xs → (0 : Int) ≤ e ∧ e < (↑sp.length : Int)) ∧
 ∀ (s : Sp), s ∈ sp → (0 : Int) ≤ s.fst ∧ s.fst ≤ (1000 : Int)) ∧
 (∀ (p q : Nat),
 (IntKind.u64.wrap (a + b) / (2 : Int) ^ Int.toNat (1 : Int)).toNat ≤ p →
 p < q →
 q < b.toNat →
 kf sp (xs.getD p (0 : Int)) = kf sp (xs.getD q (0 : Int)) →
 xs.getD p (0 : Int) < xs.getD q (0 : Int)) ∧
 (∀ (p q : Nat),
 (IntKind.u64.wrap (a + b) / (2 : Int) ^ Int.toNat (1 : Int)).toNat ≤ p →
 p < q →
 q <
 (IntKind.u64.wrap (a + b) / (2 : Int) ^ Int.toNat (1 : Int) + m -
 (↑x.fst : Int)).toNat →
 leB sp (xs.getD p (0 : Int)) (xs.getD q (0 : Int)) = true) ∧
 ∀ (p q : Nat),
 (IntKind.u64.wrap (a + b) / (2 : Int) ^ Int.toNat (1 : Int) + m -
 (↑x.fst : Int)).toNat ≤
 p →
 p < q →
 q < b.toNat → leB sp (xs.getD p (0 : Int)) (xs.getD q (0 : Int)) = true) ∧
 m66
 (xs, IntKind.u64.wrap (a + b) / (2 : Int) ^ Int.toNat (1 : Int),
 IntKind.u64.wrap (a + b) / (2 : Int) ^ Int.toNat (1 : Int) + m - (↑x.fst : Int), b,
 sp) <
 m66 (xs, a, m, b, sp)) ∧
 True ∧
 sortSeg sp xs (IntKind.u64.wrap (a + b) / (2 : Int) ^ Int.toNat (1 : Int)).toNat b.toNat =
 sortSeg sp xs a.toNat b.toNat ∧
 (sp = sp ∧ True) ∧ True) ∧
 (¬IntKind.u64.wrap (a + b) / (2 : Int) ^ Int.toNat (1 : Int) + m - (↑x.fst : Int) < b →
 ¬IntKind.u64.wrap (a + b) / (2 : Int) ^ Int.toNat (1 : Int) + m - (↑x.fst : Int) < b ∧
 ¬IntKind.u64.wrap (a + b) / (2 : Int) ^ Int.toNat (1 : Int) + m - (↑x.fst : Int) < b ∧
 True ∧ xs = sortSeg sp xs a.toNat b.toNat ∧ (sp = sp ∧ True) ∧ True)) ∧
 (¬IntKind.u64.wrap (a + b) / (2 : Int) ^ Int.toNat (1 : Int) <
 IntKind.u64.wrap (a + b) / (2 : Int) ^ Int.toNat (1 : Int) + m - (↑x.fst : Int) →
 ¬IntKind.u64.wrap (a + b) / (2 : Int) ^ Int.toNat (1 : Int) <
 IntKind.u64.wrap (a + b) / (2 : Int) ^ Int.toNat (1 : Int) + m - (↑x.fst : Int) ∧
 ¬IntKind.u64.wrap (a + b) / (2 : Int) ^ Int.toNat (1 : Int) <
 IntKind.u64.wrap (a + b) / (2 : Int) ^ Int.toNat (1 : Int) + m - (↑x.fst : Int) ∧
 True ∧ xs = sortSeg sp xs a.toNat b.toNat ∧ (sp = sp ∧ True) ∧ True)))))))) := by
 kernel_rfl

theorem g63_eq (xs : List Int) (n : Int) (sp : List Sp) : g63 xs n sp = (
 (∃ (x0 : Nat × List Int),
 ((x0.fst ≤ (2 : Nat) ∧ (20 : Nat) * x0.fst ≤ xs.length) ∧
 SegOK xs x0.snd (0 : Nat) xs.length ∧
 (∀ (p q : Nat),
 (0 : Nat) ≤ p → p < q → q < xs.length → kf sp (x0.snd.getD p (0 : Int)) = kf sp (x0.snd.getD q (0 : Int)) → x0.snd.getD p (0 : Int) < x0.snd.getD q (0 : Int)) ∧
 ((1 : Nat) ≤ x0.fst → ∀ (p q : Nat), (0 : Nat) ≤ p → p < q → q < (20 : Nat) → leB sp (x0.snd.getD p (0 : Int)) (x0.snd.getD q (0 : Int)) = true) ∧
 ((2 : Nat) ≤ x0.fst → ∀ (p q : Nat), (20 : Nat) ≤ p → p < q → q < (40 : Nat) → leB sp (x0.snd.getD p (0 : Int)) (x0.snd.getD q (0 : Int)) = true)) ∧
 (xs = x0.snd ∧ (sp = sp ∧ True) ∧ True) ∧
 (0 : Int) = (↑((20 : Nat) * x0.fst) : Int) ∧ (20 : Int) = (↑((20 : Nat) * x0.fst + (20 : Nat)) : Int) ∧ (20 : Int) = (20 : Int) ∧ True ∧ n = n ∧ True ∧ True) ∧
 ∀ (x : Nat × List Int),
 (x.fst ≤ (2 : Nat) ∧ (20 : Nat) * x.fst ≤ xs.length) ∧
 SegOK xs x.snd (0 : Nat) xs.length ∧
 (∀ (p q : Nat),
 (0 : Nat) ≤ p → p < q → q < xs.length → kf sp (x.snd.getD p (0 : Int)) = kf sp (x.snd.getD q (0 : Int)) → x.snd.getD p (0 : Int) < x.snd.getD q (0 : Int)) ∧
 ((1 : Nat) ≤ x.fst → ∀ (p q : Nat), (0 : Nat) ≤ p → p < q → q < (20 : Nat) → leB sp (x.snd.getD p (0 : Int)) (x.snd.getD q (0 : Int)) = true) ∧
 ((2 : Nat) ≤ x.fst → ∀ (p q : Nat), (20 : Nat) ≤ p → p < q → q < (40 : Nat) → leB sp (x.snd.getD p (0 : Int)) (x.snd.getD q (0 : Int)) = true) →
 ((↑((20 : Nat) * x.fst + (20 : Nat)) : Int) ≤ n →
 (↑((20 : Nat) * x.fst + (20 : Nat)) : Int) ≤ n ∧
 True ∧
 (x.snd = x.snd ∧ (sp = sp ∧ True) ∧ True) ∧
 (True ∧
 (↑((20 : Nat) * x.fst) : Int) = (↑((20 : Nat) * x.fst) : Int) ∧
 (↑((20 : Nat) * x.fst + (20 : Nat)) : Int) = (↑((20 : Nat) * x.fst + (20 : Nat)) : Int) ∧ True ∧ True) ∧
 (((0 : Int) ≤ (↑((20 : Nat) * x.fst) : Int) ∧
 (↑((20 : Nat) * x.fst) : Int) ≤ (↑((20 : Nat) * x.fst + (20 : Nat)) : Int) ∧
 (↑((20 : Nat) * x.fst + (20 : Nat)) : Int) ≤ (↑x.snd.length : Int) ∧ x.snd.length ≤ (1000 : Nat)) ∧
 ((∀ (e : Int), e ∈ x.snd → (0 : Int) ≤ e ∧ e < (↑sp.length : Int)) ∧ ∀ (s : Sp), s ∈ sp → (0 : Int) ≤ s.fst ∧ s.fst ≤ (1000 : Int)) ∧
 ∀ (p q : Nat),
 (↑((20 : Nat) * x.fst) : Int).toNat ≤ p →
 p < q →
 q < (↑((20 : Nat) * x.fst + (20 : Nat)) : Int).toNat →
 kf sp (x.snd.getD p (0 : Int)) = kf sp (x.snd.getD q (0 : Int)) → x.snd.getD p (0 : Int) < x.snd.getD q (0 : Int)) ∧
 Fits IntKind.i64 ((↑((20 : Nat) * x.fst + (20 : Nat)) : Int) + (20 : Int)) ∧
 ∃ (x' : Nat × List Int),
 ((x'.fst ≤ (2 : Nat) ∧ (20 : Nat) * x'.fst ≤ xs.length) ∧
 SegOK xs x'.snd (0 : Nat) xs.length ∧
 (∀ (p q : Nat),
 (0 : Nat) ≤ p →
 p < q → q < xs.length → kf sp (x'.snd.getD p (0 : Int)) = kf sp (x'.snd.getD q (0 : Int)) → x'.snd.getD p (0 : Int) < x'.snd.getD q (0 : Int)) ∧
 ((1 : Nat) ≤ x'.fst → ∀ (p q : Nat), (0 : Nat) ≤ p → p < q → q < (20 : Nat) → leB sp (x'.snd.getD p (0 : Int)) (x'.snd.getD q (0 : Int)) = true) ∧
 ((2 : Nat) ≤ x'.fst →
 ∀ (p q : Nat), (20 : Nat) ≤ p → p < q → q < (40 : Nat) → leB sp (x'.snd.getD p (0 : Int)) (x'.snd.getD q (0 : Int)) = true)) ∧
 (2 : Nat) - x'.fst < (2 : Nat) - x.fst ∧
 (sortSeg sp x.snd (↑((20 : Nat) * x.fst) : Int).toNat (↑((20 : Nat) * x.fst + (20 : Nat)) : Int).toNat = x'.snd ∧ (sp = sp ∧ True) ∧ True) ∧
 (↑((20 : Nat) * x.fst + (20 : Nat)) : Int) = (↑((20 : Nat) * x'.fst) : Int) ∧
 (↑((20 : Nat) * x.fst + (20 : Nat)) : Int) + (20 : Int) = (↑((20 : Nat) * x'.fst + (20 : Nat)) : Int) ∧
 (20 : Int) = (20 : Int) ∧ True ∧ n = n ∧ True ∧ True) ∧
 (¬(↑((20 : Nat) * x.fst + (20 : Nat)) : Int) ≤ n →
 ¬(↑((20 : Nat) * x.fst + (20 : Nat)) : Int) ≤ n ∧
 True ∧
 (x.snd = x.snd ∧ (sp = sp ∧ True) ∧ True) ∧
 (True ∧ (↑((20 : Nat) * x.fst) : Int) = (↑((20 : Nat) * x.fst) : Int) ∧ n = n ∧ True ∧ True) ∧
 (((0 : Int) ≤ (↑((20 : Nat) * x.fst) : Int) ∧ (↑((20 : Nat) * x.fst) : Int) ≤ n ∧ n ≤ (↑x.snd.length : Int) ∧ x.snd.length ≤ (1000 : Nat)) ∧
 ((∀ (e : Int), e ∈ x.snd → (0 : Int) ≤ e ∧ e < (↑sp.length : Int)) ∧ ∀ (s : Sp), s ∈ sp → (0 : Int) ≤ s.fst ∧ s.fst ≤ (1000 : Int)) ∧
 ∀ (p q : Nat),
 (↑((20 : Nat) * x.fst) : Int).toNat ≤ p →
 p < q → q < n.toNat → kf sp (x.snd.getD p (0 : Int)) = kf sp (x.snd.getD q (0 : Int)) → x.snd.getD p (0 : Int) < x.snd.getD q (0 : Int)) ∧
 (∃ (x0 : Nat × List Int),
 (SegOK xs x0.snd (0 : Nat) xs.length ∧
 (∀ (p q : Nat),
 (0 : Nat) ≤ p →
 p < q → q < xs.length → kf sp (x0.snd.getD p (0 : Int)) = kf sp (x0.snd.getD q (0 : Int)) → x0.snd.getD p (0 : Int) < x0.snd.getD q (0 : Int)) ∧
 ((x0.fst = (20 : Nat) ∧
 (∀ (p q : Nat), (0 : Nat) ≤ p → p < q → q < min (20 : Nat) xs.length → leB sp (x0.snd.getD p (0 : Int)) (x0.snd.getD q (0 : Int)) = true) ∧
 ∀ (p q : Nat), (20 : Nat) ≤ p → p < q → q < xs.length → leB sp (x0.snd.getD p (0 : Int)) (x0.snd.getD q (0 : Int)) = true) ∨
 x0.fst = (40 : Nat) ∧ ∀ (p q : Nat), (0 : Nat) ≤ p → p < q → q < xs.length → leB sp (x0.snd.getD p (0 : Int)) (x0.snd.getD q (0 : Int)) = true)) ∧
 (sortSeg sp x.snd (↑((20 : Nat) * x.fst) : Int).toNat n.toNat = x0.snd ∧ (sp = sp ∧ True) ∧ True) ∧
 (20 : Int) = (↑x0.fst : Int) ∧ True ∧ n = n ∧ True ∧ True) ∧
 ∀ (x : Nat × List Int),
 SegOK xs x.snd (0 : Nat) xs.length ∧
 (∀ (p q : Nat),
 (0 : Nat) ≤ p →
 p < q → q < xs.length → kf sp (x.snd.getD p (0 : Int)) = kf sp (x.snd.getD q (0 : Int)) → x.snd.getD p (0 : Int) < x.snd.getD q (0 : Int)) ∧
 ((x.fst = (20 : Nat) ∧
 (∀ (p q : Nat), (0 : Nat) ≤ p → p < q → q < min (20 : Nat) xs.length → leB sp (x.snd.getD p (0 : Int)) (x.snd.getD q (0 : Int)) = true) ∧
 ∀ (p q : Nat), (20 : Nat) ≤ p → p < q → q < xs.length → leB sp (x.snd.getD p (0 : Int)) (x.snd.getD q (0 : Int)) = true) ∨
 x.fst = (40 : Nat) ∧ ∀ (p q : Nat), (0 : Nat) ≤ p → p < q → q < xs.length → leB sp (x.snd.getD p (0 : Int)) (x.snd.getD q (0 : Int)) = true) →
 ((↑x.fst : Int) < n →
 (↑x.fst : Int) < n ∧
 Fits IntKind.i64 ((2 : Int) * (↑x.fst : Int)) ∧
 (∃ (x0 : Nat × List Int),
 (((↑x.fst : Int) = (20 : Int) ∧ x0.fst ≤ (1 : Nat) ∧ (40 : Nat) * x0.fst ≤ xs.length) ∧
 SegOK xs x0.snd (0 : Nat) xs.length ∧
 (∀ (p q : Nat),
 (0 : Nat) ≤ p →
 p < q →
 q < xs.length →
 kf sp (x0.snd.getD p (0 : Int)) = kf sp (x0.snd.getD q (0 : Int)) → x0.snd.getD p (0 : Int) < x0.snd.getD q (0 : Int)) ∧
 (x0.fst = (0 : Nat) →
 (∀ (p q : Nat),
 (0 : Nat) ≤ p → p < q → q < min (20 : Nat) xs.length → leB sp (x0.snd.getD p (0 : Int)) (x0.snd.getD q (0 : Int)) = true) ∧
 ∀ (p q : Nat), (20 : Nat) ≤ p → p < q → q < xs.length → leB sp (x0.snd.getD p (0 : Int)) (x0.snd.getD q (0 : Int)) = true) ∧
 (x0.fst = (1 : Nat) →
 ∀ (p q : Nat), (0 : Nat) ≤ p → p < q → q < xs.length → leB sp (x0.snd.getD p (0 : Int)) (x0.snd.getD q (0 : Int)) = true)) ∧
 (x.snd = x0.snd ∧ (sp = sp ∧ True) ∧ True) ∧
 (0 : Int) = (↑((40 : Nat) * x0.fst) : Int) ∧
 (2 : Int) * (↑x.fst : Int) = (↑((40 : Nat) * x0.fst + (40 : Nat)) : Int) ∧
 (↑x.fst : Int) = (↑x.fst : Int) ∧ True ∧ n = n ∧ True ∧ True) ∧
 ∀ (x_1 : Nat × List Int),
 ((↑x.fst : Int) = (20 : Int) ∧ x_1.fst ≤ (1 : Nat) ∧ (40 : Nat) * x_1.fst ≤ xs.length) ∧
 SegOK xs x_1.snd (0 : Nat) xs.length ∧
 (∀ (p q : Nat),
 (0 : Nat) ≤ p →
 p < q →
 q < xs.length →
 kf sp (x_1.snd.getD p (0 : Int)) = kf sp (x_1.snd.getD q (0 : Int)) → x_1.snd.getD p (0 : Int) < x_1.snd.getD q (0 : Int)) ∧
 (x_1.fst = (0 : Nat) →
 (∀ (p q : Nat),
 (0 : Nat) ≤ p → p < q → q < min (20 : Nat) xs.length → leB sp (x_1.snd.getD p (0 : Int)) (x_1.snd.getD q (0 : Int)) = true) ∧
 ∀ (p q : Nat), (20 : Nat) ≤ p → p < q → q < xs.length → leB sp (x_1.snd.getD p (0 : Int)) (x_1.snd.getD q (0 : Int)) = true) ∧
 (x_1.fst = (1 : Nat) →
 ∀ (p q : Nat), (0 : Nat) ≤ p → p < q → q < xs.length → leB sp (x_1.snd.getD p (0 : Int)) (x_1.snd.getD q (0 : Int)) = true) →
 ((↑((40 : Nat) * x_1.fst + (40 : Nat)) : Int) ≤ n →
 (↑((40 : Nat) * x_1.fst + (40 : Nat)) : Int) ≤ n ∧
 Fits IntKind.i64 ((↑((40 : Nat) * x_1.fst) : Int) + (↑x.fst : Int)) ∧
 True ∧
 (x_1.snd = x_1.snd ∧ (sp = sp ∧ True) ∧ True) ∧
 (True ∧
 (↑((40 : Nat) * x_1.fst) : Int) = (↑((40 : Nat) * x_1.fst) : Int) ∧
 (↑((40 : Nat) * x_1.fst) : Int) + (↑x.fst : Int) = (↑((40 : Nat) * x_1.fst) : Int) + (↑x.fst : Int) ∧
 (↑((40 : Nat) * x_1.fst + (40 : Nat)) : Int) = (↑((40 : Nat) * x_1.fst + (40 : Nat)) : Int) ∧ True ∧ True) ∧
 (((0 : Int) ≤ (↑((40 : Nat) * x_1.fst) : Int) ∧
 (↑((40 : Nat) * x_1.fst) : Int) < (↑((40 : Nat) * x_1.fst) : Int) + (↑x.fst : Int) ∧
 (↑((40 : Nat) * x_1.fst) : Int) + (↑x.fst : Int) < (↑((40 : Nat) * x_1.fst + (40 : Nat)) : Int) ∧
 (↑((40 : Nat) * x_1.fst + (40 : Nat)) : Int) ≤ (↑x_1.snd.length : Int) ∧ x_1.snd.length ≤ (1000 : Nat)) ∧
 ((∀ (e : Int), e ∈ x_1.snd → (0 : Int) ≤ e ∧ e < (↑sp.length : Int)) ∧
 ∀ (s : Sp), s ∈ sp → (0 : Int) ≤ s.fst ∧ s.fst ≤ (1000 : Int)) ∧
 (∀ (p q : Nat),
 (↑((40 : Nat) * x_1.fst) : Int).toNat ≤ p →
 p < q →
 q < (↑((40 : Nat) * x_1.fst + (40 : Nat)) : Int).toNat →
 kf sp (x_1.snd.getD p (0 : Int)) = kf sp (x_1.snd.getD q (0 : Int)) →
 x_1.snd.getD p (0 : Int) < x_1.snd.getD q (0 : Int)) ∧
 (∀ (p q : Nat),
 (↑((40 : Nat) * x_1.fst) : Int).toNat ≤ p →
 p < q →
 q < ((↑((40 : Nat) * x_1.fst) : Int) + (↑x.fst : Int)).toNat →
 leB sp (x_1.snd.getD p (0 : Int)) (x_1.snd.getD q (0 : Int)) = true) ∧
 ∀ (p q : Nat),
 ((↑((40 : Nat) * x_1.fst) : Int) + (↑x.fst : Int)).toNat ≤ p →
 p < q →
 q < (↑((40 : Nat) * x_1.fst + (40 : Nat)) : Int).toNat →
 leB sp (x_1.snd.getD p (0 : Int)) (x_1.snd.getD q (0 : Int)) = true) ∧
 Fits IntKind.i64 ((2 : Int) * (↑x.fst : Int)) ∧
 Fits IntKind.i64 ((↑((40 : Nat) * x_1.fst + (40 : Nat)) : Int) + (2 : Int) * (↑x.fst : Int)) ∧
 ∃ (x' : Nat × List Int),
 (((↑x.fst : Int) = (20 : Int) ∧ x'.fst ≤ (1 : Nat) ∧ (40 : Nat) * x'.fst ≤ xs.length) ∧
 SegOK xs x'.snd (0 : Nat) xs.length ∧
 (∀ (p q : Nat),
 (0 : Nat) ≤ p →
 p < q →
 q < xs.length →
 kf sp (x'.snd.getD p (0 : Int)) = kf sp (x'.snd.getD q (0 : Int)) →
 x'.snd.getD p (0 : Int) < x'.snd.getD q (0 : Int)) ∧
 (x'.fst = (0 : Nat) →
 (∀ (p q : Nat),
 (0 : Nat) ≤ p →
 p < q →
 q < min (20 : Nat) xs.length →
 leB sp (x'.snd.getD p (0 : Int)) (x'.snd.getD q (0 : Int)) = true) ∧
 ∀ (p q : Nat),
 (20 : Nat) ≤ p →
 p < q → q < xs.length → leB sp (x'.snd.getD p (0 : Int)) (x'.snd.getD q (0 : Int)) = true) ∧
 (x'.fst = (1 : Nat) →
 ∀ (p q : Nat),
 (0 : Nat) ≤ p →
 p < q → q < xs.length → leB sp (x'.snd.getD p (0 : Int)) (x'.snd.getD q (0 : Int)) = true)) ∧
 (1 : Nat) - x'.fst < (1 : Nat) - x_1.fst ∧
 (sortSeg sp x_1.snd (↑((40 : Nat) * x_1.fst) : Int).toNat (↑((40 : Nat) * x_1.fst + (40 : Nat)) : Int).toNat =
 x'.snd ∧
 (sp = sp ∧ True) ∧ True) ∧
 (↑((40 : Nat) * x_1.fst + (40 : Nat)) : Int) = (↑((40 : Nat) * x'.fst) : Int) ∧
 (↑((40 : Nat) * x_1.fst + (40 : Nat)) : Int) + (2 : Int) * (↑x.fst : Int) =
 (↑((40 : Nat) * x'.fst + (40 : Nat)) : Int) ∧
 (↑x.fst : Int) = (↑x.fst : Int) ∧ True ∧ n = n ∧ True ∧ True) ∧
 (¬(↑((40 : Nat) * x_1.fst + (40 : Nat)) : Int) ≤ n →
 ¬(↑((40 : Nat) * x_1.fst + (40 : Nat)) : Int) ≤ n ∧
 Fits IntKind.i64 ((↑((40 : Nat) * x_1.fst) : Int) + (↑x.fst : Int)) ∧
 ((↑((40 : Nat) * x_1.fst) : Int) + (↑x.fst : Int) < n →
 (↑((40 : Nat) * x_1.fst) : Int) + (↑x.fst : Int) < n ∧
 True ∧
 (x_1.snd = x_1.snd ∧ (sp = sp ∧ True) ∧ True) ∧
 (True ∧
 (↑((40 : Nat) * x_1.fst) : Int) = (↑((40 : Nat) * x_1.fst) : Int) ∧
 (↑((40 : Nat) * x_1.fst) : Int) + (↑x.fst : Int) = (↑((40 : Nat) * x_1.fst) : Int) + (↑x.fst : Int) ∧
 n = n ∧ True ∧ True) ∧
 (((0 : Int) ≤ (↑((40 : Nat) * x_1.fst) : Int) ∧
 (↑((40 : Nat) * x_1.fst) : Int) < (↑((40 : Nat) * x_1.fst) : Int) + (↑x.fst : Int) ∧
 (↑((40 : Nat) * x_1.fst) : Int) + (↑x.fst : Int) < n ∧
 n ≤ (↑x_1.snd.length : Int) ∧ x_1.snd.length ≤ (1000 : Nat)) ∧
 ((∀ (e : Int), e ∈ x_1.snd → (0 : Int) ≤ e ∧ e < (↑sp.length : Int)) ∧
 ∀ (s : Sp), s ∈ sp → (0 : Int) ≤ s.fst ∧ s.fst ≤ (1000 : Int)) ∧
 (∀ (p q : Nat),
 (↑((40 : Nat) * x_1.fst) : Int).toNat ≤ p →
 p < q →
 q < n.toNat →
 kf sp (x_1.snd.getD p (0 : Int)) = kf sp (x_1.snd.getD q (0 : Int)) →
 x_1.snd.getD p (0 : Int) < x_1.snd.getD q (0 : Int)) ∧
 (∀ (p q : Nat),
 (↑((40 : Nat) * x_1.fst) : Int).toNat ≤ p →
 p < q →
 q < ((↑((40 : Nat) * x_1.fst) : Int) + (↑x.fst : Int)).toNat →
 leB sp (x_1.snd.getD p (0 : Int)) (x_1.snd.getD q (0 : Int)) = true) ∧
 ∀ (p q : Nat),
 ((↑((40 : Nat) * x_1.fst) : Int) + (↑x.fst : Int)).toNat ≤ p →
 p < q → q < n.toNat → leB sp (x_1.snd.getD p (0 : Int)) (x_1.snd.getD q (0 : Int)) = true) ∧
 Fits IntKind.i64 ((↑x.fst : Int) * (2 : Int)) ∧
 ∃ (x' : Nat × List Int),
 (SegOK xs x'.snd (0 : Nat) xs.length ∧
 (∀ (p q : Nat),
 (0 : Nat) ≤ p →
 p < q →
 q < xs.length →
 kf sp (x'.snd.getD p (0 : Int)) = kf sp (x'.snd.getD q (0 : Int)) →
 x'.snd.getD p (0 : Int) < x'.snd.getD q (0 : Int)) ∧
 ((x'.fst = (20 : Nat) ∧
 (∀ (p q : Nat),
 (0 : Nat) ≤ p →
 p < q →
 q < min (20 : Nat) xs.length →
 leB sp (x'.snd.getD p (0 : Int)) (x'.snd.getD q (0 : Int)) = true) ∧
 ∀ (p q : Nat),
 (20 : Nat) ≤ p →
 p < q → q < xs.length → leB sp (x'.snd.getD p (0 : Int)) (x'.snd.getD q (0 : Int)) = true) ∨
 x'.fst = (40 : Nat) ∧
 ∀ (p q : Nat),
 (0 : Nat) ≤ p →
 p < q → q < xs.length → leB sp (x'.snd.getD p (0 : Int)) (x'.snd.getD q (0 : Int)) = true)) ∧
 (40 : Nat) - x'.fst < (40 : Nat) - x.fst ∧
 (sortSeg sp x_1.snd (↑((40 : Nat) * x_1.fst) : Int).toNat n.toNat = x'.snd ∧ (sp = sp ∧ True) ∧ True) ∧
 (↑x.fst : Int) * (2 : Int) = (↑x'.fst : Int) ∧ True ∧ n = n ∧ True ∧ True) ∧
 (¬(↑((40 : Nat) * x_1.fst) : Int) + (↑x.fst : Int) < n →
 ¬(↑((40 : Nat) * x_1.fst) : Int) + (↑x.fst : Int) < n ∧
 Fits IntKind.i64 ((↑x.fst : Int) * (2 : Int)) ∧
 ∃ (x' : Nat × List Int),
 (SegOK xs x'.snd (0 : Nat) xs.length ∧
 (∀ (p q : Nat),
 (0 : Nat) ≤ p →
 p < q →
 q < xs.length →
 kf sp (x'.snd.getD p (0 : Int)) = kf sp (x'.snd.getD q (0 : Int)) →
 x'.snd.getD p (0 : Int) < x'.snd.getD q (0 : Int)) ∧
 ((x'.fst = (20 : Nat) ∧
 (∀ (p q : Nat),
 (0 : Nat) ≤ p →
 p < q →
 q < min (20 : Nat) xs.length → leB sp (x'.snd.getD p (0 : Int)) (x'.snd.getD q (0 : Int)) = true) ∧
 ∀ (p q : Nat),
 (20 : Nat) ≤ p →
 p < q → q < xs.length → leB sp (x'.snd.getD p (0 : Int)) (x'.snd.getD q (0 : Int)) = true) ∨
 x'.fst = (40 : Nat) ∧
 ∀ (p q : Nat),
 (0 : Nat) ≤ p → p < q → q < xs.length → leB sp (x'.snd.getD p (0 : Int)) (x'.snd.getD q (0 : Int)) = true)) ∧
 (40 : Nat) - x'.fst < (40 : Nat) - x.fst ∧
 (x_1.snd = x'.snd ∧ (sp = sp ∧ True) ∧ True) ∧
 (↑x.fst : Int) * (2 : Int) = (↑x'.fst : Int) ∧ True ∧ n = n ∧ True ∧ True))) ∧
 (¬(↑x.fst : Int) < n → ¬(↑x.fst : Int) < n ∧ True ∧ x.snd = sortSeg sp xs (0 : Nat) xs.length ∧ (sp = sp ∧ True) ∧ True))) := by
 kernel_rfl

end Go.SX.Sh
