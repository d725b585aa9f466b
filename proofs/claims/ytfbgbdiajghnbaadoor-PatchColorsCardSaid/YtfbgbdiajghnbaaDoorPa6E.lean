/- Printed by VC.lean: what the executor asks. -/
import Derived.Test.YtfbgbdiajghnbaaDoorPa6
namespace Go.SX.Pa
open Go Go.Proofs
theorem g18_eq (k : Int) (l : List Int) : g18 k l = (
 (k < (1 : Int) → k < (1 : Int) ∧ k < (1 : Int) ∧ ((0 : Int), (1 : Int)) = waysF k l) ∧
 (¬k < (1 : Int) →
 ¬k < (1 : Int) ∧
 ¬k < (1 : Int) ∧
 ((2 : Int) < k → (2 : Int) < k ∧ (2 : Int) < k ∧ (2 : Int) < k ∧ ((0 : Int), (1 : Int)) = waysF k l) ∧
 (¬(2 : Int) < k →
 ¬(2 : Int) < k ∧
 ¬(2 : Int) < k ∧
 ¬(2 : Int) < k ∧
 ((0 : Int) ≤ k ∧ k < (64 : Int)) ∧
 Fits IntKind.i64 ((1 : Int) * (2 : Int) ^ k.toNat) ∧
 l.length ≤ (1000 : Nat) ∧
 ((!decide (PermP l ((1 : Int) * (2 : Int) ^ k.toNat))) = true →
 (!decide (PermP l ((1 : Int) * (2 : Int) ^ k.toNat))) = true ∧
 (!decide (PermP l ((1 : Int) * (2 : Int) ^ k.toNat))) = true ∧ ((0 : Int), (2 : Int)) = waysF k l) ∧
 ((!decide (PermP l ((1 : Int) * (2 : Int) ^ k.toNat))) = false →
 (!decide (PermP l ((1 : Int) * (2 : Int) ^ k.toNat))) = false ∧
 (!decide (PermP l ((1 : Int) * (2 : Int) ^ k.toNat))) = false ∧
 ((1 : Int) ≤ k ∧ k ≤ (3 : Int)) ∧
 ((0 : Int) ≤ switchesF k ∧ switchesF k < (64 : Int)) ∧
 Fits IntKind.i64 ((1 : Int) * (2 : Int) ^ (switchesF k).toNat) ∧
 (∃ (x0 : Nat),
 (x0 ≤ (2 : Nat) ^ swN k.toNat ∧ True) ∧
 True ∧
 (0 : Int) = (↑x0 : Int) ∧
 (0 : Int) = (↑(waysTo k.toNat l x0) : Int) ∧
 (1 : Int) * (2 : Int) ^ (switchesF k).toNat = (1 : Int) * (2 : Int) ^ (switchesF k).toNat ∧ k = k ∧ l = l ∧ True) ∧
 ∀ (x : Nat),
 x ≤ (2 : Nat) ^ swN k.toNat ∧ True →
 ((↑x : Int) < (1 : Int) * (2 : Int) ^ (switchesF k).toNat →
 (↑x : Int) < (1 : Int) * (2 : Int) ^ (switchesF k).toNat ∧
 ((1 : Int) ≤ k ∧ k ≤ (3 : Int)) ∧
 ((0 : Int) ≤ switchesF k ∧ switchesF k ≤ switchesF k ∧ Small (switchesF k).toNat) ∧
 (∃ (x0 : Nat),
 x0 ≤ swN k.toNat ∧
 (List.replicate (switchesF k).toNat (0 : Int) = letTo (↑x : Int).toNat (swN k.toNat) x0 ∧ True) ∧
 (0 : Int) = (↑x0 : Int) ∧
 (↑(List.replicate (switchesF k).toNat (0 : Int)).length : Int) =
 (↑(List.replicate (switchesF k).toNat (0 : Int)).length : Int) ∧
 True ∧
 (↑x : Int) = (↑x : Int) ∧
 (↑x : Int) = (↑x : Int) ∧
 (↑(waysTo k.toNat l x) : Int) = (↑(waysTo k.toNat l x) : Int) ∧
 (1 : Int) * (2 : Int) ^ (switchesF k).toNat = (1 : Int) * (2 : Int) ^ (switchesF k).toNat ∧
 k = k ∧ l = l ∧ True) ∧
 ∀ (x_1 : Nat),
 x_1 ≤ swN k.toNat →
 ((↑x_1 : Int) < (↑(List.replicate (switchesF k).toNat (0 : Int)).length : Int) →
 (↑x_1 : Int) < (↑(List.replicate (switchesF k).toNat (0 : Int)).length : Int) ∧
 ((0 : Int) ≤ (↑x_1 : Int) ∧ (↑x_1 : Int) < (64 : Int)) ∧
 ((0 : Int) ≤ (↑x_1 : Int) ∧ (↑x_1 : Int) < (↑(letTo (↑x : Int).toNat (swN k.toNat) x_1).length : Int)) ∧
 Fits IntKind.i64 ((↑x_1 : Int) + (1 : Int)) ∧
 ∃ (x' : Nat),
 x' ≤ swN k.toNat ∧
 swN k.toNat - x' < swN k.toNat - x_1 ∧
 ((letTo (↑x : Int).toNat (swN k.toNat) x_1).set (↑x_1 : Int).toNat
 (IntKind.u8.wrap
 ((48 : Int) +
 IntKind.u8.wrap
 (bitsF BinOp.and IntKind.i64 ((↑x : Int) / (2 : Int) ^ (↑x_1 : Int).toNat)
 (1 : Int)))) =
 letTo (↑x : Int).toNat (swN k.toNat) x' ∧
 True) ∧
 (↑x_1 : Int) + (1 : Int) = (↑x' : Int) ∧
 (↑(List.replicate (switchesF k).toNat (0 : Int)).length : Int) =
 (↑(List.replicate (switchesF k).toNat (0 : Int)).length : Int) ∧
 True ∧
 (↑x : Int) = (↑x : Int) ∧
 (↑x : Int) = (↑x : Int) ∧
 (↑(waysTo k.toNat l x) : Int) = (↑(waysTo k.toNat l x) : Int) ∧
 (1 : Int) * (2 : Int) ^ (switchesF k).toNat =
 (1 : Int) * (2 : Int) ^ (switchesF k).toNat ∧
 k = k ∧ l = l ∧ True) ∧
 (¬(↑x_1 : Int) < (↑(List.replicate (switchesF k).toNat (0 : Int)).length : Int) →
 ¬(↑x_1 : Int) < (↑(List.replicate (switchesF k).toNat (0 : Int)).length : Int) ∧
 (((1 : Int) ≤ k ∧ k ≤ (3 : Int)) ∧
 (strOf (letTo (↑x : Int).toNat (swN k.toNat) x_1)).size = swN k.toNat ∧
 ∀ (i : Nat),
 i < (strOf (letTo (↑x : Int).toNat (swN k.toNat) x_1)).size →
 bt (strOf (letTo (↑x : Int).toNat (swN k.toNat) x_1)) i = (48 : Int) ∨
 bt (strOf (letTo (↑x : Int).toNat (swN k.toNat) x_1)) i = (49 : Int)) ∧
 (∃ (x0 : Nat),
 (x0 ≤ (applyF k.toNat (writ (↑x : Int).toNat (swN k.toNat))).length ∧ True) ∧
 (letTo (↑x : Int).toNat (swN k.toNat) x_1 = letTo (↑x : Int).toNat (swN k.toNat) x_1 ∧ True) ∧
 (0 : Int) = (↑x0 : Int) ∧
 true = cmpTo (applyF k.toNat (writ (↑x : Int).toNat (swN k.toNat))) l x0 ∧
 (↑(applyF k.toNat (strOf (letTo (↑x : Int).toNat (swN k.toNat) x_1))).length : Int) =
 (↑(applyF k.toNat (strOf (letTo (↑x : Int).toNat (swN k.toNat) x_1))).length : Int) ∧
 applyF k.toNat (strOf (letTo (↑x : Int).toNat (swN k.toNat) x_1)) =
 applyF k.toNat (strOf (letTo (↑x : Int).toNat (swN k.toNat) x_1)) ∧
 (↑x : Int) = (↑x : Int) ∧
 (↑x : Int) = (↑x : Int) ∧
 (↑(waysTo k.toNat l x) : Int) = (↑(waysTo k.toNat l x) : Int) ∧
 (1 : Int) * (2 : Int) ^ (switchesF k).toNat =
 (1 : Int) * (2 : Int) ^ (switchesF k).toNat ∧
 k = k ∧ l = l ∧ True) ∧
 ∀ (x_2 : Nat),
 x_2 ≤ (applyF k.toNat (writ (↑x : Int).toNat (swN k.toNat))).length ∧ True →
 ((↑x_2 : Int) < (↑(applyF k.toNat (strOf (letTo (↑x : Int).toNat (swN k.toNat) x_1))).length : Int) →
 (↑x_2 : Int) < (↑(applyF k.toNat (strOf (letTo (↑x : Int).toNat (swN k.toNat) x_1))).length : Int) ∧
 ((0 : Int) ≤ (↑x_2 : Int) ∧
 (↑x_2 : Int) <
 (↑(applyF k.toNat (strOf (letTo (↑x : Int).toNat (swN k.toNat) x_1))).length : Int)) ∧
 (cmpTo (applyF k.toNat (writ (↑x : Int).toNat (swN k.toNat))) l x_2 = true →
 cmpTo (applyF k.toNat (writ (↑x : Int).toNat (swN k.toNat))) l x_2 = true ∧
 cmpTo (applyF k.toNat (writ (↑x : Int).toNat (swN k.toNat))) l x_2 = true ∧
 ((0 : Int) ≤ (↑x_2 : Int) ∧ (↑x_2 : Int) < (↑l.length : Int)) ∧
 Fits IntKind.i64 ((↑x_2 : Int) + (1 : Int)) ∧
 ∃ (x' : Nat),
 (x' ≤ (applyF k.toNat (writ (↑x : Int).toNat (swN k.toNat))).length ∧ True) ∧
 (applyF k.toNat (writ (↑x : Int).toNat (swN k.toNat))).length - x' <
 (applyF k.toNat (writ (↑x : Int).toNat (swN k.toNat))).length - x_2 ∧
 (letTo (↑x : Int).toNat (swN k.toNat) x_1 =
 letTo (↑x : Int).toNat (swN k.toNat) x_1 ∧
 True) ∧
 (↑x_2 : Int) + (1 : Int) = (↑x' : Int) ∧
 decide
 ((applyF k.toNat
 (strOf (letTo (↑x : Int).toNat (swN k.toNat) x_1))).getD
 (↑x_2 : Int).toNat (0 : Int) =
 l.getD (↑x_2 : Int).toNat (0 : Int)) =
 cmpTo (applyF k.toNat (writ (↑x : Int).toNat (swN k.toNat))) l x' ∧
 (↑(applyF k.toNat
 (strOf (letTo (↑x : Int).toNat (swN k.toNat) x_1))).length :
 Int) =
 (↑(applyF k.toNat
 (strOf (letTo (↑x : Int).toNat (swN k.toNat) x_1))).length :
 Int) ∧
 applyF k.toNat (strOf (letTo (↑x : Int).toNat (swN k.toNat) x_1)) =
 applyF k.toNat (strOf (letTo (↑x : Int).toNat (swN k.toNat) x_1)) ∧
 (↑x : Int) = (↑x : Int) ∧
 (↑x : Int) = (↑x : Int) ∧
 (↑(waysTo k.toNat l x) : Int) = (↑(waysTo k.toNat l x) : Int) ∧
 (1 : Int) * (2 : Int) ^ (switchesF k).toNat =
 (1 : Int) * (2 : Int) ^ (switchesF k).toNat ∧
 k = k ∧ l = l ∧ True) ∧
 (cmpTo (applyF k.toNat (writ (↑x : Int).toNat (swN k.toNat))) l x_2 = false →
 cmpTo (applyF k.toNat (writ (↑x : Int).toNat (swN k.toNat))) l x_2 = false ∧
 cmpTo (applyF k.toNat (writ (↑x : Int).toNat (swN k.toNat))) l x_2 = false ∧
 Fits IntKind.i64 ((↑x_2 : Int) + (1 : Int)) ∧
 ∃ (x' : Nat),
 (x' ≤ (applyF k.toNat (writ (↑x : Int).toNat (swN k.toNat))).length ∧ True) ∧
 (applyF k.toNat (writ (↑x : Int).toNat (swN k.toNat))).length - x' <
 (applyF k.toNat (writ (↑x : Int).toNat (swN k.toNat))).length - x_2 ∧
 (letTo (↑x : Int).toNat (swN k.toNat) x_1 =
 letTo (↑x : Int).toNat (swN k.toNat) x_1 ∧
 True) ∧
 (↑x_2 : Int) + (1 : Int) = (↑x' : Int) ∧
 false = cmpTo (applyF k.toNat (writ (↑x : Int).toNat (swN k.toNat))) l x' ∧
 (↑(applyF k.toNat
 (strOf (letTo (↑x : Int).toNat (swN k.toNat) x_1))).length :
 Int) =
 (↑(applyF k.toNat
 (strOf (letTo (↑x : Int).toNat (swN k.toNat) x_1))).length :
 Int) ∧
 applyF k.toNat (strOf (letTo (↑x : Int).toNat (swN k.toNat) x_1)) =
 applyF k.toNat (strOf (letTo (↑x : Int).toNat (swN k.toNat) x_1)) ∧
 (↑x : Int) = (↑x : Int) ∧
 (↑x : Int) = (↑x : Int) ∧
 (↑(waysTo k.toNat l x) : Int) = (↑(waysTo k.toNat l x) : Int) ∧
 (1 : Int) * (2 : Int) ^ (switchesF k).toNat =
 (1 : Int) * (2 : Int) ^ (switchesF k).toNat ∧
 k = k ∧ l = l ∧ True)) ∧
 (¬(↑x_2 : Int) < (↑(applyF k.toNat (strOf (letTo (↑x : Int).toNat (swN k.toNat) x_1))).length : Int) →
 ¬(↑x_2 : Int) < (↑(applyF k.toNat (strOf (letTo (↑x : Int).toNat (swN k.toNat) x_1))).length : Int) ∧
 (cmpTo (applyF k.toNat (writ (↑x : Int).toNat (swN k.toNat))) l x_2 = true →
 cmpTo (applyF k.toNat (writ (↑x : Int).toNat (swN k.toNat))) l x_2 = true ∧
 Fits IntKind.i64 ((↑(waysTo k.toNat l x) : Int) + (1 : Int)) ∧
 Fits IntKind.i64 ((↑x : Int) + (1 : Int)) ∧
 ∃ (x' : Nat),
 (x' ≤ (2 : Nat) ^ swN k.toNat ∧ True) ∧
 (2 : Nat) ^ swN k.toNat - x' < (2 : Nat) ^ swN k.toNat - x ∧
 True ∧
 (↑x : Int) + (1 : Int) = (↑x' : Int) ∧
 (↑(waysTo k.toNat l x) : Int) + (1 : Int) = (↑(waysTo k.toNat l x') : Int) ∧
 (1 : Int) * (2 : Int) ^ (switchesF k).toNat =
 (1 : Int) * (2 : Int) ^ (switchesF k).toNat ∧
 k = k ∧ l = l ∧ True) ∧
 (cmpTo (applyF k.toNat (writ (↑x : Int).toNat (swN k.toNat))) l x_2 = false →
 cmpTo (applyF k.toNat (writ (↑x : Int).toNat (swN k.toNat))) l x_2 = false ∧
 Fits IntKind.i64 ((↑x : Int) + (1 : Int)) ∧
 ∃ (x' : Nat),
 (x' ≤ (2 : Nat) ^ swN k.toNat ∧ True) ∧
 (2 : Nat) ^ swN k.toNat - x' < (2 : Nat) ^ swN k.toNat - x ∧
 True ∧
 (↑x : Int) + (1 : Int) = (↑x' : Int) ∧
 (↑(waysTo k.toNat l x) : Int) = (↑(waysTo k.toNat l x') : Int) ∧
 (1 : Int) * (2 : Int) ^ (switchesF k).toNat =
 (1 : Int) * (2 : Int) ^ (switchesF k).toNat ∧
 k = k ∧ l = l ∧ True)))) ∧
 (¬(↑x : Int) < (1 : Int) * (2 : Int) ^ (switchesF k).toNat →
 ¬(↑x : Int) < (1 : Int) * (2 : Int) ^ (switchesF k).toNat ∧ ((↑(waysTo k.toNat l x) : Int), (0 : Int)) = waysF k l))))) := by
 kernel_rfl

end Go.SX.Pa
