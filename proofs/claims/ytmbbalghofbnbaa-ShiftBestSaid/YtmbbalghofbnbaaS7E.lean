/- Printed by VC.lean: what the executor asks. -/
import Derived.Test.YtmbbalghofbnbaaS7
namespace Go.SX.Sh
open Go Go.Proofs
theorem g6_eq (x : List (Int × Int)) : g6 x = (
 ((∀ (q : Int × Int), q ∈ x → ((0 : Int) ≤ q.fst ∧ q.fst ≤ (65535 : Int)) ∧ (0 : Int) ≤ q.snd ∧ q.snd ≤ (65535 : Int)) ∧ (0 : Int) ≤ (60 : Int) ∧ (60 : Int) ≤ (1000 : Int)) ∧
 (madeF x (60 : Int)).length ≤ (1000 : Nat) ∧
 (madeF x (60 : Int)).length ≤ (1000 : Nat) ∧
 (madeF x (60 : Int)).length ≤ (1000 : Nat) ∧
 (¬(guardF (madeF x (60 : Int)) trotF).snd = (0 : Int) →
 ¬(guardF (madeF x (60 : Int)) trotF).snd = (0 : Int) ∧ ¬(guardF (madeF x (60 : Int)) trotF).snd = (0 : Int) ∧ false = true) ∧
 (¬¬(guardF (madeF x (60 : Int)) trotF).snd = (0 : Int) →
 ¬¬(guardF (madeF x (60 : Int)) trotF).snd = (0 : Int) ∧
 ¬¬(guardF (madeF x (60 : Int)) trotF).snd = (0 : Int) ∧
 (¬(guardF (madeF x (60 : Int)) levelsF).snd = (0 : Int) →
 ¬(guardF (madeF x (60 : Int)) levelsF).snd = (0 : Int) ∧
 ¬(guardF (madeF x (60 : Int)) levelsF).snd = (0 : Int) ∧ ¬(guardF (madeF x (60 : Int)) levelsF).snd = (0 : Int) ∧ false = true) ∧
 (¬¬(guardF (madeF x (60 : Int)) levelsF).snd = (0 : Int) →
 ¬¬(guardF (madeF x (60 : Int)) levelsF).snd = (0 : Int) ∧
 ¬¬(guardF (madeF x (60 : Int)) levelsF).snd = (0 : Int) ∧
 ¬¬(guardF (madeF x (60 : Int)) levelsF).snd = (0 : Int) ∧
 (¬(depthP (madeF x (60 : Int))).snd = (0 : Int) →
 ¬(depthP (madeF x (60 : Int))).snd = (0 : Int) ∧
 ¬(depthP (madeF x (60 : Int))).snd = (0 : Int) ∧ ¬(depthP (madeF x (60 : Int))).snd = (0 : Int) ∧ false = true) ∧
 (¬¬(depthP (madeF x (60 : Int))).snd = (0 : Int) →
 ¬¬(depthP (madeF x (60 : Int))).snd = (0 : Int) ∧
 ¬¬(depthP (madeF x (60 : Int))).snd = (0 : Int) ∧
 ¬¬(depthP (madeF x (60 : Int))).snd = (0 : Int) ∧
 (¬(↑(guardF (madeF x (60 : Int)) trotF).fst.length : Int) = (↑(madeF x (60 : Int)).length : Int) →
 ¬(↑(guardF (madeF x (60 : Int)) trotF).fst.length : Int) = (↑(madeF x (60 : Int)).length : Int) ∧
 ¬(↑(guardF (madeF x (60 : Int)) trotF).fst.length : Int) = (↑(madeF x (60 : Int)).length : Int) ∧
 ¬(↑(guardF (madeF x (60 : Int)) trotF).fst.length : Int) = (↑(madeF x (60 : Int)).length : Int) ∧ false = true) ∧
 (¬¬(↑(guardF (madeF x (60 : Int)) trotF).fst.length : Int) = (↑(madeF x (60 : Int)).length : Int) →
 ¬¬(↑(guardF (madeF x (60 : Int)) trotF).fst.length : Int) = (↑(madeF x (60 : Int)).length : Int) ∧
 ¬¬(↑(guardF (madeF x (60 : Int)) trotF).fst.length : Int) = (↑(madeF x (60 : Int)).length : Int) ∧
 ¬¬(↑(guardF (madeF x (60 : Int)) trotF).fst.length : Int) = (↑(madeF x (60 : Int)).length : Int) ∧
 (¬(↑(guardF (madeF x (60 : Int)) levelsF).fst.length : Int) = (↑(madeF x (60 : Int)).length : Int) →
 ¬(↑(guardF (madeF x (60 : Int)) levelsF).fst.length : Int) = (↑(madeF x (60 : Int)).length : Int) ∧
 ¬(↑(guardF (madeF x (60 : Int)) levelsF).fst.length : Int) = (↑(madeF x (60 : Int)).length : Int) ∧
 ¬(↑(guardF (madeF x (60 : Int)) levelsF).fst.length : Int) = (↑(madeF x (60 : Int)).length : Int) ∧ false = true) ∧
 (¬¬(↑(guardF (madeF x (60 : Int)) levelsF).fst.length : Int) = (↑(madeF x (60 : Int)).length : Int) →
 ¬¬(↑(guardF (madeF x (60 : Int)) levelsF).fst.length : Int) = (↑(madeF x (60 : Int)).length : Int) ∧
 ¬¬(↑(guardF (madeF x (60 : Int)) levelsF).fst.length : Int) = (↑(madeF x (60 : Int)).length : Int) ∧
 ¬¬(↑(guardF (madeF x (60 : Int)) levelsF).fst.length : Int) = (↑(madeF x (60 : Int)).length : Int) ∧
 True ∧
 ((!true) = true → (!true) = true ∧ (!true) = true ∧ false = true) ∧
 ((!true) = false →
 (!true) = false ∧
 (!true) = false ∧
 (∃ (x0 : Nat),
 (x0 ≤ (madeF x (60 : Int)).length ∧ True) ∧
 True ∧
 (0 : Int) = (↑x0 : Int) ∧
 (depthP (madeF x (60 : Int))).fst = (depthP (madeF x (60 : Int))).fst ∧
 (guardF (madeF x (60 : Int)) levelsF).fst = (guardF (madeF x (60 : Int)) levelsF).fst ∧
 (guardF (madeF x (60 : Int)) trotF).fst = (guardF (madeF x (60 : Int)) trotF).fst ∧
 madeF x (60 : Int) = madeF x (60 : Int) ∧ True) ∧
 ∀ (x_1 : Nat),
 x_1 ≤ (madeF x (60 : Int)).length ∧ True →
 ((↑x_1 : Int) < (↑(madeF x (60 : Int)).length : Int) →
 (↑x_1 : Int) < (↑(madeF x (60 : Int)).length : Int) ∧
 (∃ (x0 : Nat),
 (x0 ≤ (madeF x (60 : Int)).length ∧ True) ∧
 True ∧
 (0 : Int) = (↑x0 : Int) ∧
 (0 : Int) =
 (↑(nearTo (madeF x (60 : Int)) (levelsF (madeF x (60 : Int))) (↑x_1 : Int).toNat x0) :
 Int) ∧
 (↑x_1 : Int) = (↑x_1 : Int) ∧
 (depthP (madeF x (60 : Int))).fst = (depthP (madeF x (60 : Int))).fst ∧
 (guardF (madeF x (60 : Int)) levelsF).fst =
 (guardF (madeF x (60 : Int)) levelsF).fst ∧
 (guardF (madeF x (60 : Int)) trotF).fst = (guardF (madeF x (60 : Int)) trotF).fst ∧
 madeF x (60 : Int) = madeF x (60 : Int) ∧ True) ∧
 ∀ (x_2 : Nat),
 x_2 ≤ (madeF x (60 : Int)).length ∧ True →
 ((↑x_2 : Int) < (↑(madeF x (60 : Int)).length : Int) →
 (↑x_2 : Int) < (↑(madeF x (60 : Int)).length : Int) ∧
 (¬(↑x_2 : Int) = (↑x_1 : Int) →
 ¬(↑x_2 : Int) = (↑x_1 : Int) ∧
 ¬(↑x_2 : Int) = (↑x_1 : Int) ∧
 ((0 : Int) ≤ (↑x_2 : Int) ∧
 (↑x_2 : Int) < (↑(guardF (madeF x (60 : Int)) levelsF).fst.length : Int)) ∧
 ((0 : Int) ≤ (↑x_1 : Int) ∧
 (↑x_1 : Int) < (↑(guardF (madeF x (60 : Int)) levelsF).fst.length : Int)) ∧
 ((guardF (madeF x (60 : Int)) levelsF).fst.getD (↑x_2 : Int).toNat (0 : Int) =
 (guardF (madeF x (60 : Int)) levelsF).fst.getD (↑x_1 : Int).toNat
 (0 : Int) →
 (guardF (madeF x (60 : Int)) levelsF).fst.getD (↑x_2 : Int).toNat
 (0 : Int) =
 (guardF (madeF x (60 : Int)) levelsF).fst.getD (↑x_1 : Int).toNat
 (0 : Int) ∧
 (guardF (madeF x (60 : Int)) levelsF).fst.getD (↑x_2 : Int).toNat
 (0 : Int) =
 (guardF (madeF x (60 : Int)) levelsF).fst.getD (↑x_1 : Int).toNat
 (0 : Int) ∧
 (guardF (madeF x (60 : Int)) levelsF).fst.getD (↑x_2 : Int).toNat
 (0 : Int) =
 (guardF (madeF x (60 : Int)) levelsF).fst.getD (↑x_1 : Int).toNat
 (0 : Int) ∧
 ((0 : Int) ≤ (↑x_1 : Int) ∧
 (↑x_1 : Int) < (↑(madeF x (60 : Int)).length : Int)) ∧
 ((0 : Int) ≤ (↑x_2 : Int) ∧
 (↑x_2 : Int) < (↑(madeF x (60 : Int)).length : Int)) ∧
 True ∧
 (decide
 (max
 ((madeF x (60 : Int)).getD (↑x_1 : Int).toNat
 ((0 : Int), (0 : Int))).fst
 ((madeF x (60 : Int)).getD (↑x_2 : Int).toNat
 ((0 : Int), (0 : Int))).fst <
 min
 ((madeF x (60 : Int)).getD (↑x_1 : Int).toNat
 ((0 : Int), (0 : Int))).snd
 ((madeF x (60 : Int)).getD (↑x_2 : Int).toNat
 ((0 : Int), (0 : Int))).snd) =
 true →
 decide
 (max
 ((madeF x (60 : Int)).getD (↑x_1 : Int).toNat
 ((0 : Int), (0 : Int))).fst
 ((madeF x (60 : Int)).getD (↑x_2 : Int).toNat
 ((0 : Int), (0 : Int))).fst <
 min
 ((madeF x (60 : Int)).getD (↑x_1 : Int).toNat
 ((0 : Int), (0 : Int))).snd
 ((madeF x (60 : Int)).getD (↑x_2 : Int).toNat
 ((0 : Int), (0 : Int))).snd) =
 true ∧
 decide
 (max
 ((madeF x (60 : Int)).getD (↑x_1 : Int).toNat
 ((0 : Int), (0 : Int))).fst
 ((madeF x (60 : Int)).getD (↑x_2 : Int).toNat
 ((0 : Int), (0 : Int))).fst <
 min
 ((madeF x (60 : Int)).getD (↑x_1 : Int).toNat
 ((0 : Int), (0 : Int))).snd
 ((madeF x (60 : Int)).getD (↑x_2 : Int).toNat
 ((0 : Int), (0 : Int))).snd) =
 true ∧
 Fits IntKind.i64
 ((↑(nearTo (madeF x (60 : Int))
 (levelsF (madeF x (60 : Int)))
 (↑x_1 : Int).toNat x_2) :
 Int) +
 (1 : Int)) ∧
 Fits IntKind.i64 ((↑x_2 : Int) + (1 : Int)) ∧
 ∃ (x' : Nat),
 (x' ≤ (madeF x (60 : Int)).length ∧ True) ∧
 (madeF x (60 : Int)).length - x' <
 (madeF x (60 : Int)).length - x_2 ∧
 True ∧
 (↑x_2 : Int) + (1 : Int) = (↑x' : Int) ∧
 (↑(nearTo (madeF x (60 : Int))
 (levelsF
 (madeF x (60 : Int)))
 (↑x_1 : Int).toNat x_2) :
 Int) +
 (1 : Int) =
 (↑(nearTo (madeF x (60 : Int))
 (levelsF (madeF x (60 : Int)))
 (↑x_1 : Int).toNat x') :
 Int) ∧
 (↑x_1 : Int) = (↑x_1 : Int) ∧
 (depthP (madeF x (60 : Int))).fst =
 (depthP
 (madeF x (60 : Int))).fst ∧
 (guardF (madeF x (60 : Int))
 levelsF).fst =
 (guardF (madeF x (60 : Int))
 levelsF).fst ∧
 (guardF (madeF x (60 : Int))
 trotF).fst =
 (guardF (madeF x (60 : Int))
 trotF).fst ∧
 madeF x (60 : Int) =
 madeF x (60 : Int) ∧
 True) ∧
 (decide
 (max
 ((madeF x (60 : Int)).getD (↑x_1 : Int).toNat
 ((0 : Int), (0 : Int))).fst
 ((madeF x (60 : Int)).getD (↑x_2 : Int).toNat
 ((0 : Int), (0 : Int))).fst <
 min
 ((madeF x (60 : Int)).getD (↑x_1 : Int).toNat
 ((0 : Int), (0 : Int))).snd
 ((madeF x (60 : Int)).getD (↑x_2 : Int).toNat
 ((0 : Int), (0 : Int))).snd) =
 false →
 decide
 (max
 ((madeF x (60 : Int)).getD (↑x_1 : Int).toNat
 ((0 : Int), (0 : Int))).fst
 ((madeF x (60 : Int)).getD (↑x_2 : Int).toNat
 ((0 : Int), (0 : Int))).fst <
 min
 ((madeF x (60 : Int)).getD (↑x_1 : Int).toNat
 ((0 : Int), (0 : Int))).snd
 ((madeF x (60 : Int)).getD (↑x_2 : Int).toNat
 ((0 : Int), (0 : Int))).snd) =
 false ∧
 decide
 (max
 ((madeF x (60 : Int)).getD (↑x_1 : Int).toNat
 ((0 : Int), (0 : Int))).fst
 ((madeF x (60 : Int)).getD (↑x_2 : Int).toNat
 ((0 : Int), (0 : Int))).fst <
 min
 ((madeF x (60 : Int)).getD (↑x_1 : Int).toNat
 ((0 : Int), (0 : Int))).snd
 ((madeF x (60 : Int)).getD (↑x_2 : Int).toNat
 ((0 : Int), (0 : Int))).snd) =
 false ∧
 Fits IntKind.i64 ((↑x_2 : Int) + (1 : Int)) ∧
 ∃ (x' : Nat),
 (x' ≤ (madeF x (60 : Int)).length ∧ True) ∧
 (madeF x (60 : Int)).length - x' <
 (madeF x (60 : Int)).length - x_2 ∧
 True ∧
 (↑x_2 : Int) + (1 : Int) = (↑x' : Int) ∧
 (↑(nearTo (madeF x (60 : Int))
 (levelsF (madeF x (60 : Int)))
 (↑x_1 : Int).toNat x_2) :
 Int) =
 (↑(nearTo (madeF x (60 : Int))
 (levelsF (madeF x (60 : Int)))
 (↑x_1 : Int).toNat x') :
 Int) ∧
 (↑x_1 : Int) = (↑x_1 : Int) ∧
 (depthP (madeF x (60 : Int))).fst =
 (depthP
 (madeF x (60 : Int))).fst ∧
 (guardF (madeF x (60 : Int))
 levelsF).fst =
 (guardF (madeF x (60 : Int))
 levelsF).fst ∧
 (guardF (madeF x (60 : Int))
 trotF).fst =
 (guardF (madeF x (60 : Int))
 trotF).fst ∧
 madeF x (60 : Int) =
 madeF x (60 : Int) ∧
 True)) ∧
 (¬(guardF (madeF x (60 : Int)) levelsF).fst.getD (↑x_2 : Int).toNat
 (0 : Int) =
 (guardF (madeF x (60 : Int)) levelsF).fst.getD (↑x_1 : Int).toNat
 (0 : Int) →
 ¬(guardF (madeF x (60 : Int)) levelsF).fst.getD (↑x_2 : Int).toNat
 (0 : Int) =
 (guardF (madeF x (60 : Int)) levelsF).fst.getD (↑x_1 : Int).toNat
 (0 : Int) ∧
 ¬(guardF (madeF x (60 : Int)) levelsF).fst.getD (↑x_2 : Int).toNat
 (0 : Int) =
 (guardF (madeF x (60 : Int)) levelsF).fst.getD (↑x_1 : Int).toNat
 (0 : Int) ∧
 ¬(guardF (madeF x (60 : Int)) levelsF).fst.getD (↑x_2 : Int).toNat
 (0 : Int) =
 (guardF (madeF x (60 : Int)) levelsF).fst.getD
 (↑x_1 : Int).toNat (0 : Int) ∧
 Fits IntKind.i64 ((↑x_2 : Int) + (1 : Int)) ∧
 ∃ (x' : Nat),
 (x' ≤ (madeF x (60 : Int)).length ∧ True) ∧
 (madeF x (60 : Int)).length - x' <
 (madeF x (60 : Int)).length - x_2 ∧
 True ∧
 (↑x_2 : Int) + (1 : Int) = (↑x' : Int) ∧
 (↑(nearTo (madeF x (60 : Int))
 (levelsF (madeF x (60 : Int)))
 (↑x_1 : Int).toNat x_2) :
 Int) =
 (↑(nearTo (madeF x (60 : Int))
 (levelsF (madeF x (60 : Int)))
 (↑x_1 : Int).toNat x') :
 Int) ∧
 (↑x_1 : Int) = (↑x_1 : Int) ∧
 (depthP (madeF x (60 : Int))).fst =
 (depthP (madeF x (60 : Int))).fst ∧
 (guardF (madeF x (60 : Int)) levelsF).fst =
 (guardF (madeF x (60 : Int)) levelsF).fst ∧
 (guardF (madeF x (60 : Int)) trotF).fst =
 (guardF (madeF x (60 : Int)) trotF).fst ∧
 madeF x (60 : Int) = madeF x (60 : Int) ∧
 True)) ∧
 (¬¬(↑x_2 : Int) = (↑x_1 : Int) →
 ¬¬(↑x_2 : Int) = (↑x_1 : Int) ∧
 ¬¬(↑x_2 : Int) = (↑x_1 : Int) ∧
 Fits IntKind.i64 ((↑x_2 : Int) + (1 : Int)) ∧
 ∃ (x' : Nat),
 (x' ≤ (madeF x (60 : Int)).length ∧ True) ∧
 (madeF x (60 : Int)).length - x' < (madeF x (60 : Int)).length - x_2 ∧
 True ∧
 (↑x_2 : Int) + (1 : Int) = (↑x' : Int) ∧
 (↑(nearTo (madeF x (60 : Int)) (levelsF (madeF x (60 : Int)))
 (↑x_1 : Int).toNat x_2) :
 Int) =
 (↑(nearTo (madeF x (60 : Int)) (levelsF (madeF x (60 : Int)))
 (↑x_1 : Int).toNat x') :
 Int) ∧
 (↑x_1 : Int) = (↑x_1 : Int) ∧
 (depthP (madeF x (60 : Int))).fst =
 (depthP (madeF x (60 : Int))).fst ∧
 (guardF (madeF x (60 : Int)) levelsF).fst =
 (guardF (madeF x (60 : Int)) levelsF).fst ∧
 (guardF (madeF x (60 : Int)) trotF).fst =
 (guardF (madeF x (60 : Int)) trotF).fst ∧
 madeF x (60 : Int) = madeF x (60 : Int) ∧ True)) ∧
 (¬(↑x_2 : Int) < (↑(madeF x (60 : Int)).length : Int) →
 ¬(↑x_2 : Int) < (↑(madeF x (60 : Int)).length : Int) ∧
 ((0 : Int) ≤ (↑x_1 : Int) ∧
 (↑x_1 : Int) < (↑(guardF (madeF x (60 : Int)) trotF).fst.length : Int)) ∧
 ((guardF (madeF x (60 : Int)) trotF).fst.getD (↑x_1 : Int).toNat (0 : Int) < (0 : Int) →
 (guardF (madeF x (60 : Int)) trotF).fst.getD (↑x_1 : Int).toNat (0 : Int) <
 (0 : Int) ∧
 (guardF (madeF x (60 : Int)) trotF).fst.getD (↑x_1 : Int).toNat (0 : Int) <
 (0 : Int) ∧
 false = true) ∧
 (¬(guardF (madeF x (60 : Int)) trotF).fst.getD (↑x_1 : Int).toNat (0 : Int) <
 (0 : Int) →
 ¬(guardF (madeF x (60 : Int)) trotF).fst.getD (↑x_1 : Int).toNat (0 : Int) <
 (0 : Int) ∧
 ¬(guardF (madeF x (60 : Int)) trotF).fst.getD (↑x_1 : Int).toNat (0 : Int) <
 (0 : Int) ∧
 ((0 : Int) ≤ (↑x_1 : Int) ∧
 (↑x_1 : Int) < (↑(guardF (madeF x (60 : Int)) trotF).fst.length : Int)) ∧
 Fits IntKind.i64 ((3 : Int) * (depthP (madeF x (60 : Int))).fst) ∧
 Fits IntKind.i64
 ((3 : Int) * (depthP (madeF x (60 : Int))).fst - (2 : Int)) ∧
 ((3 : Int) * (depthP (madeF x (60 : Int))).fst - (2 : Int) ≤
 (guardF (madeF x (60 : Int)) trotF).fst.getD (↑x_1 : Int).toNat
 (0 : Int) →
 (3 : Int) * (depthP (madeF x (60 : Int))).fst - (2 : Int) ≤
 (guardF (madeF x (60 : Int)) trotF).fst.getD (↑x_1 : Int).toNat
 (0 : Int) ∧
 (3 : Int) * (depthP (madeF x (60 : Int))).fst - (2 : Int) ≤
 (guardF (madeF x (60 : Int)) trotF).fst.getD (↑x_1 : Int).toNat
 (0 : Int) ∧
 (3 : Int) * (depthP (madeF x (60 : Int))).fst - (2 : Int) ≤
 (guardF (madeF x (60 : Int)) trotF).fst.getD
 (↑x_1 : Int).toNat (0 : Int) ∧
 false = true) ∧
 (¬(3 : Int) * (depthP (madeF x (60 : Int))).fst - (2 : Int) ≤
 (guardF (madeF x (60 : Int)) trotF).fst.getD (↑x_1 : Int).toNat
 (0 : Int) →
 ¬(3 : Int) * (depthP (madeF x (60 : Int))).fst - (2 : Int) ≤
 (guardF (madeF x (60 : Int)) trotF).fst.getD (↑x_1 : Int).toNat
 (0 : Int) ∧
 ¬(3 : Int) * (depthP (madeF x (60 : Int))).fst - (2 : Int) ≤
 (guardF (madeF x (60 : Int)) trotF).fst.getD
 (↑x_1 : Int).toNat (0 : Int) ∧
 ¬(3 : Int) * (depthP (madeF x (60 : Int))).fst - (2 : Int) ≤
 (guardF (madeF x (60 : Int)) trotF).fst.getD
 (↑x_1 : Int).toNat (0 : Int) ∧
 ((0 : Int) ≤ (↑x_1 : Int) ∧
 (↑x_1 : Int) <
 (↑(guardF (madeF x (60 : Int)) levelsF).fst.length :
 Int)) ∧
 ((guardF (madeF x (60 : Int)) levelsF).fst.getD
 (↑x_1 : Int).toNat (0 : Int) <
 (1 : Int) →
 (guardF (madeF x (60 : Int)) levelsF).fst.getD
 (↑x_1 : Int).toNat (0 : Int) <
 (1 : Int) ∧
 (guardF (madeF x (60 : Int)) levelsF).fst.getD
 (↑x_1 : Int).toNat (0 : Int) <
 (1 : Int) ∧
 (guardF (madeF x (60 : Int)) levelsF).fst.getD
 (↑x_1 : Int).toNat (0 : Int) <
 (1 : Int) ∧
 false = true) ∧
 (¬(guardF (madeF x (60 : Int)) levelsF).fst.getD
 (↑x_1 : Int).toNat (0 : Int) <
 (1 : Int) →
 ¬(guardF (madeF x (60 : Int)) levelsF).fst.getD
 (↑x_1 : Int).toNat (0 : Int) <
 (1 : Int) ∧
 ¬(guardF (madeF x (60 : Int)) levelsF).fst.getD
 (↑x_1 : Int).toNat (0 : Int) <
 (1 : Int) ∧
 ¬(guardF (madeF x (60 : Int)) levelsF).fst.getD
 (↑x_1 : Int).toNat (0 : Int) <
 (1 : Int) ∧
 ((0 : Int) ≤ (↑x_1 : Int) ∧
 (↑x_1 : Int) <
 (↑(guardF (madeF x (60 : Int))
 levelsF).fst.length :
 Int)) ∧
 ((depthP (madeF x (60 : Int))).fst <
 (guardF (madeF x (60 : Int))
 levelsF).fst.getD
 (↑x_1 : Int).toNat (0 : Int) →
 (depthP (madeF x (60 : Int))).fst <
 (guardF (madeF x (60 : Int))
 levelsF).fst.getD
 (↑x_1 : Int).toNat (0 : Int) ∧
 (depthP (madeF x (60 : Int))).fst <
 (guardF (madeF x (60 : Int))
 levelsF).fst.getD
 (↑x_1 : Int).toNat (0 : Int) ∧
 (depthP (madeF x (60 : Int))).fst <
 (guardF (madeF x (60 : Int))
 levelsF).fst.getD
 (↑x_1 : Int).toNat (0 : Int) ∧
 false = true) ∧
 (¬(depthP (madeF x (60 : Int))).fst <
 (guardF (madeF x (60 : Int))
 levelsF).fst.getD
 (↑x_1 : Int).toNat (0 : Int) →
 ¬(depthP (madeF x (60 : Int))).fst <
 (guardF (madeF x (60 : Int))
 levelsF).fst.getD
 (↑x_1 : Int).toNat (0 : Int) ∧
 ¬(depthP (madeF x (60 : Int))).fst <
 (guardF (madeF x (60 : Int))
 levelsF).fst.getD
 (↑x_1 : Int).toNat (0 : Int) ∧
 ¬(depthP (madeF x (60 : Int))).fst <
 (guardF (madeF x (60 : Int))
 levelsF).fst.getD
 (↑x_1 : Int).toNat (0 : Int) ∧
 ((2 : Int) <
 (↑(nearTo (madeF x (60 : Int))
 (levelsF
 (madeF x (60 : Int)))
 (↑x_1 : Int).toNat x_2) :
 Int) →
 (2 : Int) <
 (↑(nearTo (madeF x (60 : Int))
 (levelsF
 (madeF x (60 : Int)))
 (↑x_1 : Int).toNat x_2) :
 Int) ∧
 (2 : Int) <
 (↑(nearTo (madeF x (60 : Int))
 (levelsF
 (madeF x (60 : Int)))
 (↑x_1 : Int).toNat
 x_2) :
 Int) ∧
 (2 : Int) <
 (↑(nearTo
 (madeF x (60 : Int))
 (levelsF
 (madeF x
 (60 : Int)))
 (↑x_1 : Int).toNat
 x_2) :
 Int) ∧
 false = true) ∧
 (¬(2 : Int) <
 (↑(nearTo (madeF x (60 : Int))
 (levelsF
 (madeF x (60 : Int)))
 (↑x_1 : Int).toNat x_2) :
 Int) →
 ¬(2 : Int) <
 (↑(nearTo (madeF x (60 : Int))
 (levelsF
 (madeF x (60 : Int)))
 (↑x_1 : Int).toNat
 x_2) :
 Int) ∧
 ¬(2 : Int) <
 (↑(nearTo
 (madeF x (60 : Int))
 (levelsF
 (madeF x
 (60 : Int)))
 (↑x_1 : Int).toNat
 x_2) :
 Int) ∧
 ¬(2 : Int) <
 (↑(nearTo
 (madeF x (60 : Int))
 (levelsF
 (madeF x
 (60 : Int)))
 (↑x_1 : Int).toNat
 x_2) :
 Int) ∧
 ((0 : Int) ≤ (↑x_1 : Int) ∧
 (↑x_1 : Int) <
 (↑(guardF
 (madeF x
 (60 : Int))
 levelsF).fst.length :
 Int)) ∧
 ((guardF
 (madeF x
 (60 : Int))
 levelsF).fst.getD
 (↑x_1 : Int).toNat
 (0 : Int) =
 (1 : Int) →
 (guardF
 (madeF x
 (60 :
 Int))
 levelsF).fst.getD
 (↑x_1 : Int).toNat
 (0 : Int) =
 (1 : Int) ∧
 (guardF
 (madeF x
 (60 :
 Int))
 levelsF).fst.getD
 (↑x_1 :
 Int).toNat
 (0 : Int) =
 (1 : Int) ∧
 ((0 : Int) <
 (↑(nearTo
 (madeF x
 (60 :
 Int))
 (levelsF
 (madeF
 x
 (60 :
 Int)))
 (↑x_1 :
 Int).toNat
 x_2) :
 Int) →
 (0 : Int) <
 (↑(nearTo
 (madeF
 x
 (60 :
 Int))
 (levelsF
 (madeF
 x
 (60 :
 Int)))
 (↑x_1 :
 Int).toNat
 x_2) :
 Int) ∧
 (0 : Int) <
 (↑(nearTo
 (madeF
 x
 (60 :
 Int))
 (levelsF
 (madeF
 x
 (60 :
 Int)))
 (↑x_1 :
 Int).toNat
 x_2) :
 Int) ∧
 false =
 true) ∧
 (¬(0 : Int) <
 (↑(nearTo
 (madeF
 x
 (60 :
 Int))
 (levelsF
 (madeF
 x
 (60 :
 Int)))
 (↑x_1 :
 Int).toNat
 x_2) :
 Int) →
 ¬(0 : Int) <
 (↑(nearTo
 (madeF
 x
 (60 :
 Int))
 (levelsF
 (madeF
 x
 (60 :
 Int)))
 (↑x_1 :
 Int).toNat
 x_2) :
 Int) ∧
 ¬(0 : Int) <
 (↑(nearTo
 (madeF
 x
 (60 :
 Int))
 (levelsF
 (madeF
 x
 (60 :
 Int)))
 (↑x_1 :
 Int).toNat
 x_2) :
 Int) ∧
 ((0 : Int) ≤
 (↑x_1 :
 Int) ∧
 (↑x_1 :
 Int) <
 (↑(guardF
 (madeF
 x
 (60 :
 Int))
 trotF).fst.length :
 Int)) ∧
 (¬(guardF
 (madeF
 x
 (60 :
 Int))
 trotF).fst.getD
 (↑x_1 :
 Int).toNat
 (0 :
 Int) =
 (0 :
 Int) →
 ¬(guardF
 (madeF
 x
 (60 :
 Int))
 trotF).fst.getD
 (↑x_1 :
 Int).toNat
 (0 :
 Int) =
 (0 :
 Int) ∧
 ¬(guardF
 (madeF
 x
 (60 :
 Int))
 trotF).fst.getD
 (↑x_1 :
 Int).toNat
 (0 :
 Int) =
 (0 :
 Int) ∧
 ¬(guardF
 (madeF
 x
 (60 :
 Int))
 trotF).fst.getD
 (↑x_1 :
 Int).toNat
 (0 :
 Int) =
 (0 :
 Int) ∧
 ¬(guardF
 (madeF
 x
 (60 :
 Int))
 trotF).fst.getD
 (↑x_1 :
 Int).toNat
 (0 :
 Int) =
 (0 :
 Int) ∧
 false =
 true) ∧
 (¬¬(guardF
 (madeF
 x
 (60 :
 Int))
 trotF).fst.getD
 (↑x_1 :
 Int).toNat
 (0 :
 Int) =
 (0 :
 Int) →
 ¬¬(guardF
 (madeF
 x
 (60 :
 Int))
 trotF).fst.getD
 (↑x_1 :
 Int).toNat
 (0 :
 Int) =
 (0 :
 Int) ∧
 ¬¬(guardF
 (madeF
 x
 (60 :
 Int))
 trotF).fst.getD
 (↑x_1 :
 Int).toNat
 (0 :
 Int) =
 (0 :
 Int) ∧
 ¬¬(guardF
 (madeF
 x
 (60 :
 Int))
 trotF).fst.getD
 (↑x_1 :
 Int).toNat
 (0 :
 Int) =
 (0 :
 Int) ∧
 ¬¬(guardF
 (madeF
 x
 (60 :
 Int))
 trotF).fst.getD
 (↑x_1 :
 Int).toNat
 (0 :
 Int) =
 (0 :
 Int) ∧
 Fits
 IntKind.i64
 ((↑x_1 :
 Int) +
 (1 :
 Int)) ∧
 ∃
 (x'
 :
 Nat),
 (x' ≤
 (madeF
 x
 (60 :
 Int)).length ∧
 True) ∧
 (madeF
 x
 (60 :
 Int)).length -
 x' <
 (madeF
 x
 (60 :
 Int)).length -
 x_1 ∧
 True ∧
 (↑x_1 :
 Int) +
 (1 :
 Int) =
 (↑x' :
 Int) ∧
 (depthP
 (madeF
 x
 (60 :
 Int))).fst =
 (depthP
 (madeF
 x
 (60 :
 Int))).fst ∧
 (guardF
 (madeF
 x
 (60 :
 Int))
 levelsF).fst =
 (guardF
 (madeF
 x
 (60 :
 Int))
 levelsF).fst ∧
 (guardF
 (madeF
 x
 (60 :
 Int))
 trotF).fst =
 (guardF
 (madeF
 x
 (60 :
 Int))
 trotF).fst ∧
 madeF
 x
 (60 :
 Int) =
 madeF
 x
 (60 :
 Int) ∧
 True))) ∧
 (¬(guardF
 (madeF x
 (60 :
 Int))
 levelsF).fst.getD
 (↑x_1 : Int).toNat
 (0 : Int) =
 (1 : Int) →
 ¬(guardF
 (madeF x
 (60 :
 Int))
 levelsF).fst.getD
 (↑x_1 :
 Int).toNat
 (0 : Int) =
 (1 : Int) ∧
 ¬(guardF
 (madeF x
 (60 :
 Int))
 levelsF).fst.getD
 (↑x_1 :
 Int).toNat
 (0 : Int) =
 (1 : Int) ∧
 Fits IntKind.i64
 ((↑x_1 : Int) +
 (1 : Int)) ∧
 ∃ (x' : Nat),
 (x' ≤
 (madeF x
 (60 :
 Int)).length ∧
 True) ∧
 (madeF x
 (60 :
 Int)).length -
 x' <
 (madeF x
 (60 :
 Int)).length -
 x_1 ∧
 True ∧
 (↑x_1 :
 Int) +
 (1 :
 Int) =
 (↑x' :
 Int) ∧
 (depthP
 (madeF
 x
 (60 :
 Int))).fst =
 (depthP
 (madeF
 x
 (60 :
 Int))).fst ∧
 (guardF
 (madeF
 x
 (60 :
 Int))
 levelsF).fst =
 (guardF
 (madeF
 x
 (60 :
 Int))
 levelsF).fst ∧
 (guardF
 (madeF
 x
 (60 :
 Int))
 trotF).fst =
 (guardF
 (madeF
 x
 (60 :
 Int))
 trotF).fst ∧
 madeF
 x
 (60 :
 Int) =
 madeF
 x
 (60 :
 Int) ∧
 True)))))))) ∧
 (¬(↑x_1 : Int) < (↑(madeF x (60 : Int)).length : Int) →
 ¬(↑x_1 : Int) < (↑(madeF x (60 : Int)).length : Int) ∧ true = true)))))))) := by
 kernel_rfl

theorem g7_eq (x : List (Int × Int)) : g7 x = (
 ((∀ (q : Int × Int), q ∈ x → ((0 : Int) ≤ q.fst ∧ q.fst ≤ (65535 : Int)) ∧ (0 : Int) ≤ q.snd ∧ q.snd ≤ (65535 : Int)) ∧ (0 : Int) ≤ (60 : Int) ∧ (60 : Int) ≤ (1000 : Int)) ∧
 (madeF x (60 : Int)).length ≤ (1000 : Nat) ∧
 (madeF x (60 : Int)).length ≤ (1000 : Nat) ∧
 ((guardF (madeF x (60 : Int)) firstF).fst.length ≤ (100 : Nat) ∧ ∀ (x_1 : Int), x_1 ∈ (guardF (madeF x (60 : Int)) firstF).fst → (0 : Int) ≤ x_1 ∧ x_1 ≤ (1000 : Int)) ∧
 ((guardF (madeF x (60 : Int)) firstF).snd = (0 : Int) →
 (guardF (madeF x (60 : Int)) firstF).snd = (0 : Int) ∧
 (guardF (madeF x (60 : Int)) firstF).snd = (0 : Int) ∧
 ((depthP (madeF x (60 : Int))).snd = (0 : Int) →
 (depthP (madeF x (60 : Int))).snd = (0 : Int) ∧
 (depthP (madeF x (60 : Int))).snd = (0 : Int) ∧
 (depthP (madeF x (60 : Int))).snd = (0 : Int) ∧
 ((↑(guardF (madeF x (60 : Int)) firstF).fst.length : Int) = (↑(madeF x (60 : Int)).length : Int) →
 (↑(guardF (madeF x (60 : Int)) firstF).fst.length : Int) = (↑(madeF x (60 : Int)).length : Int) ∧
 (↑(guardF (madeF x (60 : Int)) firstF).fst.length : Int) = (↑(madeF x (60 : Int)).length : Int) ∧
 (↑(guardF (madeF x (60 : Int)) firstF).fst.length : Int) = (↑(madeF x (60 : Int)).length : Int) ∧
 ((mostF (guardF (madeF x (60 : Int)) firstF).fst).fst = (mostF (guardF (madeF x (60 : Int)) firstF).fst).snd →
 (mostF (guardF (madeF x (60 : Int)) firstF).fst).fst = (mostF (guardF (madeF x (60 : Int)) firstF).fst).snd ∧
 (mostF (guardF (madeF x (60 : Int)) firstF).fst).fst = (mostF (guardF (madeF x (60 : Int)) firstF).fst).snd ∧
 (mostF (guardF (madeF x (60 : Int)) firstF).fst).fst = (mostF (guardF (madeF x (60 : Int)) firstF).fst).snd ∧
 Fits IntKind.i64 ((8 : Int) * (depthP (madeF x (60 : Int))).fst) ∧
 ((mostF (guardF (madeF x (60 : Int)) firstF).fst).fst ≤ (8 : Int) * (depthP (madeF x (60 : Int))).fst →
 (mostF (guardF (madeF x (60 : Int)) firstF).fst).fst ≤ (8 : Int) * (depthP (madeF x (60 : Int))).fst ∧
 (mostF (guardF (madeF x (60 : Int)) firstF).fst).fst ≤ (8 : Int) * (depthP (madeF x (60 : Int))).fst ∧
 (mostF (guardF (madeF x (60 : Int)) firstF).fst).fst ≤ (8 : Int) * (depthP (madeF x (60 : Int))).fst ∧
 ((depthP (madeF x (60 : Int))).fst ≤ (mostF (guardF (madeF x (60 : Int)) firstF).fst).fst →
 (depthP (madeF x (60 : Int))).fst ≤ (mostF (guardF (madeF x (60 : Int)) firstF).fst).fst ∧
 (depthP (madeF x (60 : Int))).fst ≤ (mostF (guardF (madeF x (60 : Int)) firstF).fst).fst ∧
 (depthP (madeF x (60 : Int))).fst ≤ (mostF (guardF (madeF x (60 : Int)) firstF).fst).fst ∧ True ∧ true = true) ∧
 (¬(depthP (madeF x (60 : Int))).fst ≤ (mostF (guardF (madeF x (60 : Int)) firstF).fst).fst →
 ¬(depthP (madeF x (60 : Int))).fst ≤ (mostF (guardF (madeF x (60 : Int)) firstF).fst).fst ∧
 ¬(depthP (madeF x (60 : Int))).fst ≤ (mostF (guardF (madeF x (60 : Int)) firstF).fst).fst ∧
 ¬(depthP (madeF x (60 : Int))).fst ≤ (mostF (guardF (madeF x (60 : Int)) firstF).fst).fst ∧ false = true)) ∧
 (¬(mostF (guardF (madeF x (60 : Int)) firstF).fst).fst ≤ (8 : Int) * (depthP (madeF x (60 : Int))).fst →
 ¬(mostF (guardF (madeF x (60 : Int)) firstF).fst).fst ≤ (8 : Int) * (depthP (madeF x (60 : Int))).fst ∧
 ¬(mostF (guardF (madeF x (60 : Int)) firstF).fst).fst ≤ (8 : Int) * (depthP (madeF x (60 : Int))).fst ∧
 ¬(mostF (guardF (madeF x (60 : Int)) firstF).fst).fst ≤ (8 : Int) * (depthP (madeF x (60 : Int))).fst ∧ false = true)) ∧
 (¬(mostF (guardF (madeF x (60 : Int)) firstF).fst).fst = (mostF (guardF (madeF x (60 : Int)) firstF).fst).snd →
 ¬(mostF (guardF (madeF x (60 : Int)) firstF).fst).fst = (mostF (guardF (madeF x (60 : Int)) firstF).fst).snd ∧
 ¬(mostF (guardF (madeF x (60 : Int)) firstF).fst).fst = (mostF (guardF (madeF x (60 : Int)) firstF).fst).snd ∧
 ¬(mostF (guardF (madeF x (60 : Int)) firstF).fst).fst = (mostF (guardF (madeF x (60 : Int)) firstF).fst).snd ∧ false = true)) ∧
 (¬(↑(guardF (madeF x (60 : Int)) firstF).fst.length : Int) = (↑(madeF x (60 : Int)).length : Int) →
 ¬(↑(guardF (madeF x (60 : Int)) firstF).fst.length : Int) = (↑(madeF x (60 : Int)).length : Int) ∧
 ¬(↑(guardF (madeF x (60 : Int)) firstF).fst.length : Int) = (↑(madeF x (60 : Int)).length : Int) ∧
 ¬(↑(guardF (madeF x (60 : Int)) firstF).fst.length : Int) = (↑(madeF x (60 : Int)).length : Int) ∧ false = true)) ∧
 (¬(depthP (madeF x (60 : Int))).snd = (0 : Int) →
 ¬(depthP (madeF x (60 : Int))).snd = (0 : Int) ∧
 ¬(depthP (madeF x (60 : Int))).snd = (0 : Int) ∧ ¬(depthP (madeF x (60 : Int))).snd = (0 : Int) ∧ false = true)) ∧
 (¬(guardF (madeF x (60 : Int)) firstF).snd = (0 : Int) →
 ¬(guardF (madeF x (60 : Int)) firstF).snd = (0 : Int) ∧ ¬(guardF (madeF x (60 : Int)) firstF).snd = (0 : Int) ∧ false = true)) := by
 kernel_rfl

theorem g8_eq (x : List (Int × Int)) (m : Int) : g8 x m = (
 ((∀ (q : Int × Int), q ∈ x → ((0 : Int) ≤ q.fst ∧ q.fst ≤ (65535 : Int)) ∧ (0 : Int) ≤ q.snd ∧ q.snd ≤ (65535 : Int)) ∧ (0 : Int) ≤ (60 : Int) ∧ (60 : Int) ≤ (1000 : Int)) ∧
 Fits IntKind.i64 m ∧
 Fits IntKind.i64 ((↑(madeF x (60 : Int)).length : Int) + (1 : Int)) ∧
 ((0 : Int) ≤ m ∧ (0 : Int) < (↑(madeF x (60 : Int)).length : Int) + (1 : Int)) ∧
 (madeF x (60 : Int)).length ≤ (1000 : Nat) ∧
 (madeF x (60 : Int)).length ≤ (1000 : Nat) ∧
 (madeF x (60 : Int)).length ≤ (1000 : Nat) ∧
 ((0 : Int) ≤ (↑(0 : Nat) : Int) ∧
 (↑(0 : Nat) : Int) ≤ m % ((↑(madeF x (60 : Int)).length : Int) + (1 : Int)) ∧
 m % ((↑(madeF x (60 : Int)).length : Int) + (1 : Int)) ≤ (↑(madeF x (60 : Int)).length : Int)) ∧
 (m % ((↑(madeF x (60 : Int)).length : Int) + (1 : Int)) = m % ((↑(madeF x (60 : Int)).length : Int) + (1 : Int)) ∧ true = true) ∧
 (List.drop (↑(0 : Nat) : Int).toNat (List.take (m % ((↑(madeF x (60 : Int)).length : Int) + (1 : Int))).toNat (madeF x (60 : Int)))).length ≤ (1000 : Nat) ∧
 ((0 : Int) ≤ (↑(0 : Nat) : Int) ∧
 (↑(0 : Nat) : Int) ≤ m % ((↑(madeF x (60 : Int)).length : Int) + (1 : Int)) ∧
 m % ((↑(madeF x (60 : Int)).length : Int) + (1 : Int)) ≤ (↑(madeF x (60 : Int)).length : Int)) ∧
 (m % ((↑(madeF x (60 : Int)).length : Int) + (1 : Int)) = m % ((↑(madeF x (60 : Int)).length : Int) + (1 : Int)) ∧ true = true) ∧
 (List.drop (↑(0 : Nat) : Int).toNat (List.take (m % ((↑(madeF x (60 : Int)).length : Int) + (1 : Int))).toNat (madeF x (60 : Int)))).length ≤ (1000 : Nat) ∧
 ((0 : Int) ≤ (↑(0 : Nat) : Int) ∧
 (↑(0 : Nat) : Int) ≤ m % ((↑(madeF x (60 : Int)).length : Int) + (1 : Int)) ∧
 m % ((↑(madeF x (60 : Int)).length : Int) + (1 : Int)) ≤ (↑(madeF x (60 : Int)).length : Int)) ∧
 (m % ((↑(madeF x (60 : Int)).length : Int) + (1 : Int)) = m % ((↑(madeF x (60 : Int)).length : Int) + (1 : Int)) ∧ true = true) ∧
 (List.drop (↑(0 : Nat) : Int).toNat (List.take (m % ((↑(madeF x (60 : Int)).length : Int) + (1 : Int))).toNat (madeF x (60 : Int)))).length ≤
 (1000 : Nat) ∧
 ((guardF (madeF x (60 : Int)) firstF).snd = (0 : Int) →
 (guardF (madeF x (60 : Int)) firstF).snd = (0 : Int) ∧
 (guardF (madeF x (60 : Int)) firstF).snd = (0 : Int) ∧
 ((guardF (madeF x (60 : Int)) trotF).snd = (0 : Int) →
 (guardF (madeF x (60 : Int)) trotF).snd = (0 : Int) ∧
 (guardF (madeF x (60 : Int)) trotF).snd = (0 : Int) ∧
 (guardF (madeF x (60 : Int)) trotF).snd = (0 : Int) ∧
 ((guardF (madeF x (60 : Int)) levelsF).snd = (0 : Int) →
 (guardF (madeF x (60 : Int)) levelsF).snd = (0 : Int) ∧
 (guardF (madeF x (60 : Int)) levelsF).snd = (0 : Int) ∧
 (guardF (madeF x (60 : Int)) levelsF).snd = (0 : Int) ∧
 ((guardF
 (List.drop (↑(0 : Nat) : Int).toNat
 (List.take (m % ((↑(madeF x (60 : Int)).length : Int) + (1 : Int))).toNat (madeF x (60 : Int))))
 firstF).snd =
 (0 : Int) →
 (guardF
 (List.drop (↑(0 : Nat) : Int).toNat
 (List.take (m % ((↑(madeF x (60 : Int)).length : Int) + (1 : Int))).toNat (madeF x (60 : Int))))
 firstF).snd =
 (0 : Int) ∧
 (guardF
 (List.drop (↑(0 : Nat) : Int).toNat
 (List.take (m % ((↑(madeF x (60 : Int)).length : Int) + (1 : Int))).toNat (madeF x (60 : Int))))
 firstF).snd =
 (0 : Int) ∧
 (guardF
 (List.drop (↑(0 : Nat) : Int).toNat
 (List.take (m % ((↑(madeF x (60 : Int)).length : Int) + (1 : Int))).toNat (madeF x (60 : Int))))
 firstF).snd =
 (0 : Int) ∧
 ((guardF
 (List.drop (↑(0 : Nat) : Int).toNat
 (List.take (m % ((↑(madeF x (60 : Int)).length : Int) + (1 : Int))).toNat (madeF x (60 : Int))))
 trotF).snd =
 (0 : Int) →
 (guardF
 (List.drop (↑(0 : Nat) : Int).toNat
 (List.take (m % ((↑(madeF x (60 : Int)).length : Int) + (1 : Int))).toNat (madeF x (60 : Int))))
 trotF).snd =
 (0 : Int) ∧
 (guardF
 (List.drop (↑(0 : Nat) : Int).toNat
 (List.take (m % ((↑(madeF x (60 : Int)).length : Int) + (1 : Int))).toNat
 (madeF x (60 : Int))))
 trotF).snd =
 (0 : Int) ∧
 (guardF
 (List.drop (↑(0 : Nat) : Int).toNat
 (List.take (m % ((↑(madeF x (60 : Int)).length : Int) + (1 : Int))).toNat
 (madeF x (60 : Int))))
 trotF).snd =
 (0 : Int) ∧
 ((guardF
 (List.drop (↑(0 : Nat) : Int).toNat
 (List.take (m % ((↑(madeF x (60 : Int)).length : Int) + (1 : Int))).toNat
 (madeF x (60 : Int))))
 levelsF).snd =
 (0 : Int) →
 (guardF
 (List.drop (↑(0 : Nat) : Int).toNat
 (List.take (m % ((↑(madeF x (60 : Int)).length : Int) + (1 : Int))).toNat
 (madeF x (60 : Int))))
 levelsF).snd =
 (0 : Int) ∧
 (guardF
 (List.drop (↑(0 : Nat) : Int).toNat
 (List.take (m % ((↑(madeF x (60 : Int)).length : Int) + (1 : Int))).toNat
 (madeF x (60 : Int))))
 levelsF).snd =
 (0 : Int) ∧
 (guardF
 (List.drop (↑(0 : Nat) : Int).toNat
 (List.take (m % ((↑(madeF x (60 : Int)).length : Int) + (1 : Int))).toNat
 (madeF x (60 : Int))))
 levelsF).snd =
 (0 : Int) ∧
 ((↑(guardF (madeF x (60 : Int)) firstF).fst.length : Int) =
 (↑(madeF x (60 : Int)).length : Int) →
 (↑(guardF (madeF x (60 : Int)) firstF).fst.length : Int) =
 (↑(madeF x (60 : Int)).length : Int) ∧
 (↑(guardF (madeF x (60 : Int)) firstF).fst.length : Int) =
 (↑(madeF x (60 : Int)).length : Int) ∧
 (↑(guardF (madeF x (60 : Int)) firstF).fst.length : Int) =
 (↑(madeF x (60 : Int)).length : Int) ∧
 ((↑(guardF (madeF x (60 : Int)) trotF).fst.length : Int) =
 (↑(madeF x (60 : Int)).length : Int) →
 (↑(guardF (madeF x (60 : Int)) trotF).fst.length : Int) =
 (↑(madeF x (60 : Int)).length : Int) ∧
 (↑(guardF (madeF x (60 : Int)) trotF).fst.length : Int) =
 (↑(madeF x (60 : Int)).length : Int) ∧
 (↑(guardF (madeF x (60 : Int)) trotF).fst.length : Int) =
 (↑(madeF x (60 : Int)).length : Int) ∧
 ((↑(guardF (madeF x (60 : Int)) levelsF).fst.length : Int) =
 (↑(madeF x (60 : Int)).length : Int) →
 (↑(guardF (madeF x (60 : Int)) levelsF).fst.length : Int) =
 (↑(madeF x (60 : Int)).length : Int) ∧
 (↑(guardF (madeF x (60 : Int)) levelsF).fst.length : Int) =
 (↑(madeF x (60 : Int)).length : Int) ∧
 (↑(guardF (madeF x (60 : Int)) levelsF).fst.length : Int) =
 (↑(madeF x (60 : Int)).length : Int) ∧
 ((0 : Int) ≤ (↑(0 : Nat) : Int) ∧
 (↑(0 : Nat) : Int) ≤
 m %
 ((↑(madeF x (60 : Int)).length : Int) +
 (1 : Int)) ∧
 m %
 ((↑(madeF x (60 : Int)).length : Int) +
 (1 : Int)) ≤
 (↑(guardF (madeF x (60 : Int)) firstF).fst.length :
 Int)) ∧
 (m % ((↑(madeF x (60 : Int)).length : Int) + (1 : Int)) =
 m %
 ((↑(madeF x (60 : Int)).length : Int) +
 (1 : Int)) ∧
 true = true) ∧
 ((List.drop (↑(0 : Nat) : Int).toNat
 (List.take
 (m %
 ((↑(madeF x (60 : Int)).length : Int) +
 (1 : Int))).toNat
 (guardF (madeF x (60 : Int))
 firstF).fst)).length ≤
 (1000 : Nat) ∧
 (guardF
 (List.drop (↑(0 : Nat) : Int).toNat
 (List.take
 (m %
 ((↑(madeF x (60 : Int)).length :
 Int) +
 (1 : Int))).toNat
 (madeF x (60 : Int))))
 firstF).fst.length ≤
 (1000 : Nat)) ∧
 (decide
 (List.drop (↑(0 : Nat) : Int).toNat
 (List.take
 (m %
 ((↑(madeF x (60 : Int)).length :
 Int) +
 (1 : Int))).toNat
 (guardF (madeF x (60 : Int))
 firstF).fst) =
 (guardF
 (List.drop (↑(0 : Nat) : Int).toNat
 (List.take
 (m %
 ((↑(madeF x (60 : Int)).length :
 Int) +
 (1 : Int))).toNat
 (madeF x (60 : Int))))
 firstF).fst) =
 true →
 decide
 (List.drop (↑(0 : Nat) : Int).toNat
 (List.take
 (m %
 ((↑(madeF x (60 : Int)).length :
 Int) +
 (1 : Int))).toNat
 (guardF (madeF x (60 : Int))
 firstF).fst) =
 (guardF
 (List.drop (↑(0 : Nat) : Int).toNat
 (List.take
 (m %
 ((↑(madeF x
 (60 : Int)).length :
 Int) +
 (1 : Int))).toNat
 (madeF x (60 : Int))))
 firstF).fst) =
 true ∧
 decide
 (List.drop (↑(0 : Nat) : Int).toNat
 (List.take
 (m %
 ((↑(madeF x (60 : Int)).length :
 Int) +
 (1 : Int))).toNat
 (guardF (madeF x (60 : Int))
 firstF).fst) =
 (guardF
 (List.drop (↑(0 : Nat) : Int).toNat
 (List.take
 (m %
 ((↑(madeF x
 (60 :
 Int)).length :
 Int) +
 (1 : Int))).toNat
 (madeF x (60 : Int))))
 firstF).fst) =
 true ∧
 decide
 (List.drop (↑(0 : Nat) : Int).toNat
 (List.take
 (m %
 ((↑(madeF x
 (60 : Int)).length :
 Int) +
 (1 : Int))).toNat
 (guardF (madeF x (60 : Int))
 firstF).fst) =
 (guardF
 (List.drop
 (↑(0 : Nat) : Int).toNat
 (List.take
 (m %
 ((↑(madeF x
 (60 :
 Int)).length :
 Int) +
 (1 : Int))).toNat
 (madeF x (60 : Int))))
 firstF).fst) =
 true ∧
 ((0 : Int) ≤ (↑(0 : Nat) : Int) ∧
 (↑(0 : Nat) : Int) ≤
 m %
 ((↑(madeF x (60 : Int)).length :
 Int) +
 (1 : Int)) ∧
 m %
 ((↑(madeF x (60 : Int)).length :
 Int) +
 (1 : Int)) ≤
 (↑(guardF (madeF x (60 : Int))
 trotF).fst.length :
 Int)) ∧
 (m %
 ((↑(madeF x (60 : Int)).length :
 Int) +
 (1 : Int)) =
 m %
 ((↑(madeF x (60 : Int)).length :
 Int) +
 (1 : Int)) ∧
 true = true) ∧
 ((List.drop (↑(0 : Nat) : Int).toNat
 (List.take
 (m %
 ((↑(madeF x
 (60 :
 Int)).length :
 Int) +
 (1 : Int))).toNat
 (guardF (madeF x (60 : Int))
 trotF).fst)).length ≤
 (1000 : Nat) ∧
 (guardF
 (List.drop
 (↑(0 : Nat) : Int).toNat
 (List.take
 (m %
 ((↑(madeF x
 (60 :
 Int)).length :
 Int) +
 (1 : Int))).toNat
 (madeF x (60 : Int))))
 trotF).fst.length ≤
 (1000 : Nat)) ∧
 (decide
 (List.drop
 (↑(0 : Nat) : Int).toNat
 (List.take
 (m %
 ((↑(madeF x
 (60 :
 Int)).length :
 Int) +
 (1 : Int))).toNat
 (guardF
 (madeF x (60 : Int))
 trotF).fst) =
 (guardF
 (List.drop
 (↑(0 : Nat) :
 Int).toNat
 (List.take
 (m %
 ((↑(madeF x
 (60 :
 Int)).length :
 Int) +
 (1 :
 Int))).toNat
 (madeF x
 (60 : Int))))
 trotF).fst) =
 true →
 decide
 (List.drop
 (↑(0 : Nat) : Int).toNat
 (List.take
 (m %
 ((↑(madeF x
 (60 :
 Int)).length :
 Int) +
 (1 :
 Int))).toNat
 (guardF
 (madeF x
 (60 : Int))
 trotF).fst) =
 (guardF
 (List.drop
 (↑(0 : Nat) :
 Int).toNat
 (List.take
 (m %
 ((↑(madeF x
 (60 :
 Int)).length :
 Int) +
 (1 :
 Int))).toNat
 (madeF x
 (60 : Int))))
 trotF).fst) =
 true ∧
 decide
 (List.drop
 (↑(0 : Nat) :
 Int).toNat
 (List.take
 (m %
 ((↑(madeF x
 (60 :
 Int)).length :
 Int) +
 (1 :
 Int))).toNat
 (guardF
 (madeF x
 (60 : Int))
 trotF).fst) =
 (guardF
 (List.drop
 (↑(0 : Nat) :
 Int).toNat
 (List.take
 (m %
 ((↑(madeF x
 (60 :
 Int)).length :
 Int) +
 (1 :
 Int))).toNat
 (madeF x
 (60 : Int))))
 trotF).fst) =
 true ∧
 decide
 (List.drop
 (↑(0 : Nat) :
 Int).toNat
 (List.take
 (m %
 ((↑(madeF x
 (60 :
 Int)).length :
 Int) +
 (1 :
 Int))).toNat
 (guardF
 (madeF x
 (60 : Int))
 trotF).fst) =
 (guardF
 (List.drop
 (↑(0 : Nat) :
 Int).toNat
 (List.take
 (m %
 ((↑(madeF
 x
 (60 :
 Int)).length :
 Int) +
 (1 :
 Int))).toNat
 (madeF x
 (60 :
 Int))))
 trotF).fst) =
 true ∧
 ((0 : Int) ≤
 (↑(0 : Nat) : Int) ∧
 (↑(0 : Nat) : Int) ≤
 m %
 ((↑(madeF x
 (60 :
 Int)).length :
 Int) +
 (1 : Int)) ∧
 m %
 ((↑(madeF x
 (60 :
 Int)).length :
 Int) +
 (1 : Int)) ≤
 (↑(guardF
 (madeF x
 (60 :
 Int))
 levelsF).fst.length :
 Int)) ∧
 (m %
 ((↑(madeF x
 (60 :
 Int)).length :
 Int) +
 (1 : Int)) =
 m %
 ((↑(madeF x
 (60 :
 Int)).length :
 Int) +
 (1 : Int)) ∧
 true = true) ∧
 ((List.drop
 (↑(0 : Nat) :
 Int).toNat
 (List.take
 (m %
 ((↑(madeF
 x
 (60 :
 Int)).length :
 Int) +
 (1 :
 Int))).toNat
 (guardF
 (madeF x
 (60 :
 Int))
 levelsF).fst)).length ≤
 (1000 : Nat) ∧
 (guardF
 (List.drop
 (↑(0 :
 Nat) :
 Int).toNat
 (List.take
 (m %
 ((↑(madeF
 x
 (60 :
 Int)).length :
 Int) +
 (1 :
 Int))).toNat
 (madeF x
 (60 :
 Int))))
 levelsF).fst.length ≤
 (1000 : Nat)) ∧
 (decide
 (List.drop
 (↑(0 :
 Nat) :
 Int).toNat
 (List.take
 (m %
 ((↑(madeF
 x
 (60 :
 Int)).length :
 Int) +
 (1 :
 Int))).toNat
 (guardF
 (madeF
 x
 (60 :
 Int))
 levelsF).fst) =
 (guardF
 (List.drop
 (↑(0 :
 Nat) :
 Int).toNat
 (List.take
 (m %
 ((↑(madeF
 x
 (60 :
 Int)).length :
 Int) +
 (1 :
 Int))).toNat
 (madeF
 x
 (60 :
 Int))))
 levelsF).fst) =
 true →
 decide
 (List.drop
 (↑(0 :
 Nat) :
 Int).toNat
 (List.take
 (m %
 ((↑(madeF
 x
 (60 :
 Int)).length :
 Int) +
 (1 :
 Int))).toNat
 (guardF
 (madeF
 x
 (60 :
 Int))
 levelsF).fst) =
 (guardF
 (List.drop
 (↑(0 :
 Nat) :
 Int).toNat
 (List.take
 (m %
 ((↑(madeF
 x
 (60 :
 Int)).length :
 Int) +
 (1 :
 Int))).toNat
 (madeF
 x
 (60 :
 Int))))
 levelsF).fst) =
 true ∧
 decide
 (List.drop
 (↑(0 :
 Nat) :
 Int).toNat
 (List.take
 (m %
 ((↑(madeF
 x
 (60 :
 Int)).length :
 Int) +
 (1 :
 Int))).toNat
 (guardF
 (madeF
 x
 (60 :
 Int))
 levelsF).fst) =
 (guardF
 (List.drop
 (↑(0 :
 Nat) :
 Int).toNat
 (List.take
 (m %
 ((↑(madeF
 x
 (60 :
 Int)).length :
 Int) +
 (1 :
 Int))).toNat
 (madeF
 x
 (60 :
 Int))))
 levelsF).fst) =
 true ∧
 decide
 (List.drop
 (↑(0 :
 Nat) :
 Int).toNat
 (List.take
 (m %
 ((↑(madeF
 x
 (60 :
 Int)).length :
 Int) +
 (1 :
 Int))).toNat
 (guardF
 (madeF
 x
 (60 :
 Int))
 levelsF).fst) =
 (guardF
 (List.drop
 (↑(0 :
 Nat) :
 Int).toNat
 (List.take
 (m %
 ((↑(madeF
 x
 (60 :
 Int)).length :
 Int) +
 (1 :
 Int))).toNat
 (madeF
 x
 (60 :
 Int))))
 levelsF).fst) =
 true ∧
 True ∧
 true =
 true) ∧
 (decide
 (List.drop
 (↑(0 :
 Nat) :
 Int).toNat
 (List.take
 (m %
 ((↑(madeF
 x
 (60 :
 Int)).length :
 Int) +
 (1 :
 Int))).toNat
 (guardF
 (madeF
 x
 (60 :
 Int))
 levelsF).fst) =
 (guardF
 (List.drop
 (↑(0 :
 Nat) :
 Int).toNat
 (List.take
 (m %
 ((↑(madeF
 x
 (60 :
 Int)).length :
 Int) +
 (1 :
 Int))).toNat
 (madeF
 x
 (60 :
 Int))))
 levelsF).fst) =
 false →
 decide
 (List.drop
 (↑(0 :
 Nat) :
 Int).toNat
 (List.take
 (m %
 ((↑(madeF
 x
 (60 :
 Int)).length :
 Int) +
 (1 :
 Int))).toNat
 (guardF
 (madeF
 x
 (60 :
 Int))
 levelsF).fst) =
 (guardF
 (List.drop
 (↑(0 :
 Nat) :
 Int).toNat
 (List.take
 (m %
 ((↑(madeF
 x
 (60 :
 Int)).length :
 Int) +
 (1 :
 Int))).toNat
 (madeF
 x
 (60 :
 Int))))
 levelsF).fst) =
 false ∧
 decide
 (List.drop
 (↑(0 :
 Nat) :
 Int).toNat
 (List.take
 (m %
 ((↑(madeF
 x
 (60 :
 Int)).length :
 Int) +
 (1 :
 Int))).toNat
 (guardF
 (madeF
 x
 (60 :
 Int))
 levelsF).fst) =
 (guardF
 (List.drop
 (↑(0 :
 Nat) :
 Int).toNat
 (List.take
 (m %
 ((↑(madeF
 x
 (60 :
 Int)).length :
 Int) +
 (1 :
 Int))).toNat
 (madeF
 x
 (60 :
 Int))))
 levelsF).fst) =
 false ∧
 decide
 (List.drop
 (↑(0 :
 Nat) :
 Int).toNat
 (List.take
 (m %
 ((↑(madeF
 x
 (60 :
 Int)).length :
 Int) +
 (1 :
 Int))).toNat
 (guardF
 (madeF
 x
 (60 :
 Int))
 levelsF).fst) =
 (guardF
 (List.drop
 (↑(0 :
 Nat) :
 Int).toNat
 (List.take
 (m %
 ((↑(madeF
 x
 (60 :
 Int)).length :
 Int) +
 (1 :
 Int))).toNat
 (madeF
 x
 (60 :
 Int))))
 levelsF).fst) =
 false ∧
 false =
 true)) ∧
 (decide
 (List.drop
 (↑(0 : Nat) : Int).toNat
 (List.take
 (m %
 ((↑(madeF x
 (60 :
 Int)).length :
 Int) +
 (1 : Int))).toNat
 (guardF
 (madeF x (60 : Int))
 trotF).fst) =
 (guardF
 (List.drop
 (↑(0 : Nat) :
 Int).toNat
 (List.take
 (m %
 ((↑(madeF x
 (60 :
 Int)).length :
 Int) +
 (1 :
 Int))).toNat
 (madeF x
 (60 : Int))))
 trotF).fst) =
 false →
 decide
 (List.drop
 (↑(0 : Nat) : Int).toNat
 (List.take
 (m %
 ((↑(madeF x
 (60 :
 Int)).length :
 Int) +
 (1 :
 Int))).toNat
 (guardF
 (madeF x
 (60 : Int))
 trotF).fst) =
 (guardF
 (List.drop
 (↑(0 : Nat) :
 Int).toNat
 (List.take
 (m %
 ((↑(madeF x
 (60 :
 Int)).length :
 Int) +
 (1 :
 Int))).toNat
 (madeF x
 (60 : Int))))
 trotF).fst) =
 false ∧
 decide
 (List.drop
 (↑(0 : Nat) :
 Int).toNat
 (List.take
 (m %
 ((↑(madeF x
 (60 :
 Int)).length :
 Int) +
 (1 :
 Int))).toNat
 (guardF
 (madeF x
 (60 : Int))
 trotF).fst) =
 (guardF
 (List.drop
 (↑(0 : Nat) :
 Int).toNat
 (List.take
 (m %
 ((↑(madeF x
 (60 :
 Int)).length :
 Int) +
 (1 :
 Int))).toNat
 (madeF x
 (60 : Int))))
 trotF).fst) =
 false ∧
 decide
 (List.drop
 (↑(0 : Nat) :
 Int).toNat
 (List.take
 (m %
 ((↑(madeF x
 (60 :
 Int)).length :
 Int) +
 (1 :
 Int))).toNat
 (guardF
 (madeF x
 (60 : Int))
 trotF).fst) =
 (guardF
 (List.drop
 (↑(0 : Nat) :
 Int).toNat
 (List.take
 (m %
 ((↑(madeF
 x
 (60 :
 Int)).length :
 Int) +
 (1 :
 Int))).toNat
 (madeF x
 (60 :
 Int))))
 trotF).fst) =
 false ∧
 false = true)) ∧
 (decide
 (List.drop (↑(0 : Nat) : Int).toNat
 (List.take
 (m %
 ((↑(madeF x (60 : Int)).length :
 Int) +
 (1 : Int))).toNat
 (guardF (madeF x (60 : Int))
 firstF).fst) =
 (guardF
 (List.drop (↑(0 : Nat) : Int).toNat
 (List.take
 (m %
 ((↑(madeF x (60 : Int)).length :
 Int) +
 (1 : Int))).toNat
 (madeF x (60 : Int))))
 firstF).fst) =
 false →
 decide
 (List.drop (↑(0 : Nat) : Int).toNat
 (List.take
 (m %
 ((↑(madeF x (60 : Int)).length :
 Int) +
 (1 : Int))).toNat
 (guardF (madeF x (60 : Int))
 firstF).fst) =
 (guardF
 (List.drop (↑(0 : Nat) : Int).toNat
 (List.take
 (m %
 ((↑(madeF x
 (60 : Int)).length :
 Int) +
 (1 : Int))).toNat
 (madeF x (60 : Int))))
 firstF).fst) =
 false ∧
 decide
 (List.drop (↑(0 : Nat) : Int).toNat
 (List.take
 (m %
 ((↑(madeF x (60 : Int)).length :
 Int) +
 (1 : Int))).toNat
 (guardF (madeF x (60 : Int))
 firstF).fst) =
 (guardF
 (List.drop (↑(0 : Nat) : Int).toNat
 (List.take
 (m %
 ((↑(madeF x
 (60 :
 Int)).length :
 Int) +
 (1 : Int))).toNat
 (madeF x (60 : Int))))
 firstF).fst) =
 false ∧
 decide
 (List.drop (↑(0 : Nat) : Int).toNat
 (List.take
 (m %
 ((↑(madeF x
 (60 : Int)).length :
 Int) +
 (1 : Int))).toNat
 (guardF (madeF x (60 : Int))
 firstF).fst) =
 (guardF
 (List.drop
 (↑(0 : Nat) : Int).toNat
 (List.take
 (m %
 ((↑(madeF x
 (60 :
 Int)).length :
 Int) +
 (1 : Int))).toNat
 (madeF x (60 : Int))))
 firstF).fst) =
 false ∧
 false = true)) ∧
 (¬(↑(guardF (madeF x (60 : Int)) levelsF).fst.length : Int) =
 (↑(madeF x (60 : Int)).length : Int) →
 ¬(↑(guardF (madeF x (60 : Int)) levelsF).fst.length : Int) =
 (↑(madeF x (60 : Int)).length : Int) ∧
 ¬(↑(guardF (madeF x (60 : Int)) levelsF).fst.length : Int) =
 (↑(madeF x (60 : Int)).length : Int) ∧
 ¬(↑(guardF (madeF x (60 : Int)) levelsF).fst.length : Int) =
 (↑(madeF x (60 : Int)).length : Int) ∧
 false = true)) ∧
 (¬(↑(guardF (madeF x (60 : Int)) trotF).fst.length : Int) =
 (↑(madeF x (60 : Int)).length : Int) →
 ¬(↑(guardF (madeF x (60 : Int)) trotF).fst.length : Int) =
 (↑(madeF x (60 : Int)).length : Int) ∧
 ¬(↑(guardF (madeF x (60 : Int)) trotF).fst.length : Int) =
 (↑(madeF x (60 : Int)).length : Int) ∧
 ¬(↑(guardF (madeF x (60 : Int)) trotF).fst.length : Int) =
 (↑(madeF x (60 : Int)).length : Int) ∧
 false = true)) ∧
 (¬(↑(guardF (madeF x (60 : Int)) firstF).fst.length : Int) =
 (↑(madeF x (60 : Int)).length : Int) →
 ¬(↑(guardF (madeF x (60 : Int)) firstF).fst.length : Int) =
 (↑(madeF x (60 : Int)).length : Int) ∧
 ¬(↑(guardF (madeF x (60 : Int)) firstF).fst.length : Int) =
 (↑(madeF x (60 : Int)).length : Int) ∧
 ¬(↑(guardF (madeF x (60 : Int)) firstF).fst.length : Int) =
 (↑(madeF x (60 : Int)).length : Int) ∧
 false = true)) ∧
 (¬(guardF
 (List.drop (↑(0 : Nat) : Int).toNat
 (List.take (m % ((↑(madeF x (60 : Int)).length : Int) + (1 : Int))).toNat
 (madeF x (60 : Int))))
 levelsF).snd =
 (0 : Int) →
 ¬(guardF
 (List.drop (↑(0 : Nat) : Int).toNat
 (List.take (m % ((↑(madeF x (60 : Int)).length : Int) + (1 : Int))).toNat
 (madeF x (60 : Int))))
 levelsF).snd =
 (0 : Int) ∧
 ¬(guardF
 (List.drop (↑(0 : Nat) : Int).toNat
 (List.take (m % ((↑(madeF x (60 : Int)).length : Int) + (1 : Int))).toNat
 (madeF x (60 : Int))))
 levelsF).snd =
 (0 : Int) ∧
 ¬(guardF
 (List.drop (↑(0 : Nat) : Int).toNat
 (List.take (m % ((↑(madeF x (60 : Int)).length : Int) + (1 : Int))).toNat
 (madeF x (60 : Int))))
 levelsF).snd =
 (0 : Int) ∧
 false = true)) ∧
 (¬(guardF
 (List.drop (↑(0 : Nat) : Int).toNat
 (List.take (m % ((↑(madeF x (60 : Int)).length : Int) + (1 : Int))).toNat (madeF x (60 : Int))))
 trotF).snd =
 (0 : Int) →
 ¬(guardF
 (List.drop (↑(0 : Nat) : Int).toNat
 (List.take (m % ((↑(madeF x (60 : Int)).length : Int) + (1 : Int))).toNat
 (madeF x (60 : Int))))
 trotF).snd =
 (0 : Int) ∧
 ¬(guardF
 (List.drop (↑(0 : Nat) : Int).toNat
 (List.take (m % ((↑(madeF x (60 : Int)).length : Int) + (1 : Int))).toNat
 (madeF x (60 : Int))))
 trotF).snd =
 (0 : Int) ∧
 ¬(guardF
 (List.drop (↑(0 : Nat) : Int).toNat
 (List.take (m % ((↑(madeF x (60 : Int)).length : Int) + (1 : Int))).toNat
 (madeF x (60 : Int))))
 trotF).snd =
 (0 : Int) ∧
 false = true)) ∧
 (¬(guardF
 (List.drop (↑(0 : Nat) : Int).toNat
 (List.take (m % ((↑(madeF x (60 : Int)).length : Int) + (1 : Int))).toNat (madeF x (60 : Int))))
 firstF).snd =
 (0 : Int) →
 ¬(guardF
 (List.drop (↑(0 : Nat) : Int).toNat
 (List.take (m % ((↑(madeF x (60 : Int)).length : Int) + (1 : Int))).toNat (madeF x (60 : Int))))
 firstF).snd =
 (0 : Int) ∧
 ¬(guardF
 (List.drop (↑(0 : Nat) : Int).toNat
 (List.take (m % ((↑(madeF x (60 : Int)).length : Int) + (1 : Int))).toNat (madeF x (60 : Int))))
 firstF).snd =
 (0 : Int) ∧
 ¬(guardF
 (List.drop (↑(0 : Nat) : Int).toNat
 (List.take (m % ((↑(madeF x (60 : Int)).length : Int) + (1 : Int))).toNat (madeF x (60 : Int))))
 firstF).snd =
 (0 : Int) ∧
 false = true)) ∧
 (¬(guardF (madeF x (60 : Int)) levelsF).snd = (0 : Int) →
 ¬(guardF (madeF x (60 : Int)) levelsF).snd = (0 : Int) ∧
 ¬(guardF (madeF x (60 : Int)) levelsF).snd = (0 : Int) ∧
 ¬(guardF (madeF x (60 : Int)) levelsF).snd = (0 : Int) ∧ false = true)) ∧
 (¬(guardF (madeF x (60 : Int)) trotF).snd = (0 : Int) →
 ¬(guardF (madeF x (60 : Int)) trotF).snd = (0 : Int) ∧
 ¬(guardF (madeF x (60 : Int)) trotF).snd = (0 : Int) ∧ ¬(guardF (madeF x (60 : Int)) trotF).snd = (0 : Int) ∧ false = true)) ∧
 (¬(guardF (madeF x (60 : Int)) firstF).snd = (0 : Int) →
 ¬(guardF (madeF x (60 : Int)) firstF).snd = (0 : Int) ∧ ¬(guardF (madeF x (60 : Int)) firstF).snd = (0 : Int) ∧ false = true)) := by
 kernel_rfl

theorem g9_eq (x : List (Int × Int)) : g9 x = (
 ((∀ (q : Int × Int), q ∈ x → ((0 : Int) ≤ q.fst ∧ q.fst ≤ (65535 : Int)) ∧ (0 : Int) ≤ q.snd ∧ q.snd ≤ (65535 : Int)) ∧ (0 : Int) ≤ (1000 : Int) ∧ (1000 : Int) ≤ (1000 : Int)) ∧
 (∃ (x0 : Nat),
 x0 ≤ (madeF x (1000 : Int)).length ∧
 ([] = List.map mir (List.take x0 (madeF x (1000 : Int))) ∧ True) ∧ (0 : Int) = (↑x0 : Int) ∧ True ∧ madeF x (1000 : Int) = madeF x (1000 : Int) ∧ True) ∧
 ∀ (x_1 : Nat),
 x_1 ≤ (madeF x (1000 : Int)).length →
 ((↑x_1 : Int) < (↑(madeF x (1000 : Int)).length : Int) →
 (↑x_1 : Int) < (↑(madeF x (1000 : Int)).length : Int) ∧
 ((0 : Int) ≤ (↑x_1 : Int) ∧ (↑x_1 : Int) < (↑(madeF x (1000 : Int)).length : Int)) ∧
 Fits IntKind.i64 ((1000 : Int) - ((madeF x (1000 : Int)).getD (↑x_1 : Int).toNat ((0 : Int), (0 : Int))).snd) ∧
 ((0 : Int) ≤ (↑x_1 : Int) ∧ (↑x_1 : Int) < (↑(madeF x (1000 : Int)).length : Int)) ∧
 Fits IntKind.i64 ((1000 : Int) - ((madeF x (1000 : Int)).getD (↑x_1 : Int).toNat ((0 : Int), (0 : Int))).fst) ∧
 Small ((List.map mir (List.take x_1 (madeF x (1000 : Int)))).length + ((0 : Nat) + (1 : Nat))) ∧
 Fits IntKind.i64 ((↑x_1 : Int) + (1 : Int)) ∧
 ∃ (x' : Nat),
 x' ≤ (madeF x (1000 : Int)).length ∧
 (madeF x (1000 : Int)).length - x' < (madeF x (1000 : Int)).length - x_1 ∧
 (List.map mir (List.take x_1 (madeF x (1000 : Int))) ++
 [((1000 : Int) - ((madeF x (1000 : Int)).getD (↑x_1 : Int).toNat ((0 : Int), (0 : Int))).snd,
 (1000 : Int) - ((madeF x (1000 : Int)).getD (↑x_1 : Int).toNat ((0 : Int), (0 : Int))).fst)] =
 List.map mir (List.take x' (madeF x (1000 : Int))) ∧
 True) ∧
 (↑x_1 : Int) + (1 : Int) = (↑x' : Int) ∧ True ∧ madeF x (1000 : Int) = madeF x (1000 : Int) ∧ True) ∧
 (¬(↑x_1 : Int) < (↑(madeF x (1000 : Int)).length : Int) →
 ¬(↑x_1 : Int) < (↑(madeF x (1000 : Int)).length : Int) ∧
 (checkF (madeF x (1000 : Int)) = (0 : Int) ∧ checkF (List.map mir (List.take x_1 (madeF x (1000 : Int)))) = (0 : Int)) ∧
 (decide
 (((deepF (madeF x (1000 : Int))).snd.length = (deepF (List.map mir (List.take x_1 (madeF x (1000 : Int))))).snd.length ∧
 firstF (madeF x (1000 : Int)) = firstF (List.map mir (List.take x_1 (madeF x (1000 : Int))))) ∧
 trotF (madeF x (1000 : Int)) = trotF (List.map mir (List.take x_1 (madeF x (1000 : Int))))) =
 true →
 decide
 (((deepF (madeF x (1000 : Int))).snd.length = (deepF (List.map mir (List.take x_1 (madeF x (1000 : Int))))).snd.length ∧
 firstF (madeF x (1000 : Int)) = firstF (List.map mir (List.take x_1 (madeF x (1000 : Int))))) ∧
 trotF (madeF x (1000 : Int)) = trotF (List.map mir (List.take x_1 (madeF x (1000 : Int))))) =
 true ∧
 decide
 (((deepF (madeF x (1000 : Int))).snd.length = (deepF (List.map mir (List.take x_1 (madeF x (1000 : Int))))).snd.length ∧
 firstF (madeF x (1000 : Int)) = firstF (List.map mir (List.take x_1 (madeF x (1000 : Int))))) ∧
 trotF (madeF x (1000 : Int)) = trotF (List.map mir (List.take x_1 (madeF x (1000 : Int))))) =
 true ∧
 True ∧ true = true) ∧
 (decide
 (((deepF (madeF x (1000 : Int))).snd.length = (deepF (List.map mir (List.take x_1 (madeF x (1000 : Int))))).snd.length ∧
 firstF (madeF x (1000 : Int)) = firstF (List.map mir (List.take x_1 (madeF x (1000 : Int))))) ∧
 trotF (madeF x (1000 : Int)) = trotF (List.map mir (List.take x_1 (madeF x (1000 : Int))))) =
 false →
 decide
 (((deepF (madeF x (1000 : Int))).snd.length = (deepF (List.map mir (List.take x_1 (madeF x (1000 : Int))))).snd.length ∧
 firstF (madeF x (1000 : Int)) = firstF (List.map mir (List.take x_1 (madeF x (1000 : Int))))) ∧
 trotF (madeF x (1000 : Int)) = trotF (List.map mir (List.take x_1 (madeF x (1000 : Int))))) =
 false ∧
 decide
 (((deepF (madeF x (1000 : Int))).snd.length = (deepF (List.map mir (List.take x_1 (madeF x (1000 : Int))))).snd.length ∧
 firstF (madeF x (1000 : Int)) = firstF (List.map mir (List.take x_1 (madeF x (1000 : Int))))) ∧
 trotF (madeF x (1000 : Int)) = trotF (List.map mir (List.take x_1 (madeF x (1000 : Int))))) =
 false ∧
 false = true))) := by
 kernel_rfl

theorem g10_eq (x : List (Int × Int)) (m : Int) : g10 x m = (
 ((∀ (q : Int × Int), q ∈ x → ((0 : Int) ≤ q.fst ∧ q.fst ≤ (65535 : Int)) ∧ (0 : Int) ≤ q.snd ∧ q.snd ≤ (65535 : Int)) ∧ (0 : Int) ≤ (50 : Int) ∧ (50 : Int) ≤ (1000 : Int)) ∧
 Fits IntKind.i64 m ∧
 ((0 : Int) ≤ m ∧ (0 : Int) < (20 : Int)) ∧
 Fits IntKind.i64 (m % (20 : Int) + (1 : Int)) ∧
 (∃ (x0 : Nat),
 x0 ≤ (madeF x (50 : Int)).length ∧
 ([] = List.map (str (m % (20 : Int) + (1 : Int))) (List.take x0 (madeF x (50 : Int))) ∧ True) ∧
 (0 : Int) = (↑x0 : Int) ∧ True ∧ m % (20 : Int) + (1 : Int) = m % (20 : Int) + (1 : Int) ∧ madeF x (50 : Int) = madeF x (50 : Int) ∧ True) ∧
 ∀ (x_1 : Nat),
 x_1 ≤ (madeF x (50 : Int)).length →
 ((↑x_1 : Int) < (↑(madeF x (50 : Int)).length : Int) →
 (↑x_1 : Int) < (↑(madeF x (50 : Int)).length : Int) ∧
 ((0 : Int) ≤ (↑x_1 : Int) ∧ (↑x_1 : Int) < (↑(madeF x (50 : Int)).length : Int)) ∧
 Fits IntKind.i64 (((madeF x (50 : Int)).getD (↑x_1 : Int).toNat ((0 : Int), (0 : Int))).fst * (m % (20 : Int) + (1 : Int))) ∧
 ((0 : Int) ≤ (↑x_1 : Int) ∧ (↑x_1 : Int) < (↑(madeF x (50 : Int)).length : Int)) ∧
 Fits IntKind.i64 (((madeF x (50 : Int)).getD (↑x_1 : Int).toNat ((0 : Int), (0 : Int))).snd * (m % (20 : Int) + (1 : Int))) ∧
 Small ((List.map (str (m % (20 : Int) + (1 : Int))) (List.take x_1 (madeF x (50 : Int)))).length + ((0 : Nat) + (1 : Nat))) ∧
 Fits IntKind.i64 ((↑x_1 : Int) + (1 : Int)) ∧
 ∃ (x' : Nat),
 x' ≤ (madeF x (50 : Int)).length ∧
 (madeF x (50 : Int)).length - x' < (madeF x (50 : Int)).length - x_1 ∧
 (List.map (str (m % (20 : Int) + (1 : Int))) (List.take x_1 (madeF x (50 : Int))) ++
 [(((madeF x (50 : Int)).getD (↑x_1 : Int).toNat ((0 : Int), (0 : Int))).fst * (m % (20 : Int) + (1 : Int)),
 ((madeF x (50 : Int)).getD (↑x_1 : Int).toNat ((0 : Int), (0 : Int))).snd * (m % (20 : Int) + (1 : Int)))] =
 List.map (str (m % (20 : Int) + (1 : Int))) (List.take x' (madeF x (50 : Int))) ∧
 True) ∧
 (↑x_1 : Int) + (1 : Int) = (↑x' : Int) ∧
 True ∧ m % (20 : Int) + (1 : Int) = m % (20 : Int) + (1 : Int) ∧ madeF x (50 : Int) = madeF x (50 : Int) ∧ True) ∧
 (¬(↑x_1 : Int) < (↑(madeF x (50 : Int)).length : Int) →
 ¬(↑x_1 : Int) < (↑(madeF x (50 : Int)).length : Int) ∧
 (checkF (madeF x (50 : Int)) = (0 : Int) ∧ checkF (List.map (str (m % (20 : Int) + (1 : Int))) (List.take x_1 (madeF x (50 : Int)))) = (0 : Int)) ∧
 (decide
 (((deepF (madeF x (50 : Int))).snd.length = (deepF (List.map (str (m % (20 : Int) + (1 : Int))) (List.take x_1 (madeF x (50 : Int))))).snd.length ∧
 firstF (madeF x (50 : Int)) = firstF (List.map (str (m % (20 : Int) + (1 : Int))) (List.take x_1 (madeF x (50 : Int))))) ∧
 trotF (madeF x (50 : Int)) = trotF (List.map (str (m % (20 : Int) + (1 : Int))) (List.take x_1 (madeF x (50 : Int))))) =
 true →
 decide
 (((deepF (madeF x (50 : Int))).snd.length = (deepF (List.map (str (m % (20 : Int) + (1 : Int))) (List.take x_1 (madeF x (50 : Int))))).snd.length ∧
 firstF (madeF x (50 : Int)) = firstF (List.map (str (m % (20 : Int) + (1 : Int))) (List.take x_1 (madeF x (50 : Int))))) ∧
 trotF (madeF x (50 : Int)) = trotF (List.map (str (m % (20 : Int) + (1 : Int))) (List.take x_1 (madeF x (50 : Int))))) =
 true ∧
 decide
 (((deepF (madeF x (50 : Int))).snd.length =
 (deepF (List.map (str (m % (20 : Int) + (1 : Int))) (List.take x_1 (madeF x (50 : Int))))).snd.length ∧
 firstF (madeF x (50 : Int)) = firstF (List.map (str (m % (20 : Int) + (1 : Int))) (List.take x_1 (madeF x (50 : Int))))) ∧
 trotF (madeF x (50 : Int)) = trotF (List.map (str (m % (20 : Int) + (1 : Int))) (List.take x_1 (madeF x (50 : Int))))) =
 true ∧
 True ∧ true = true) ∧
 (decide
 (((deepF (madeF x (50 : Int))).snd.length = (deepF (List.map (str (m % (20 : Int) + (1 : Int))) (List.take x_1 (madeF x (50 : Int))))).snd.length ∧
 firstF (madeF x (50 : Int)) = firstF (List.map (str (m % (20 : Int) + (1 : Int))) (List.take x_1 (madeF x (50 : Int))))) ∧
 trotF (madeF x (50 : Int)) = trotF (List.map (str (m % (20 : Int) + (1 : Int))) (List.take x_1 (madeF x (50 : Int))))) =
 false →
 decide
 (((deepF (madeF x (50 : Int))).snd.length = (deepF (List.map (str (m % (20 : Int) + (1 : Int))) (List.take x_1 (madeF x (50 : Int))))).snd.length ∧
 firstF (madeF x (50 : Int)) = firstF (List.map (str (m % (20 : Int) + (1 : Int))) (List.take x_1 (madeF x (50 : Int))))) ∧
 trotF (madeF x (50 : Int)) = trotF (List.map (str (m % (20 : Int) + (1 : Int))) (List.take x_1 (madeF x (50 : Int))))) =
 false ∧
 decide
 (((deepF (madeF x (50 : Int))).snd.length =
 (deepF (List.map (str (m % (20 : Int) + (1 : Int))) (List.take x_1 (madeF x (50 : Int))))).snd.length ∧
 firstF (madeF x (50 : Int)) = firstF (List.map (str (m % (20 : Int) + (1 : Int))) (List.take x_1 (madeF x (50 : Int))))) ∧
 trotF (madeF x (50 : Int)) = trotF (List.map (str (m % (20 : Int) + (1 : Int))) (List.take x_1 (madeF x (50 : Int))))) =
 false ∧
 false = true))) := by
 kernel_rfl

theorem g11_eq (x : List (Int × Int)) : g11 x = (
 ((∀ (q : Int × Int), q ∈ x → ((0 : Int) ≤ q.fst ∧ q.fst ≤ (65535 : Int)) ∧ (0 : Int) ≤ q.snd ∧ q.snd ≤ (65535 : Int)) ∧ (0 : Int) ≤ (60 : Int) ∧ (60 : Int) ≤ (1000 : Int)) ∧
 (madeF x (60 : Int)).length ≤ (1000 : Nat) ∧
 (madeF x (60 : Int)).length ≤ (1000 : Nat) ∧
 (¬(depthP (madeF x (60 : Int))).snd = (0 : Int) → ¬(depthP (madeF x (60 : Int))).snd = (0 : Int) ∧ ¬(depthP (madeF x (60 : Int))).snd = (0 : Int) ∧ false = true) ∧
 (¬¬(depthP (madeF x (60 : Int))).snd = (0 : Int) →
 ¬¬(depthP (madeF x (60 : Int))).snd = (0 : Int) ∧
 ¬¬(depthP (madeF x (60 : Int))).snd = (0 : Int) ∧
 True ∧
 ((!true) = true → (!true) = true ∧ (!true) = true ∧ false = true) ∧
 ((!true) = false →
 (!true) = false ∧
 (!true) = false ∧
 ((↑(madeF x (60 : Int)).length : Int) = (0 : Int) →
 (↑(madeF x (60 : Int)).length : Int) = (0 : Int) ∧
 ((depthP (madeF x (60 : Int))).fst = (0 : Int) →
 (depthP (madeF x (60 : Int))).fst = (0 : Int) ∧
 (depthP (madeF x (60 : Int))).fst = (0 : Int) ∧ decide ((deepestP (madeF x (60 : Int))).snd.snd = (5 : Int)) = true) ∧
 (¬(depthP (madeF x (60 : Int))).fst = (0 : Int) →
 ¬(depthP (madeF x (60 : Int))).fst = (0 : Int) ∧ ¬(depthP (madeF x (60 : Int))).fst = (0 : Int) ∧ false = true)) ∧
 (¬(↑(madeF x (60 : Int)).length : Int) = (0 : Int) →
 ¬(↑(madeF x (60 : Int)).length : Int) = (0 : Int) ∧
 (¬(deepestP (madeF x (60 : Int))).snd.snd = (0 : Int) →
 ¬(deepestP (madeF x (60 : Int))).snd.snd = (0 : Int) ∧ ¬(deepestP (madeF x (60 : Int))).snd.snd = (0 : Int) ∧ false = true) ∧
 (¬¬(deepestP (madeF x (60 : Int))).snd.snd = (0 : Int) →
 ¬¬(deepestP (madeF x (60 : Int))).snd.snd = (0 : Int) ∧
 ¬¬(deepestP (madeF x (60 : Int))).snd.snd = (0 : Int) ∧
 (¬(↑(deepestP (madeF x (60 : Int))).snd.fst.length : Int) = (depthP (madeF x (60 : Int))).fst →
 ¬(↑(deepestP (madeF x (60 : Int))).snd.fst.length : Int) = (depthP (madeF x (60 : Int))).fst ∧
 ¬(↑(deepestP (madeF x (60 : Int))).snd.fst.length : Int) = (depthP (madeF x (60 : Int))).fst ∧
 ¬(↑(deepestP (madeF x (60 : Int))).snd.fst.length : Int) = (depthP (madeF x (60 : Int))).fst ∧ false = true) ∧
 (¬¬(↑(deepestP (madeF x (60 : Int))).snd.fst.length : Int) = (depthP (madeF x (60 : Int))).fst →
 ¬¬(↑(deepestP (madeF x (60 : Int))).snd.fst.length : Int) = (depthP (madeF x (60 : Int))).fst ∧
 ¬¬(↑(deepestP (madeF x (60 : Int))).snd.fst.length : Int) = (depthP (madeF x (60 : Int))).fst ∧
 ¬¬(↑(deepestP (madeF x (60 : Int))).snd.fst.length : Int) = (depthP (madeF x (60 : Int))).fst ∧
 ((deepestP (madeF x (60 : Int))).snd.fst.length ≤ (1000 : Nat) ∧
 (0 : Int) ≤ (↑(madeF x (60 : Int)).length : Int) ∧ (↑(madeF x (60 : Int)).length : Int) ≤ (1000000 : Int)) ∧
 ((!risingF (↑(madeF x (60 : Int)).length : Int) (deepestP (madeF x (60 : Int))).snd.fst) = true →
 (!risingF (↑(madeF x (60 : Int)).length : Int) (deepestP (madeF x (60 : Int))).snd.fst) = true ∧
 (!risingF (↑(madeF x (60 : Int)).length : Int) (deepestP (madeF x (60 : Int))).snd.fst) = true ∧ false = true) ∧
 ((!risingF (↑(madeF x (60 : Int)).length : Int) (deepestP (madeF x (60 : Int))).snd.fst) = false →
 (!risingF (↑(madeF x (60 : Int)).length : Int) (deepestP (madeF x (60 : Int))).snd.fst) = false ∧
 (!risingF (↑(madeF x (60 : Int)).length : Int) (deepestP (madeF x (60 : Int))).snd.fst) = false ∧
 (∃ (x0 : Nat),
 (x0 ≤ (deepF (madeF x (60 : Int))).snd.length ∧ True) ∧
 True ∧
 (0 : Int) = (↑x0 : Int) ∧
 (deepestP (madeF x (60 : Int))).snd.fst = (deepestP (madeF x (60 : Int))).snd.fst ∧
 (deepestP (madeF x (60 : Int))).fst = (deepestP (madeF x (60 : Int))).fst ∧
 madeF x (60 : Int) = madeF x (60 : Int) ∧ True) ∧
 ∀ (x_1 : Nat),
 x_1 ≤ (deepF (madeF x (60 : Int))).snd.length ∧ True →
 ((↑x_1 : Int) < (↑(deepestP (madeF x (60 : Int))).snd.fst.length : Int) →
 (↑x_1 : Int) < (↑(deepestP (madeF x (60 : Int))).snd.fst.length : Int) ∧
 ((0 : Int) ≤ (↑x_1 : Int) ∧ (↑x_1 : Int) < (↑(deepestP (madeF x (60 : Int))).snd.fst.length : Int)) ∧
 ((0 : Int) ≤ (deepestP (madeF x (60 : Int))).snd.fst.getD (↑x_1 : Int).toNat (0 : Int) ∧
 (deepestP (madeF x (60 : Int))).snd.fst.getD (↑x_1 : Int).toNat (0 : Int) <
 (↑(madeF x (60 : Int)).length : Int)) ∧
 ((deepestP (madeF x (60 : Int))).fst <
 ((madeF x (60 : Int)).getD
 ((deepestP (madeF x (60 : Int))).snd.fst.getD (↑x_1 : Int).toNat (0 : Int)).toNat
 ((0 : Int), (0 : Int))).fst →
 (deepestP (madeF x (60 : Int))).fst <
 ((madeF x (60 : Int)).getD
 ((deepestP (madeF x (60 : Int))).snd.fst.getD (↑x_1 : Int).toNat (0 : Int)).toNat
 ((0 : Int), (0 : Int))).fst ∧
 (deepestP (madeF x (60 : Int))).fst <
 ((madeF x (60 : Int)).getD
 ((deepestP (madeF x (60 : Int))).snd.fst.getD (↑x_1 : Int).toNat (0 : Int)).toNat
 ((0 : Int), (0 : Int))).fst ∧
 false = true) ∧
 (¬(deepestP (madeF x (60 : Int))).fst <
 ((madeF x (60 : Int)).getD
 ((deepestP (madeF x (60 : Int))).snd.fst.getD (↑x_1 : Int).toNat (0 : Int)).toNat
 ((0 : Int), (0 : Int))).fst →
 ¬(deepestP (madeF x (60 : Int))).fst <
 ((madeF x (60 : Int)).getD
 ((deepestP (madeF x (60 : Int))).snd.fst.getD (↑x_1 : Int).toNat (0 : Int)).toNat
 ((0 : Int), (0 : Int))).fst ∧
 ¬(deepestP (madeF x (60 : Int))).fst <
 ((madeF x (60 : Int)).getD
 ((deepestP (madeF x (60 : Int))).snd.fst.getD (↑x_1 : Int).toNat (0 : Int)).toNat
 ((0 : Int), (0 : Int))).fst ∧
 ((0 : Int) ≤ (↑x_1 : Int) ∧
 (↑x_1 : Int) < (↑(deepestP (madeF x (60 : Int))).snd.fst.length : Int)) ∧
 ((0 : Int) ≤ (deepestP (madeF x (60 : Int))).snd.fst.getD (↑x_1 : Int).toNat (0 : Int) ∧
 (deepestP (madeF x (60 : Int))).snd.fst.getD (↑x_1 : Int).toNat (0 : Int) <
 (↑(madeF x (60 : Int)).length : Int)) ∧
 (((madeF x (60 : Int)).getD
 ((deepestP (madeF x (60 : Int))).snd.fst.getD (↑x_1 : Int).toNat (0 : Int)).toNat
 ((0 : Int), (0 : Int))).snd ≤
 (deepestP (madeF x (60 : Int))).fst →
 ((madeF x (60 : Int)).getD
 ((deepestP (madeF x (60 : Int))).snd.fst.getD (↑x_1 : Int).toNat (0 : Int)).toNat
 ((0 : Int), (0 : Int))).snd ≤
 (deepestP (madeF x (60 : Int))).fst ∧
 ((madeF x (60 : Int)).getD
 ((deepestP (madeF x (60 : Int))).snd.fst.getD (↑x_1 : Int).toNat
 (0 : Int)).toNat
 ((0 : Int), (0 : Int))).snd ≤
 (deepestP (madeF x (60 : Int))).fst ∧
 false = true) ∧
 (¬((madeF x (60 : Int)).getD
 ((deepestP (madeF x (60 : Int))).snd.fst.getD (↑x_1 : Int).toNat (0 : Int)).toNat
 ((0 : Int), (0 : Int))).snd ≤
 (deepestP (madeF x (60 : Int))).fst →
 ¬((madeF x (60 : Int)).getD
 ((deepestP (madeF x (60 : Int))).snd.fst.getD (↑x_1 : Int).toNat
 (0 : Int)).toNat
 ((0 : Int), (0 : Int))).snd ≤
 (deepestP (madeF x (60 : Int))).fst ∧
 ¬((madeF x (60 : Int)).getD
 ((deepestP (madeF x (60 : Int))).snd.fst.getD (↑x_1 : Int).toNat
 (0 : Int)).toNat
 ((0 : Int), (0 : Int))).snd ≤
 (deepestP (madeF x (60 : Int))).fst ∧
 (∃ (x0 : Nat),
 (x0 ≤ (↑x_1 : Int).toNat ∧ True) ∧
 True ∧
 (0 : Int) = (↑x0 : Int) ∧
 (↑x_1 : Int) = (↑x_1 : Int) ∧
 (deepestP (madeF x (60 : Int))).snd.fst =
 (deepestP (madeF x (60 : Int))).snd.fst ∧
 (deepestP (madeF x (60 : Int))).fst =
 (deepestP (madeF x (60 : Int))).fst ∧
 madeF x (60 : Int) = madeF x (60 : Int) ∧ True) ∧
 ∀ (x_2 : Nat),
 x_2 ≤ (↑x_1 : Int).toNat ∧ True →
 ((↑x_2 : Int) < (↑x_1 : Int) →
 (↑x_2 : Int) < (↑x_1 : Int) ∧
 ((0 : Int) ≤ (↑x_1 : Int) ∧
 (↑x_1 : Int) <
 (↑(deepestP (madeF x (60 : Int))).snd.fst.length : Int)) ∧
 ((0 : Int) ≤
 (deepestP (madeF x (60 : Int))).snd.fst.getD (↑x_1 : Int).toNat
 (0 : Int) ∧
 (deepestP (madeF x (60 : Int))).snd.fst.getD (↑x_1 : Int).toNat
 (0 : Int) <
 (↑(madeF x (60 : Int)).length : Int)) ∧
 ((0 : Int) ≤ (↑x_2 : Int) ∧
 (↑x_2 : Int) <
 (↑(deepestP (madeF x (60 : Int))).snd.fst.length : Int)) ∧
 ((0 : Int) ≤
 (deepestP (madeF x (60 : Int))).snd.fst.getD
 (↑x_2 : Int).toNat (0 : Int) ∧
 (deepestP (madeF x (60 : Int))).snd.fst.getD (↑x_2 : Int).toNat
 (0 : Int) <
 (↑(madeF x (60 : Int)).length : Int)) ∧
 True ∧
 ((!decide
 (max
 ((madeF x (60 : Int)).getD
 ((deepestP (madeF x (60 : Int))).snd.fst.getD
 (↑x_1 : Int).toNat (0 : Int)).toNat
 ((0 : Int), (0 : Int))).fst
 ((madeF x (60 : Int)).getD
 ((deepestP (madeF x (60 : Int))).snd.fst.getD
 (↑x_2 : Int).toNat (0 : Int)).toNat
 ((0 : Int), (0 : Int))).fst <
 min
 ((madeF x (60 : Int)).getD
 ((deepestP (madeF x (60 : Int))).snd.fst.getD
 (↑x_1 : Int).toNat (0 : Int)).toNat
 ((0 : Int), (0 : Int))).snd
 ((madeF x (60 : Int)).getD
 ((deepestP (madeF x (60 : Int))).snd.fst.getD
 (↑x_2 : Int).toNat (0 : Int)).toNat
 ((0 : Int), (0 : Int))).snd)) =
 true →
 (!decide
 (max
 ((madeF x (60 : Int)).getD
 ((deepestP
 (madeF x
 (60 : Int))).snd.fst.getD
 (↑x_1 : Int).toNat (0 : Int)).toNat
 ((0 : Int), (0 : Int))).fst
 ((madeF x (60 : Int)).getD
 ((deepestP
 (madeF x
 (60 : Int))).snd.fst.getD
 (↑x_2 : Int).toNat (0 : Int)).toNat
 ((0 : Int), (0 : Int))).fst <
 min
 ((madeF x (60 : Int)).getD
 ((deepestP
 (madeF x
 (60 : Int))).snd.fst.getD
 (↑x_1 : Int).toNat (0 : Int)).toNat
 ((0 : Int), (0 : Int))).snd
 ((madeF x (60 : Int)).getD
 ((deepestP
 (madeF x
 (60 : Int))).snd.fst.getD
 (↑x_2 : Int).toNat (0 : Int)).toNat
 ((0 : Int), (0 : Int))).snd)) =
 true ∧
 false = true) ∧
 ((!decide
 (max
 ((madeF x (60 : Int)).getD
 ((deepestP (madeF x (60 : Int))).snd.fst.getD
 (↑x_1 : Int).toNat (0 : Int)).toNat
 ((0 : Int), (0 : Int))).fst
 ((madeF x (60 : Int)).getD
 ((deepestP (madeF x (60 : Int))).snd.fst.getD
 (↑x_2 : Int).toNat (0 : Int)).toNat
 ((0 : Int), (0 : Int))).fst <
 min
 ((madeF x (60 : Int)).getD
 ((deepestP (madeF x (60 : Int))).snd.fst.getD
 (↑x_1 : Int).toNat (0 : Int)).toNat
 ((0 : Int), (0 : Int))).snd
 ((madeF x (60 : Int)).getD
 ((deepestP (madeF x (60 : Int))).snd.fst.getD
 (↑x_2 : Int).toNat (0 : Int)).toNat
 ((0 : Int), (0 : Int))).snd)) =
 false →
 (!decide
 (max
 ((madeF x (60 : Int)).getD
 ((deepestP
 (madeF x
 (60 : Int))).snd.fst.getD
 (↑x_1 : Int).toNat (0 : Int)).toNat
 ((0 : Int), (0 : Int))).fst
 ((madeF x (60 : Int)).getD
 ((deepestP
 (madeF x
 (60 : Int))).snd.fst.getD
 (↑x_2 : Int).toNat (0 : Int)).toNat
 ((0 : Int), (0 : Int))).fst <
 min
 ((madeF x (60 : Int)).getD
 ((deepestP
 (madeF x
 (60 : Int))).snd.fst.getD
 (↑x_1 : Int).toNat (0 : Int)).toNat
 ((0 : Int), (0 : Int))).snd
 ((madeF x (60 : Int)).getD
 ((deepestP
 (madeF x
 (60 : Int))).snd.fst.getD
 (↑x_2 : Int).toNat (0 : Int)).toNat
 ((0 : Int), (0 : Int))).snd)) =
 false ∧
 Fits IntKind.i64 ((↑x_2 : Int) + (1 : Int)) ∧
 ∃ (x' : Nat),
 (x' ≤ (↑x_1 : Int).toNat ∧ True) ∧
 (↑x_1 : Int).toNat - x' < (↑x_1 : Int).toNat - x_2 ∧
 True ∧
 (↑x_2 : Int) + (1 : Int) = (↑x' : Int) ∧
 (↑x_1 : Int) = (↑x_1 : Int) ∧
 (deepestP (madeF x (60 : Int))).snd.fst =
 (deepestP
 (madeF x (60 : Int))).snd.fst ∧
 (deepestP (madeF x (60 : Int))).fst =
 (deepestP (madeF x (60 : Int))).fst ∧
 madeF x (60 : Int) =
 madeF x (60 : Int) ∧
 True)) ∧
 (¬(↑x_2 : Int) < (↑x_1 : Int) →
 ¬(↑x_2 : Int) < (↑x_1 : Int) ∧
 Fits IntKind.i64 ((↑x_1 : Int) + (1 : Int)) ∧
 ∃ (x' : Nat),
 (x' ≤ (deepF (madeF x (60 : Int))).snd.length ∧ True) ∧
 (deepF (madeF x (60 : Int))).snd.length - x' <
 (deepF (madeF x (60 : Int))).snd.length - x_1 ∧
 True ∧
 (↑x_1 : Int) + (1 : Int) = (↑x' : Int) ∧
 (deepestP (madeF x (60 : Int))).snd.fst =
 (deepestP (madeF x (60 : Int))).snd.fst ∧
 (deepestP (madeF x (60 : Int))).fst =
 (deepestP (madeF x (60 : Int))).fst ∧
 madeF x (60 : Int) = madeF x (60 : Int) ∧ True)))) ∧
 (¬(↑x_1 : Int) < (↑(deepestP (madeF x (60 : Int))).snd.fst.length : Int) →
 ¬(↑x_1 : Int) < (↑(deepestP (madeF x (60 : Int))).snd.fst.length : Int) ∧ true = true)))))))) := by
 kernel_rfl

end Go.SX.Sh
