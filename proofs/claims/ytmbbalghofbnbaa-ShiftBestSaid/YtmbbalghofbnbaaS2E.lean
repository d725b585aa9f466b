/- Printed by VC.lean: what the executor asks. -/
import Derived.Test.YtmbbalghofbnbaaS2
namespace Go.SX.Sh
open Go Go.Proofs
theorem g61_eq (x : Int) : g61 x = (
 (0 : Int) = (0 : Int)) := by
 kernel_rfl

theorem g62_eq (x : Int) (y : Int) : g62 x y = (
 true = true) := by
 kernel_rfl

theorem g49_eq (xs : List Sp) : g49 xs = (
 (∃ (x0 : Nat),
 x0 ≤ xs.length ∧
 ((xs = xs ∧ True) ∧ (True ∧ True) ∧ (True ∧ True) ∧ [] = fitTo zeroF (confF xs) x0 ∧ True) ∧
 (0 : Int) = (↑x0 : Int) ∧ (↑xs.length : Int) = (↑xs.length : Int) ∧ xs = xs ∧ True ∧ True ∧ True ∧ True ∧ True) ∧
 ∀ (x : Nat),
 x ≤ xs.length →
 ((↑x : Int) < (↑xs.length : Int) →
 (↑x : Int) < (↑xs.length : Int) ∧
 ((0 : Int) ≤ (↑x : Int) ∧ (↑x : Int) < (↑xs.length : Int)) ∧
 True ∧
 (∃ (x0 : Nat),
 (x0 ≤ (↑x : Int).toNat ∧
 ∀ (j : Nat), j < x0 → zeroF (↑x : Int).toNat + (↑j : Int) ∈ taken (confF xs) (fitTo zeroF (confF xs) (↑x : Int).toNat) (↑x : Int).toNat (↑x : Int).toNat) ∧
 ((xs = xs ∧ True) ∧
 (True ∧ True) ∧
 (True ∧ True) ∧
 fitTo zeroF (confF xs) x = fitTo zeroF (confF xs) x ∧
 ((↑x : Int) = (↑x : Int) ∧ True) ∧
 ((xs.getD (↑x : Int).toNat ((0 : Int), (0 : Int))).fst = (xs.getD (↑x : Int).toNat ((0 : Int), (0 : Int))).fst ∧
 (xs.getD (↑x : Int).toNat ((0 : Int), (0 : Int))).snd = (xs.getD (↑x : Int).toNat ((0 : Int), (0 : Int))).snd ∧ True) ∧
 ((0 : Int) = zeroF (↑x : Int).toNat + (↑x0 : Int) ∧ True) ∧ True) ∧
 True ∧ True ∧ True ∧ (↑x : Int) = (↑x : Int) ∧ (↑xs.length : Int) = (↑xs.length : Int) ∧ xs = xs ∧ True ∧ True ∧ True ∧ True ∧ True) ∧
 ∀ (x_1 : Nat),
 (x_1 ≤ (↑x : Int).toNat ∧
 ∀ (j : Nat), j < x_1 → zeroF (↑x : Int).toNat + (↑j : Int) ∈ taken (confF xs) (fitTo zeroF (confF xs) (↑x : Int).toNat) (↑x : Int).toNat (↑x : Int).toNat) →
 ((0 : Int) ≤ (↑x : Int) ∧ (↑x : Int) ≤ (1000 : Int)) ∧
 (∃ (x0 : Nat),
 (x0 ≤ (↑x : Int).toNat ∧
 ∀ (j : Nat),
 j < x0 →
 (decide ((fitTo zeroF (confF xs) (↑x : Int).toNat).getD j (0 : Int) = zeroF (↑x : Int).toNat + (↑x_1 : Int)) && confF xs (↑x : Int).toNat j) =
 false) ∧
 ((xs = xs ∧ True) ∧
 (True ∧ True) ∧
 (True ∧ True) ∧
 fitTo zeroF (confF xs) x = fitTo zeroF (confF xs) x ∧
 ((↑x : Int) = (↑x : Int) ∧ True) ∧
 ((xs.getD (↑x : Int).toNat ((0 : Int), (0 : Int))).fst = (xs.getD (↑x : Int).toNat ((0 : Int), (0 : Int))).fst ∧
 (xs.getD (↑x : Int).toNat ((0 : Int), (0 : Int))).snd = (xs.getD (↑x : Int).toNat ((0 : Int), (0 : Int))).snd ∧ True) ∧
 (zeroF (↑x : Int).toNat + (↑x_1 : Int) = zeroF (↑x : Int).toNat + (↑x_1 : Int) ∧ True) ∧ True) ∧
 (0 : Int) = (↑x0 : Int) ∧
 (↑(belowF (↑x : Int)).length : Int) = (↑(belowF (↑x : Int)).length : Int) ∧
 belowF (↑x : Int) = belowF (↑x : Int) ∧ belowF (↑x : Int) = belowF (↑x : Int) ∧ True ∧ True) ∧
 ∀ (x_2 : Nat),
 (x_2 ≤ (↑x : Int).toNat ∧
 ∀ (j : Nat),
 j < x_2 →
 (decide ((fitTo zeroF (confF xs) (↑x : Int).toNat).getD j (0 : Int) = zeroF (↑x : Int).toNat + (↑x_1 : Int)) && confF xs (↑x : Int).toNat j) =
 false) →
 ((↑x_2 : Int) < (↑(belowF (↑x : Int)).length : Int) →
 (↑x_2 : Int) < (↑(belowF (↑x : Int)).length : Int) ∧
 ((0 : Int) ≤ (↑x_2 : Int) ∧ (↑x_2 : Int) < (↑(belowF (↑x : Int)).length : Int)) ∧
 ((0 : Int) ≤ (belowF (↑x : Int)).getD (↑x_2 : Int).toNat (0 : Int) ∧
 (belowF (↑x : Int)).getD (↑x_2 : Int).toNat (0 : Int) < (↑(fitTo zeroF (confF xs) x).length : Int)) ∧
 ((fitTo zeroF (confF xs) x).getD ((belowF (↑x : Int)).getD (↑x_2 : Int).toNat (0 : Int)).toNat (0 : Int) =
 zeroF (↑x : Int).toNat + (↑x_1 : Int) →
 (fitTo zeroF (confF xs) x).getD ((belowF (↑x : Int)).getD (↑x_2 : Int).toNat (0 : Int)).toNat (0 : Int) =
 zeroF (↑x : Int).toNat + (↑x_1 : Int) ∧
 (fitTo zeroF (confF xs) x).getD ((belowF (↑x : Int)).getD (↑x_2 : Int).toNat (0 : Int)).toNat (0 : Int) =
 zeroF (↑x : Int).toNat + (↑x_1 : Int) ∧
 True ∧
 (true = true →
 true = true ∧
 true = true ∧
 true = true ∧
 ((0 : Int) ≤ (belowF (↑x : Int)).getD (↑x_2 : Int).toNat (0 : Int) ∧
 (belowF (↑x : Int)).getD (↑x_2 : Int).toNat (0 : Int) < (↑xs.length : Int)) ∧
 True ∧
 (ovl ((xs.getD (↑x : Int).toNat ((0 : Int), (0 : Int))).fst, (xs.getD (↑x : Int).toNat ((0 : Int), (0 : Int))).snd)
 ((xs.getD ((belowF (↑x : Int)).getD (↑x_2 : Int).toNat (0 : Int)).toNat ((0 : Int), (0 : Int))).fst,
 (xs.getD ((belowF (↑x : Int)).getD (↑x_2 : Int).toNat (0 : Int)).toNat ((0 : Int), (0 : Int))).snd) =
 true →
 ovl
 ((xs.getD (↑x : Int).toNat ((0 : Int), (0 : Int))).fst,
 (xs.getD (↑x : Int).toNat ((0 : Int), (0 : Int))).snd)
 ((xs.getD ((belowF (↑x : Int)).getD (↑x_2 : Int).toNat (0 : Int)).toNat ((0 : Int), (0 : Int))).fst,
 (xs.getD ((belowF (↑x : Int)).getD (↑x_2 : Int).toNat (0 : Int)).toNat ((0 : Int), (0 : Int))).snd) =
 true ∧
 ((0 : Int) ≤ (↑x_2 : Int) →
 (0 : Int) ≤ (↑x_2 : Int) ∧
 Fits IntKind.i64 (zeroF (↑x : Int).toNat + (↑x_1 : Int) + (1 : Int)) ∧
 ∃ (x' : Nat),
 (x' ≤ (↑x : Int).toNat ∧
 ∀ (j : Nat),
 j < x' →
 zeroF (↑x : Int).toNat + (↑j : Int) ∈
 taken (confF xs) (fitTo zeroF (confF xs) (↑x : Int).toNat) (↑x : Int).toNat
 (↑x : Int).toNat) ∧
 (↑x : Int).toNat - x' < (↑x : Int).toNat - x_1 ∧
 ((xs = xs ∧ True) ∧
 (True ∧ True) ∧
 (True ∧ True) ∧
 fitTo zeroF (confF xs) x = fitTo zeroF (confF xs) x ∧
 ((↑x : Int) = (↑x : Int) ∧ True) ∧
 ((xs.getD (↑x : Int).toNat ((0 : Int), (0 : Int))).fst =
 (xs.getD (↑x : Int).toNat ((0 : Int), (0 : Int))).fst ∧
 (xs.getD (↑x : Int).toNat ((0 : Int), (0 : Int))).snd =
 (xs.getD (↑x : Int).toNat ((0 : Int), (0 : Int))).snd ∧
 True) ∧
 (zeroF (↑x : Int).toNat + (↑x_1 : Int) + (1 : Int) =
 zeroF (↑x : Int).toNat + (↑x' : Int) ∧
 True) ∧
 True) ∧
 True ∧
 True ∧
 True ∧
 (↑x : Int) = (↑x : Int) ∧
 (↑xs.length : Int) = (↑xs.length : Int) ∧
 xs = xs ∧ True ∧ True ∧ True ∧ True ∧ True) ∧
 (¬(0 : Int) ≤ (↑x_2 : Int) →
 ¬(0 : Int) ≤ (↑x_2 : Int) ∧
 Small ((fitTo zeroF (confF xs) x).length + ((0 : Nat) + (1 : Nat))) ∧
 Fits IntKind.i64 ((↑x : Int) + (1 : Int)) ∧
 ∃ (x' : Nat),
 x' ≤ xs.length ∧
 xs.length - x' < xs.length - x ∧
 ((xs = xs ∧ True) ∧
 (True ∧ True) ∧
 (True ∧ True) ∧
 fitTo zeroF (confF xs) x ++ [zeroF (↑x : Int).toNat + (↑x_1 : Int)] =
 fitTo zeroF (confF xs) x' ∧
 True) ∧
 (↑x : Int) + (1 : Int) = (↑x' : Int) ∧
 (↑xs.length : Int) = (↑xs.length : Int) ∧ xs = xs ∧ True ∧ True ∧ True ∧ True ∧ True)) ∧
 (ovl
 ((xs.getD (↑x : Int).toNat ((0 : Int), (0 : Int))).fst,
 (xs.getD (↑x : Int).toNat ((0 : Int), (0 : Int))).snd)
 ((xs.getD ((belowF (↑x : Int)).getD (↑x_2 : Int).toNat (0 : Int)).toNat ((0 : Int), (0 : Int))).fst,
 (xs.getD ((belowF (↑x : Int)).getD (↑x_2 : Int).toNat (0 : Int)).toNat ((0 : Int), (0 : Int))).snd) =
 false →
 ovl
 ((xs.getD (↑x : Int).toNat ((0 : Int), (0 : Int))).fst,
 (xs.getD (↑x : Int).toNat ((0 : Int), (0 : Int))).snd)
 ((xs.getD ((belowF (↑x : Int)).getD (↑x_2 : Int).toNat (0 : Int)).toNat ((0 : Int), (0 : Int))).fst,
 (xs.getD ((belowF (↑x : Int)).getD (↑x_2 : Int).toNat (0 : Int)).toNat ((0 : Int), (0 : Int))).snd) =
 false ∧
 Fits IntKind.i64 ((↑x_2 : Int) + (1 : Int)) ∧
 ∃ (x' : Nat),
 (x' ≤ (↑x : Int).toNat ∧
 ∀ (j : Nat),
 j < x' →
 (decide
 ((fitTo zeroF (confF xs) (↑x : Int).toNat).getD j (0 : Int) =
 zeroF (↑x : Int).toNat + (↑x_1 : Int)) &&
 confF xs (↑x : Int).toNat j) =
 false) ∧
 (↑x : Int).toNat - x' < (↑x : Int).toNat - x_2 ∧
 ((xs = xs ∧ True) ∧
 (True ∧ True) ∧
 (True ∧ True) ∧
 fitTo zeroF (confF xs) x = fitTo zeroF (confF xs) x ∧
 ((↑x : Int) = (↑x : Int) ∧ True) ∧
 ((xs.getD (↑x : Int).toNat ((0 : Int), (0 : Int))).fst =
 (xs.getD (↑x : Int).toNat ((0 : Int), (0 : Int))).fst ∧
 (xs.getD (↑x : Int).toNat ((0 : Int), (0 : Int))).snd =
 (xs.getD (↑x : Int).toNat ((0 : Int), (0 : Int))).snd ∧
 True) ∧
 (zeroF (↑x : Int).toNat + (↑x_1 : Int) = zeroF (↑x : Int).toNat + (↑x_1 : Int) ∧ True) ∧
 True) ∧
 (↑x_2 : Int) + (1 : Int) = (↑x' : Int) ∧
 (↑(belowF (↑x : Int)).length : Int) = (↑(belowF (↑x : Int)).length : Int) ∧
 belowF (↑x : Int) = belowF (↑x : Int) ∧ belowF (↑x : Int) = belowF (↑x : Int) ∧ True ∧ True)) ∧
 (true = false →
 true = false ∧
 true = false ∧
 true = false ∧
 Fits IntKind.i64 ((↑x_2 : Int) + (1 : Int)) ∧
 ∃ (x' : Nat),
 (x' ≤ (↑x : Int).toNat ∧
 ∀ (j : Nat),
 j < x' →
 (decide
 ((fitTo zeroF (confF xs) (↑x : Int).toNat).getD j (0 : Int) =
 zeroF (↑x : Int).toNat + (↑x_1 : Int)) &&
 confF xs (↑x : Int).toNat j) =
 false) ∧
 (↑x : Int).toNat - x' < (↑x : Int).toNat - x_2 ∧
 ((xs = xs ∧ True) ∧
 (True ∧ True) ∧
 (True ∧ True) ∧
 fitTo zeroF (confF xs) x = fitTo zeroF (confF xs) x ∧
 ((↑x : Int) = (↑x : Int) ∧ True) ∧
 ((xs.getD (↑x : Int).toNat ((0 : Int), (0 : Int))).fst =
 (xs.getD (↑x : Int).toNat ((0 : Int), (0 : Int))).fst ∧
 (xs.getD (↑x : Int).toNat ((0 : Int), (0 : Int))).snd =
 (xs.getD (↑x : Int).toNat ((0 : Int), (0 : Int))).snd ∧
 True) ∧
 (zeroF (↑x : Int).toNat + (↑x_1 : Int) = zeroF (↑x : Int).toNat + (↑x_1 : Int) ∧ True) ∧ True) ∧
 (↑x_2 : Int) + (1 : Int) = (↑x' : Int) ∧
 (↑(belowF (↑x : Int)).length : Int) = (↑(belowF (↑x : Int)).length : Int) ∧
 belowF (↑x : Int) = belowF (↑x : Int) ∧ belowF (↑x : Int) = belowF (↑x : Int) ∧ True ∧ True)) ∧
 (¬(fitTo zeroF (confF xs) x).getD ((belowF (↑x : Int)).getD (↑x_2 : Int).toNat (0 : Int)).toNat (0 : Int) =
 zeroF (↑x : Int).toNat + (↑x_1 : Int) →
 ¬(fitTo zeroF (confF xs) x).getD ((belowF (↑x : Int)).getD (↑x_2 : Int).toNat (0 : Int)).toNat (0 : Int) =
 zeroF (↑x : Int).toNat + (↑x_1 : Int) ∧
 ¬(fitTo zeroF (confF xs) x).getD ((belowF (↑x : Int)).getD (↑x_2 : Int).toNat (0 : Int)).toNat (0 : Int) =
 zeroF (↑x : Int).toNat + (↑x_1 : Int) ∧
 Fits IntKind.i64 ((↑x_2 : Int) + (1 : Int)) ∧
 ∃ (x' : Nat),
 (x' ≤ (↑x : Int).toNat ∧
 ∀ (j : Nat),
 j < x' →
 (decide ((fitTo zeroF (confF xs) (↑x : Int).toNat).getD j (0 : Int) = zeroF (↑x : Int).toNat + (↑x_1 : Int)) &&
 confF xs (↑x : Int).toNat j) =
 false) ∧
 (↑x : Int).toNat - x' < (↑x : Int).toNat - x_2 ∧
 ((xs = xs ∧ True) ∧
 (True ∧ True) ∧
 (True ∧ True) ∧
 fitTo zeroF (confF xs) x = fitTo zeroF (confF xs) x ∧
 ((↑x : Int) = (↑x : Int) ∧ True) ∧
 ((xs.getD (↑x : Int).toNat ((0 : Int), (0 : Int))).fst = (xs.getD (↑x : Int).toNat ((0 : Int), (0 : Int))).fst ∧
 (xs.getD (↑x : Int).toNat ((0 : Int), (0 : Int))).snd =
 (xs.getD (↑x : Int).toNat ((0 : Int), (0 : Int))).snd ∧
 True) ∧
 (zeroF (↑x : Int).toNat + (↑x_1 : Int) = zeroF (↑x : Int).toNat + (↑x_1 : Int) ∧ True) ∧ True) ∧
 (↑x_2 : Int) + (1 : Int) = (↑x' : Int) ∧
 (↑(belowF (↑x : Int)).length : Int) = (↑(belowF (↑x : Int)).length : Int) ∧
 belowF (↑x : Int) = belowF (↑x : Int) ∧ belowF (↑x : Int) = belowF (↑x : Int) ∧ True ∧ True)) ∧
 (¬(↑x_2 : Int) < (↑(belowF (↑x : Int)).length : Int) →
 ¬(↑x_2 : Int) < (↑(belowF (↑x : Int)).length : Int) ∧
 ((0 : Int) ≤ (-1 : Int) →
 (0 : Int) ≤ (-1 : Int) ∧
 Fits IntKind.i64 (zeroF (↑x : Int).toNat + (↑x_1 : Int) + (1 : Int)) ∧
 ∃ (x' : Nat),
 (x' ≤ (↑x : Int).toNat ∧
 ∀ (j : Nat),
 j < x' →
 zeroF (↑x : Int).toNat + (↑j : Int) ∈
 taken (confF xs) (fitTo zeroF (confF xs) (↑x : Int).toNat) (↑x : Int).toNat (↑x : Int).toNat) ∧
 (↑x : Int).toNat - x' < (↑x : Int).toNat - x_1 ∧
 ((xs = xs ∧ True) ∧
 (True ∧ True) ∧
 (True ∧ True) ∧
 fitTo zeroF (confF xs) x = fitTo zeroF (confF xs) x ∧
 ((↑x : Int) = (↑x : Int) ∧ True) ∧
 ((xs.getD (↑x : Int).toNat ((0 : Int), (0 : Int))).fst = (xs.getD (↑x : Int).toNat ((0 : Int), (0 : Int))).fst ∧
 (xs.getD (↑x : Int).toNat ((0 : Int), (0 : Int))).snd = (xs.getD (↑x : Int).toNat ((0 : Int), (0 : Int))).snd ∧
 True) ∧
 (zeroF (↑x : Int).toNat + (↑x_1 : Int) + (1 : Int) = zeroF (↑x : Int).toNat + (↑x' : Int) ∧ True) ∧ True) ∧
 True ∧
 True ∧
 True ∧ (↑x : Int) = (↑x : Int) ∧ (↑xs.length : Int) = (↑xs.length : Int) ∧ xs = xs ∧ True ∧ True ∧ True ∧ True ∧ True) ∧
 (¬(0 : Int) ≤ (-1 : Int) →
 ¬(0 : Int) ≤ (-1 : Int) ∧
 Small ((fitTo zeroF (confF xs) x).length + ((0 : Nat) + (1 : Nat))) ∧
 Fits IntKind.i64 ((↑x : Int) + (1 : Int)) ∧
 ∃ (x' : Nat),
 x' ≤ xs.length ∧
 xs.length - x' < xs.length - x ∧
 ((xs = xs ∧ True) ∧
 (True ∧ True) ∧
 (True ∧ True) ∧ fitTo zeroF (confF xs) x ++ [zeroF (↑x : Int).toNat + (↑x_1 : Int)] = fitTo zeroF (confF xs) x' ∧ True) ∧
 (↑x : Int) + (1 : Int) = (↑x' : Int) ∧
 (↑xs.length : Int) = (↑xs.length : Int) ∧ xs = xs ∧ True ∧ True ∧ True ∧ True ∧ True))) ∧
 (¬(↑x : Int) < (↑xs.length : Int) → ¬(↑x : Int) < (↑xs.length : Int) ∧ fitTo zeroF (confF xs) x = firstF xs)) := by
 kernel_rfl

theorem g44_eq (xs : List Sp) : g44 xs = (
 (∃ (x0 : Nat), x0 ≤ xs.length ∧ ([] = levelsTo xs x0 ∧ True) ∧ (0 : Int) = (↑x0 : Int) ∧ True ∧ (↑xs.length : Int) = (↑xs.length : Int) ∧ xs = xs ∧ xs = xs ∧ True) ∧
 ∀ (x : Nat),
 x ≤ xs.length →
 ((↑x : Int) < (↑xs.length : Int) →
 (↑x : Int) < (↑xs.length : Int) ∧
 ((0 : Int) ≤ (↑x : Int) ∧ (↑x : Int) < (↑xs.length : Int)) ∧
 (∃ (x0 : Nat),
 (x0 ≤ (↑x : Int).toNat ∧
 ∀ (j : Nat),
 j < x0 →
 ¬(↑(deepF (lowTo xs (levelsTo xs (↑x : Int).toNat) (↑x : Int).toNat ((1 : Int) + (↑j : Int)) (↑x : Int).toNat)).snd.length : Int) ≤
 (1 : Int) + (↑j : Int)) ∧
 (levelsTo xs x = levelsTo xs x ∧
 ((xs.getD (↑x : Int).toNat ((0 : Int), (0 : Int))).fst = (xs.getD (↑x : Int).toNat ((0 : Int), (0 : Int))).fst ∧
 (xs.getD (↑x : Int).toNat ((0 : Int), (0 : Int))).snd = (xs.getD (↑x : Int).toNat ((0 : Int), (0 : Int))).snd ∧ True) ∧
 True) ∧
 (1 : Int) = (1 : Int) + (↑x0 : Int) ∧
 (↑x : Int) = (↑x : Int) ∧ True ∧ (↑x : Int) = (↑x : Int) ∧ True ∧ (↑xs.length : Int) = (↑xs.length : Int) ∧ xs = xs ∧ xs = xs ∧ True) ∧
 ∀ (x_1 : Nat),
 (x_1 ≤ (↑x : Int).toNat ∧
 ∀ (j : Nat),
 j < x_1 →
 ¬(↑(deepF (lowTo xs (levelsTo xs (↑x : Int).toNat) (↑x : Int).toNat ((1 : Int) + (↑j : Int)) (↑x : Int).toNat)).snd.length : Int) ≤
 (1 : Int) + (↑j : Int)) →
 ((0 : Int) ≤ (↑(0 : Nat) : Int) ∧ (↑(0 : Nat) : Int) ≤ (↑x : Int) ∧ (↑x : Int) ≤ (↑xs.length : Int)) ∧
 True ∧
 (∃ (x0 : Nat),
 x0 ≤ (↑x : Int).toNat ∧
 (levelsTo xs x = levelsTo xs x ∧
 ((xs.getD (↑x : Int).toNat ((0 : Int), (0 : Int))).fst = (xs.getD (↑x : Int).toNat ((0 : Int), (0 : Int))).fst ∧
 (xs.getD (↑x : Int).toNat ((0 : Int), (0 : Int))).snd = (xs.getD (↑x : Int).toNat ((0 : Int), (0 : Int))).snd ∧ True) ∧
 [((xs.getD (↑x : Int).toNat ((0 : Int), (0 : Int))).fst, (xs.getD (↑x : Int).toNat ((0 : Int), (0 : Int))).snd)] =
 lowTo xs (levelsTo xs (↑x : Int).toNat) (↑x : Int).toNat ((1 : Int) + (↑x_1 : Int)) x0 ∧
 True) ∧
 (0 : Int) = (↑x0 : Int) ∧
 True ∧
 (↑(List.drop (↑(0 : Nat) : Int).toNat (List.take (↑x : Int).toNat xs)).length : Int) =
 (↑(List.drop (↑(0 : Nat) : Int).toNat (List.take (↑x : Int).toNat xs)).length : Int) ∧
 List.drop (↑(0 : Nat) : Int).toNat (List.take (↑x : Int).toNat xs) = List.drop (↑(0 : Nat) : Int).toNat (List.take (↑x : Int).toNat xs) ∧
 (1 : Int) + (↑x_1 : Int) = (1 : Int) + (↑x_1 : Int) ∧
 (↑x : Int) = (↑x : Int) ∧ True ∧ (↑x : Int) = (↑x : Int) ∧ True ∧ (↑xs.length : Int) = (↑xs.length : Int) ∧ xs = xs ∧ xs = xs ∧ True) ∧
 ∀ (x_2 : Nat),
 x_2 ≤ (↑x : Int).toNat →
 ((↑x_2 : Int) < (↑(List.drop (↑(0 : Nat) : Int).toNat (List.take (↑x : Int).toNat xs)).length : Int) →
 (↑x_2 : Int) < (↑(List.drop (↑(0 : Nat) : Int).toNat (List.take (↑x : Int).toNat xs)).length : Int) ∧
 ((0 : Int) ≤ (↑x_2 : Int) ∧ (↑x_2 : Int) < (↑(List.drop (↑(0 : Nat) : Int).toNat (List.take (↑x : Int).toNat xs)).length : Int)) ∧
 ((0 : Int) ≤ (↑x_2 : Int) ∧ (↑x_2 : Int) < (↑(levelsTo xs x).length : Int)) ∧
 ((levelsTo xs x).getD (↑x_2 : Int).toNat (0 : Int) ≤ (1 : Int) + (↑x_1 : Int) →
 (levelsTo xs x).getD (↑x_2 : Int).toNat (0 : Int) ≤ (1 : Int) + (↑x_1 : Int) ∧
 (levelsTo xs x).getD (↑x_2 : Int).toNat (0 : Int) ≤ (1 : Int) + (↑x_1 : Int) ∧
 True ∧
 (ovl ((xs.getD (↑x : Int).toNat ((0 : Int), (0 : Int))).fst, (xs.getD (↑x : Int).toNat ((0 : Int), (0 : Int))).snd)
 (((List.drop (↑(0 : Nat) : Int).toNat (List.take (↑x : Int).toNat xs)).getD (↑x_2 : Int).toNat
 ((0 : Int), (0 : Int))).fst,
 ((List.drop (↑(0 : Nat) : Int).toNat (List.take (↑x : Int).toNat xs)).getD (↑x_2 : Int).toNat
 ((0 : Int), (0 : Int))).snd) =
 true →
 ovl ((xs.getD (↑x : Int).toNat ((0 : Int), (0 : Int))).fst, (xs.getD (↑x : Int).toNat ((0 : Int), (0 : Int))).snd)
 (((List.drop (↑(0 : Nat) : Int).toNat (List.take (↑x : Int).toNat xs)).getD (↑x_2 : Int).toNat
 ((0 : Int), (0 : Int))).fst,
 ((List.drop (↑(0 : Nat) : Int).toNat (List.take (↑x : Int).toNat xs)).getD (↑x_2 : Int).toNat
 ((0 : Int), (0 : Int))).snd) =
 true ∧
 ovl ((xs.getD (↑x : Int).toNat ((0 : Int), (0 : Int))).fst, (xs.getD (↑x : Int).toNat ((0 : Int), (0 : Int))).snd)
 (((List.drop (↑(0 : Nat) : Int).toNat (List.take (↑x : Int).toNat xs)).getD (↑x_2 : Int).toNat
 ((0 : Int), (0 : Int))).fst,
 ((List.drop (↑(0 : Nat) : Int).toNat (List.take (↑x : Int).toNat xs)).getD (↑x_2 : Int).toNat
 ((0 : Int), (0 : Int))).snd) =
 true ∧
 True ∧
 Small
 ((lowTo xs (levelsTo xs (↑x : Int).toNat) (↑x : Int).toNat ((1 : Int) + (↑x_1 : Int)) x_2).length +
 ((0 : Nat) + (1 : Nat))) ∧
 Fits IntKind.i64 ((↑x_2 : Int) + (1 : Int)) ∧
 ∃ (x' : Nat),
 x' ≤ (↑x : Int).toNat ∧
 (↑x : Int).toNat - x' < (↑x : Int).toNat - x_2 ∧
 (levelsTo xs x = levelsTo xs x ∧
 ((xs.getD (↑x : Int).toNat ((0 : Int), (0 : Int))).fst =
 (xs.getD (↑x : Int).toNat ((0 : Int), (0 : Int))).fst ∧
 (xs.getD (↑x : Int).toNat ((0 : Int), (0 : Int))).snd =
 (xs.getD (↑x : Int).toNat ((0 : Int), (0 : Int))).snd ∧
 True) ∧
 lowTo xs (levelsTo xs (↑x : Int).toNat) (↑x : Int).toNat ((1 : Int) + (↑x_1 : Int)) x_2 ++
 [((common
 ((xs.getD (↑x : Int).toNat ((0 : Int), (0 : Int))).fst,
 (xs.getD (↑x : Int).toNat ((0 : Int), (0 : Int))).snd)
 (((List.drop (↑(0 : Nat) : Int).toNat (List.take (↑x : Int).toNat xs)).getD
 (↑x_2 : Int).toNat ((0 : Int), (0 : Int))).fst,
 ((List.drop (↑(0 : Nat) : Int).toNat (List.take (↑x : Int).toNat xs)).getD
 (↑x_2 : Int).toNat ((0 : Int), (0 : Int))).snd)).fst,
 (common
 ((xs.getD (↑x : Int).toNat ((0 : Int), (0 : Int))).fst,
 (xs.getD (↑x : Int).toNat ((0 : Int), (0 : Int))).snd)
 (((List.drop (↑(0 : Nat) : Int).toNat (List.take (↑x : Int).toNat xs)).getD
 (↑x_2 : Int).toNat ((0 : Int), (0 : Int))).fst,
 ((List.drop (↑(0 : Nat) : Int).toNat (List.take (↑x : Int).toNat xs)).getD
 (↑x_2 : Int).toNat ((0 : Int), (0 : Int))).snd)).snd)] =
 lowTo xs (levelsTo xs (↑x : Int).toNat) (↑x : Int).toNat ((1 : Int) + (↑x_1 : Int)) x' ∧
 True) ∧
 (↑x_2 : Int) + (1 : Int) = (↑x' : Int) ∧
 True ∧
 (↑(List.drop (↑(0 : Nat) : Int).toNat (List.take (↑x : Int).toNat xs)).length : Int) =
 (↑(List.drop (↑(0 : Nat) : Int).toNat (List.take (↑x : Int).toNat xs)).length : Int) ∧
 List.drop (↑(0 : Nat) : Int).toNat (List.take (↑x : Int).toNat xs) =
 List.drop (↑(0 : Nat) : Int).toNat (List.take (↑x : Int).toNat xs) ∧
 (1 : Int) + (↑x_1 : Int) = (1 : Int) + (↑x_1 : Int) ∧
 (↑x : Int) = (↑x : Int) ∧
 True ∧
 (↑x : Int) = (↑x : Int) ∧
 True ∧ (↑xs.length : Int) = (↑xs.length : Int) ∧ xs = xs ∧ xs = xs ∧ True) ∧
 (ovl ((xs.getD (↑x : Int).toNat ((0 : Int), (0 : Int))).fst, (xs.getD (↑x : Int).toNat ((0 : Int), (0 : Int))).snd)
 (((List.drop (↑(0 : Nat) : Int).toNat (List.take (↑x : Int).toNat xs)).getD (↑x_2 : Int).toNat
 ((0 : Int), (0 : Int))).fst,
 ((List.drop (↑(0 : Nat) : Int).toNat (List.take (↑x : Int).toNat xs)).getD (↑x_2 : Int).toNat
 ((0 : Int), (0 : Int))).snd) =
 false →
 ovl ((xs.getD (↑x : Int).toNat ((0 : Int), (0 : Int))).fst, (xs.getD (↑x : Int).toNat ((0 : Int), (0 : Int))).snd)
 (((List.drop (↑(0 : Nat) : Int).toNat (List.take (↑x : Int).toNat xs)).getD (↑x_2 : Int).toNat
 ((0 : Int), (0 : Int))).fst,
 ((List.drop (↑(0 : Nat) : Int).toNat (List.take (↑x : Int).toNat xs)).getD (↑x_2 : Int).toNat
 ((0 : Int), (0 : Int))).snd) =
 false ∧
 ovl ((xs.getD (↑x : Int).toNat ((0 : Int), (0 : Int))).fst, (xs.getD (↑x : Int).toNat ((0 : Int), (0 : Int))).snd)
 (((List.drop (↑(0 : Nat) : Int).toNat (List.take (↑x : Int).toNat xs)).getD (↑x_2 : Int).toNat
 ((0 : Int), (0 : Int))).fst,
 ((List.drop (↑(0 : Nat) : Int).toNat (List.take (↑x : Int).toNat xs)).getD (↑x_2 : Int).toNat
 ((0 : Int), (0 : Int))).snd) =
 false ∧
 Fits IntKind.i64 ((↑x_2 : Int) + (1 : Int)) ∧
 ∃ (x' : Nat),
 x' ≤ (↑x : Int).toNat ∧
 (↑x : Int).toNat - x' < (↑x : Int).toNat - x_2 ∧
 (levelsTo xs x = levelsTo xs x ∧
 ((xs.getD (↑x : Int).toNat ((0 : Int), (0 : Int))).fst =
 (xs.getD (↑x : Int).toNat ((0 : Int), (0 : Int))).fst ∧
 (xs.getD (↑x : Int).toNat ((0 : Int), (0 : Int))).snd =
 (xs.getD (↑x : Int).toNat ((0 : Int), (0 : Int))).snd ∧
 True) ∧
 lowTo xs (levelsTo xs (↑x : Int).toNat) (↑x : Int).toNat ((1 : Int) + (↑x_1 : Int)) x_2 =
 lowTo xs (levelsTo xs (↑x : Int).toNat) (↑x : Int).toNat ((1 : Int) + (↑x_1 : Int)) x' ∧
 True) ∧
 (↑x_2 : Int) + (1 : Int) = (↑x' : Int) ∧
 True ∧
 (↑(List.drop (↑(0 : Nat) : Int).toNat (List.take (↑x : Int).toNat xs)).length : Int) =
 (↑(List.drop (↑(0 : Nat) : Int).toNat (List.take (↑x : Int).toNat xs)).length : Int) ∧
 List.drop (↑(0 : Nat) : Int).toNat (List.take (↑x : Int).toNat xs) =
 List.drop (↑(0 : Nat) : Int).toNat (List.take (↑x : Int).toNat xs) ∧
 (1 : Int) + (↑x_1 : Int) = (1 : Int) + (↑x_1 : Int) ∧
 (↑x : Int) = (↑x : Int) ∧
 True ∧
 (↑x : Int) = (↑x : Int) ∧
 True ∧ (↑xs.length : Int) = (↑xs.length : Int) ∧ xs = xs ∧ xs = xs ∧ True)) ∧
 (¬(levelsTo xs x).getD (↑x_2 : Int).toNat (0 : Int) ≤ (1 : Int) + (↑x_1 : Int) →
 ¬(levelsTo xs x).getD (↑x_2 : Int).toNat (0 : Int) ≤ (1 : Int) + (↑x_1 : Int) ∧
 ¬(levelsTo xs x).getD (↑x_2 : Int).toNat (0 : Int) ≤ (1 : Int) + (↑x_1 : Int) ∧
 Fits IntKind.i64 ((↑x_2 : Int) + (1 : Int)) ∧
 ∃ (x' : Nat),
 x' ≤ (↑x : Int).toNat ∧
 (↑x : Int).toNat - x' < (↑x : Int).toNat - x_2 ∧
 (levelsTo xs x = levelsTo xs x ∧
 ((xs.getD (↑x : Int).toNat ((0 : Int), (0 : Int))).fst = (xs.getD (↑x : Int).toNat ((0 : Int), (0 : Int))).fst ∧
 (xs.getD (↑x : Int).toNat ((0 : Int), (0 : Int))).snd = (xs.getD (↑x : Int).toNat ((0 : Int), (0 : Int))).snd ∧
 True) ∧
 lowTo xs (levelsTo xs (↑x : Int).toNat) (↑x : Int).toNat ((1 : Int) + (↑x_1 : Int)) x_2 =
 lowTo xs (levelsTo xs (↑x : Int).toNat) (↑x : Int).toNat ((1 : Int) + (↑x_1 : Int)) x' ∧
 True) ∧
 (↑x_2 : Int) + (1 : Int) = (↑x' : Int) ∧
 True ∧
 (↑(List.drop (↑(0 : Nat) : Int).toNat (List.take (↑x : Int).toNat xs)).length : Int) =
 (↑(List.drop (↑(0 : Nat) : Int).toNat (List.take (↑x : Int).toNat xs)).length : Int) ∧
 List.drop (↑(0 : Nat) : Int).toNat (List.take (↑x : Int).toNat xs) =
 List.drop (↑(0 : Nat) : Int).toNat (List.take (↑x : Int).toNat xs) ∧
 (1 : Int) + (↑x_1 : Int) = (1 : Int) + (↑x_1 : Int) ∧
 (↑x : Int) = (↑x : Int) ∧
 True ∧ (↑x : Int) = (↑x : Int) ∧ True ∧ (↑xs.length : Int) = (↑xs.length : Int) ∧ xs = xs ∧ xs = xs ∧ True)) ∧
 (¬(↑x_2 : Int) < (↑(List.drop (↑(0 : Nat) : Int).toNat (List.take (↑x : Int).toNat xs)).length : Int) →
 ¬(↑x_2 : Int) < (↑(List.drop (↑(0 : Nat) : Int).toNat (List.take (↑x : Int).toNat xs)).length : Int) ∧
 (lowTo xs (levelsTo xs (↑x : Int).toNat) (↑x : Int).toNat ((1 : Int) + (↑x_1 : Int)) x_2).length ≤ (1000 : Nat) ∧
 ((↑(deepF (lowTo xs (levelsTo xs (↑x : Int).toNat) (↑x : Int).toNat ((1 : Int) + (↑x_1 : Int)) x_2)).snd.length : Int) ≤
 (1 : Int) + (↑x_1 : Int) →
 (↑(deepF (lowTo xs (levelsTo xs (↑x : Int).toNat) (↑x : Int).toNat ((1 : Int) + (↑x_1 : Int)) x_2)).snd.length : Int) ≤
 (1 : Int) + (↑x_1 : Int) ∧
 Small ((levelsTo xs x).length + ((0 : Nat) + (1 : Nat))) ∧
 Fits IntKind.i64 ((↑x : Int) + (1 : Int)) ∧
 ∃ (x' : Nat),
 x' ≤ xs.length ∧
 xs.length - x' < xs.length - x ∧
 (levelsTo xs x ++ [(1 : Int) + (↑x_1 : Int)] = levelsTo xs x' ∧ True) ∧
 (↑x : Int) + (1 : Int) = (↑x' : Int) ∧ True ∧ (↑xs.length : Int) = (↑xs.length : Int) ∧ xs = xs ∧ xs = xs ∧ True) ∧
 (¬(↑(deepF (lowTo xs (levelsTo xs (↑x : Int).toNat) (↑x : Int).toNat ((1 : Int) + (↑x_1 : Int)) x_2)).snd.length : Int) ≤
 (1 : Int) + (↑x_1 : Int) →
 ¬(↑(deepF (lowTo xs (levelsTo xs (↑x : Int).toNat) (↑x : Int).toNat ((1 : Int) + (↑x_1 : Int)) x_2)).snd.length : Int) ≤
 (1 : Int) + (↑x_1 : Int) ∧
 Fits IntKind.i64 ((1 : Int) + (↑x_1 : Int) + (1 : Int)) ∧
 ∃ (x' : Nat),
 (x' ≤ (↑x : Int).toNat ∧
 ∀ (j : Nat),
 j < x' →
 ¬(↑(deepF (lowTo xs (levelsTo xs (↑x : Int).toNat) (↑x : Int).toNat ((1 : Int) + (↑j : Int)) (↑x : Int).toNat)).snd.length :
 Int) ≤
 (1 : Int) + (↑j : Int)) ∧
 (↑x : Int).toNat - x' < (↑x : Int).toNat - x_1 ∧
 (levelsTo xs x = levelsTo xs x ∧
 ((xs.getD (↑x : Int).toNat ((0 : Int), (0 : Int))).fst = (xs.getD (↑x : Int).toNat ((0 : Int), (0 : Int))).fst ∧
 (xs.getD (↑x : Int).toNat ((0 : Int), (0 : Int))).snd = (xs.getD (↑x : Int).toNat ((0 : Int), (0 : Int))).snd ∧ True) ∧
 True) ∧
 (1 : Int) + (↑x_1 : Int) + (1 : Int) = (1 : Int) + (↑x' : Int) ∧
 (↑x : Int) = (↑x : Int) ∧
 True ∧ (↑x : Int) = (↑x : Int) ∧ True ∧ (↑xs.length : Int) = (↑xs.length : Int) ∧ xs = xs ∧ xs = xs ∧ True))) ∧
 (¬(↑x : Int) < (↑xs.length : Int) → ¬(↑x : Int) < (↑xs.length : Int) ∧ levelsTo xs x = levelsF xs)) := by
 kernel_rfl

theorem g31_eq (xs : List Sp) : g31 xs = (
 xs.length ≤ (1000 : Nat) ∧
 (¬checkF xs = (0 : Int) → ¬checkF xs = (0 : Int) ∧ ([], checkF xs) = guardF xs firstF) ∧
 (¬¬checkF xs = (0 : Int) → ¬¬checkF xs = (0 : Int) ∧ xs.length ≤ (100 : Nat) ∧ (firstF xs, (0 : Int)) = guardF xs firstF)) := by
 kernel_rfl

theorem g25_eq (xs : List Sp) : g25 xs = (
 xs.length ≤ (1000 : Nat) ∧
 (¬checkF xs = (0 : Int) → ¬checkF xs = (0 : Int) ∧ ([], checkF xs) = guardF xs levelsF) ∧
 (¬¬checkF xs = (0 : Int) → ¬¬checkF xs = (0 : Int) ∧ xs.length ≤ (100 : Nat) ∧ (levelsF xs, (0 : Int)) = guardF xs levelsF)) := by
 kernel_rfl

theorem g26_eq (xs : List Sp) : g26 xs = (
 xs.length ≤ (1000 : Nat) ∧
 (¬checkF xs = (0 : Int) → ¬checkF xs = (0 : Int) ∧ ([], checkF xs) = guardF xs trotF) ∧
 (¬¬checkF xs = (0 : Int) →
 ¬¬checkF xs = (0 : Int) ∧
 xs.length ≤ (100 : Nat) ∧
 (∃ (x0 : Nat),
 x0 ≤ xs.length ∧
 ((levelsF xs = levelsF xs ∧ True) ∧ (xs = xs ∧ True) ∧ (True ∧ True) ∧ (True ∧ True) ∧ [] = fitTo (startT (levelsF xs)) (confT xs (levelsF xs)) x0 ∧ True) ∧
 (0 : Int) = (↑x0 : Int) ∧ (↑xs.length : Int) = (↑xs.length : Int) ∧ xs = xs ∧ True ∧ True ∧ True ∧ True ∧ True) ∧
 ∀ (x : Nat),
 x ≤ xs.length →
 ((↑x : Int) < (↑xs.length : Int) →
 (↑x : Int) < (↑xs.length : Int) ∧
 ((0 : Int) ≤ (↑x : Int) ∧ (↑x : Int) < (↑xs.length : Int)) ∧
 ((0 : Int) ≤ (↑x : Int) ∧ (↑x : Int) < (↑(levelsF xs).length : Int)) ∧
 Fits IntKind.i64 ((3 : Int) * (levelsF xs).getD (↑x : Int).toNat (0 : Int)) ∧
 Fits IntKind.i64 ((3 : Int) * (levelsF xs).getD (↑x : Int).toNat (0 : Int) - (5 : Int)) ∧
 (∃ (x0 : Nat),
 (x0 ≤ (↑x : Int).toNat ∧
 ∀ (j : Nat),
 j < x0 →
 startT (levelsF xs) (↑x : Int).toNat + (↑j : Int) ∈
 taken (confT xs (levelsF xs)) (fitTo (startT (levelsF xs)) (confT xs (levelsF xs)) (↑x : Int).toNat) (↑x : Int).toNat
 (↑x : Int).toNat) ∧
 ((levelsF xs = levelsF xs ∧ True) ∧
 (xs = xs ∧ True) ∧
 (True ∧ True) ∧
 (True ∧ True) ∧
 fitTo (startT (levelsF xs)) (confT xs (levelsF xs)) x = fitTo (startT (levelsF xs)) (confT xs (levelsF xs)) x ∧
 ((↑x : Int) = (↑x : Int) ∧ True) ∧
 ((xs.getD (↑x : Int).toNat ((0 : Int), (0 : Int))).fst = (xs.getD (↑x : Int).toNat ((0 : Int), (0 : Int))).fst ∧
 (xs.getD (↑x : Int).toNat ((0 : Int), (0 : Int))).snd = (xs.getD (↑x : Int).toNat ((0 : Int), (0 : Int))).snd ∧ True) ∧
 (max ((3 : Int) * (levelsF xs).getD (↑x : Int).toNat (0 : Int) - (5 : Int)) (0 : Int) =
 startT (levelsF xs) (↑x : Int).toNat + (↑x0 : Int) ∧
 True) ∧
 True) ∧
 True ∧ True ∧ True ∧ (↑x : Int) = (↑x : Int) ∧ (↑xs.length : Int) = (↑xs.length : Int) ∧ xs = xs ∧ True ∧ True ∧ True ∧ True ∧ True) ∧
 ∀ (x_1 : Nat),
 (x_1 ≤ (↑x : Int).toNat ∧
 ∀ (j : Nat),
 j < x_1 →
 startT (levelsF xs) (↑x : Int).toNat + (↑j : Int) ∈
 taken (confT xs (levelsF xs)) (fitTo (startT (levelsF xs)) (confT xs (levelsF xs)) (↑x : Int).toNat) (↑x : Int).toNat
 (↑x : Int).toNat) →
 ((0 : Int) ≤ (↑x : Int) ∧ (↑x : Int) ≤ (1000 : Int)) ∧
 (∃ (x0 : Nat),
 (x0 ≤ (↑x : Int).toNat ∧
 ∀ (j : Nat),
 j < x0 →
 (decide
 ((fitTo (startT (levelsF xs)) (confT xs (levelsF xs)) (↑x : Int).toNat).getD j (0 : Int) =
 startT (levelsF xs) (↑x : Int).toNat + (↑x_1 : Int)) &&
 confT xs (levelsF xs) (↑x : Int).toNat j) =
 false) ∧
 ((levelsF xs = levelsF xs ∧ True) ∧
 (xs = xs ∧ True) ∧
 (True ∧ True) ∧
 (True ∧ True) ∧
 fitTo (startT (levelsF xs)) (confT xs (levelsF xs)) x = fitTo (startT (levelsF xs)) (confT xs (levelsF xs)) x ∧
 ((↑x : Int) = (↑x : Int) ∧ True) ∧
 ((xs.getD (↑x : Int).toNat ((0 : Int), (0 : Int))).fst = (xs.getD (↑x : Int).toNat ((0 : Int), (0 : Int))).fst ∧
 (xs.getD (↑x : Int).toNat ((0 : Int), (0 : Int))).snd = (xs.getD (↑x : Int).toNat ((0 : Int), (0 : Int))).snd ∧
 True) ∧
 (startT (levelsF xs) (↑x : Int).toNat + (↑x_1 : Int) = startT (levelsF xs) (↑x : Int).toNat + (↑x_1 : Int) ∧ True) ∧
 True) ∧
 (0 : Int) = (↑x0 : Int) ∧
 (↑(belowF (↑x : Int)).length : Int) = (↑(belowF (↑x : Int)).length : Int) ∧
 belowF (↑x : Int) = belowF (↑x : Int) ∧ belowF (↑x : Int) = belowF (↑x : Int) ∧ True ∧ True) ∧
 ∀ (x_2 : Nat),
 (x_2 ≤ (↑x : Int).toNat ∧
 ∀ (j : Nat),
 j < x_2 →
 (decide
 ((fitTo (startT (levelsF xs)) (confT xs (levelsF xs)) (↑x : Int).toNat).getD j (0 : Int) =
 startT (levelsF xs) (↑x : Int).toNat + (↑x_1 : Int)) &&
 confT xs (levelsF xs) (↑x : Int).toNat j) =
 false) →
 ((↑x_2 : Int) < (↑(belowF (↑x : Int)).length : Int) →
 (↑x_2 : Int) < (↑(belowF (↑x : Int)).length : Int) ∧
 ((0 : Int) ≤ (↑x_2 : Int) ∧ (↑x_2 : Int) < (↑(belowF (↑x : Int)).length : Int)) ∧
 ((0 : Int) ≤ (belowF (↑x : Int)).getD (↑x_2 : Int).toNat (0 : Int) ∧
 (belowF (↑x : Int)).getD (↑x_2 : Int).toNat (0 : Int) <
 (↑(fitTo (startT (levelsF xs)) (confT xs (levelsF xs)) x).length : Int)) ∧
 ((fitTo (startT (levelsF xs)) (confT xs (levelsF xs)) x).getD ((belowF (↑x : Int)).getD (↑x_2 : Int).toNat (0 : Int)).toNat
 (0 : Int) =
 startT (levelsF xs) (↑x : Int).toNat + (↑x_1 : Int) →
 (fitTo (startT (levelsF xs)) (confT xs (levelsF xs)) x).getD ((belowF (↑x : Int)).getD (↑x_2 : Int).toNat (0 : Int)).toNat
 (0 : Int) =
 startT (levelsF xs) (↑x : Int).toNat + (↑x_1 : Int) ∧
 (fitTo (startT (levelsF xs)) (confT xs (levelsF xs)) x).getD
 ((belowF (↑x : Int)).getD (↑x_2 : Int).toNat (0 : Int)).toNat (0 : Int) =
 startT (levelsF xs) (↑x : Int).toNat + (↑x_1 : Int) ∧
 ((0 : Int) ≤ (↑x : Int) ∧ (↑x : Int) < (↑(levelsF xs).length : Int)) ∧
 ((0 : Int) ≤ (belowF (↑x : Int)).getD (↑x_2 : Int).toNat (0 : Int) ∧
 (belowF (↑x : Int)).getD (↑x_2 : Int).toNat (0 : Int) < (↑(levelsF xs).length : Int)) ∧
 ((levelsF xs).getD (↑x : Int).toNat (0 : Int) =
 (levelsF xs).getD ((belowF (↑x : Int)).getD (↑x_2 : Int).toNat (0 : Int)).toNat (0 : Int) →
 (levelsF xs).getD (↑x : Int).toNat (0 : Int) =
 (levelsF xs).getD ((belowF (↑x : Int)).getD (↑x_2 : Int).toNat (0 : Int)).toNat (0 : Int) ∧
 (levelsF xs).getD (↑x : Int).toNat (0 : Int) =
 (levelsF xs).getD ((belowF (↑x : Int)).getD (↑x_2 : Int).toNat (0 : Int)).toNat (0 : Int) ∧
 (levelsF xs).getD (↑x : Int).toNat (0 : Int) =
 (levelsF xs).getD ((belowF (↑x : Int)).getD (↑x_2 : Int).toNat (0 : Int)).toNat (0 : Int) ∧
 ((0 : Int) ≤ (belowF (↑x : Int)).getD (↑x_2 : Int).toNat (0 : Int) ∧
 (belowF (↑x : Int)).getD (↑x_2 : Int).toNat (0 : Int) < (↑xs.length : Int)) ∧
 True ∧
 (ovl
 ((xs.getD (↑x : Int).toNat ((0 : Int), (0 : Int))).fst,
 (xs.getD (↑x : Int).toNat ((0 : Int), (0 : Int))).snd)
 ((xs.getD ((belowF (↑x : Int)).getD (↑x_2 : Int).toNat (0 : Int)).toNat
 ((0 : Int), (0 : Int))).fst,
 (xs.getD ((belowF (↑x : Int)).getD (↑x_2 : Int).toNat (0 : Int)).toNat
 ((0 : Int), (0 : Int))).snd) =
 true →
 ovl
 ((xs.getD (↑x : Int).toNat ((0 : Int), (0 : Int))).fst,
 (xs.getD (↑x : Int).toNat ((0 : Int), (0 : Int))).snd)
 ((xs.getD ((belowF (↑x : Int)).getD (↑x_2 : Int).toNat (0 : Int)).toNat
 ((0 : Int), (0 : Int))).fst,
 (xs.getD ((belowF (↑x : Int)).getD (↑x_2 : Int).toNat (0 : Int)).toNat
 ((0 : Int), (0 : Int))).snd) =
 true ∧
 ((0 : Int) ≤ (↑x_2 : Int) →
 (0 : Int) ≤ (↑x_2 : Int) ∧
 Fits IntKind.i64 (startT (levelsF xs) (↑x : Int).toNat + (↑x_1 : Int) + (1 : Int)) ∧
 ∃ (x' : Nat),
 (x' ≤ (↑x : Int).toNat ∧
 ∀ (j : Nat),
 j < x' →
 startT (levelsF xs) (↑x : Int).toNat + (↑j : Int) ∈
 taken (confT xs (levelsF xs))
 (fitTo (startT (levelsF xs)) (confT xs (levelsF xs)) (↑x : Int).toNat)
 (↑x : Int).toNat (↑x : Int).toNat) ∧
 (↑x : Int).toNat - x' < (↑x : Int).toNat - x_1 ∧
 ((levelsF xs = levelsF xs ∧ True) ∧
 (xs = xs ∧ True) ∧
 (True ∧ True) ∧
 (True ∧ True) ∧
 fitTo (startT (levelsF xs)) (confT xs (levelsF xs)) x =
 fitTo (startT (levelsF xs)) (confT xs (levelsF xs)) x ∧
 ((↑x : Int) = (↑x : Int) ∧ True) ∧
 ((xs.getD (↑x : Int).toNat ((0 : Int), (0 : Int))).fst =
 (xs.getD (↑x : Int).toNat ((0 : Int), (0 : Int))).fst ∧
 (xs.getD (↑x : Int).toNat ((0 : Int), (0 : Int))).snd =
 (xs.getD (↑x : Int).toNat ((0 : Int), (0 : Int))).snd ∧
 True) ∧
 (startT (levelsF xs) (↑x : Int).toNat + (↑x_1 : Int) +
 (1 : Int) =
 startT (levelsF xs) (↑x : Int).toNat + (↑x' : Int) ∧
 True) ∧
 True) ∧
 True ∧
 True ∧
 True ∧
 (↑x : Int) = (↑x : Int) ∧
 (↑xs.length : Int) = (↑xs.length : Int) ∧
 xs = xs ∧ True ∧ True ∧ True ∧ True ∧ True) ∧
 (¬(0 : Int) ≤ (↑x_2 : Int) →
 ¬(0 : Int) ≤ (↑x_2 : Int) ∧
 Small
 ((fitTo (startT (levelsF xs)) (confT xs (levelsF xs)) x).length +
 ((0 : Nat) + (1 : Nat))) ∧
 Fits IntKind.i64 ((↑x : Int) + (1 : Int)) ∧
 ∃ (x' : Nat),
 x' ≤ xs.length ∧
 xs.length - x' < xs.length - x ∧
 ((levelsF xs = levelsF xs ∧ True) ∧
 (xs = xs ∧ True) ∧
 (True ∧ True) ∧
 (True ∧ True) ∧
 fitTo (startT (levelsF xs)) (confT xs (levelsF xs)) x ++
 [startT (levelsF xs) (↑x : Int).toNat + (↑x_1 : Int)] =
 fitTo (startT (levelsF xs)) (confT xs (levelsF xs)) x' ∧
 True) ∧
 (↑x : Int) + (1 : Int) = (↑x' : Int) ∧
 (↑xs.length : Int) = (↑xs.length : Int) ∧
 xs = xs ∧ True ∧ True ∧ True ∧ True ∧ True)) ∧
 (ovl
 ((xs.getD (↑x : Int).toNat ((0 : Int), (0 : Int))).fst,
 (xs.getD (↑x : Int).toNat ((0 : Int), (0 : Int))).snd)
 ((xs.getD ((belowF (↑x : Int)).getD (↑x_2 : Int).toNat (0 : Int)).toNat
 ((0 : Int), (0 : Int))).fst,
 (xs.getD ((belowF (↑x : Int)).getD (↑x_2 : Int).toNat (0 : Int)).toNat
 ((0 : Int), (0 : Int))).snd) =
 false →
 ovl
 ((xs.getD (↑x : Int).toNat ((0 : Int), (0 : Int))).fst,
 (xs.getD (↑x : Int).toNat ((0 : Int), (0 : Int))).snd)
 ((xs.getD ((belowF (↑x : Int)).getD (↑x_2 : Int).toNat (0 : Int)).toNat
 ((0 : Int), (0 : Int))).fst,
 (xs.getD ((belowF (↑x : Int)).getD (↑x_2 : Int).toNat (0 : Int)).toNat
 ((0 : Int), (0 : Int))).snd) =
 false ∧
 Fits IntKind.i64 ((↑x_2 : Int) + (1 : Int)) ∧
 ∃ (x' : Nat),
 (x' ≤ (↑x : Int).toNat ∧
 ∀ (j : Nat),
 j < x' →
 (decide
 ((fitTo (startT (levelsF xs)) (confT xs (levelsF xs)) (↑x : Int).toNat).getD
 j (0 : Int) =
 startT (levelsF xs) (↑x : Int).toNat + (↑x_1 : Int)) &&
 confT xs (levelsF xs) (↑x : Int).toNat j) =
 false) ∧
 (↑x : Int).toNat - x' < (↑x : Int).toNat - x_2 ∧
 ((levelsF xs = levelsF xs ∧ True) ∧
 (xs = xs ∧ True) ∧
 (True ∧ True) ∧
 (True ∧ True) ∧
 fitTo (startT (levelsF xs)) (confT xs (levelsF xs)) x =
 fitTo (startT (levelsF xs)) (confT xs (levelsF xs)) x ∧
 ((↑x : Int) = (↑x : Int) ∧ True) ∧
 ((xs.getD (↑x : Int).toNat ((0 : Int), (0 : Int))).fst =
 (xs.getD (↑x : Int).toNat ((0 : Int), (0 : Int))).fst ∧
 (xs.getD (↑x : Int).toNat ((0 : Int), (0 : Int))).snd =
 (xs.getD (↑x : Int).toNat ((0 : Int), (0 : Int))).snd ∧
 True) ∧
 (startT (levelsF xs) (↑x : Int).toNat + (↑x_1 : Int) =
 startT (levelsF xs) (↑x : Int).toNat + (↑x_1 : Int) ∧
 True) ∧
 True) ∧
 (↑x_2 : Int) + (1 : Int) = (↑x' : Int) ∧
 (↑(belowF (↑x : Int)).length : Int) = (↑(belowF (↑x : Int)).length : Int) ∧
 belowF (↑x : Int) = belowF (↑x : Int) ∧
 belowF (↑x : Int) = belowF (↑x : Int) ∧ True ∧ True)) ∧
 (¬(levelsF xs).getD (↑x : Int).toNat (0 : Int) =
 (levelsF xs).getD ((belowF (↑x : Int)).getD (↑x_2 : Int).toNat (0 : Int)).toNat (0 : Int) →
 ¬(levelsF xs).getD (↑x : Int).toNat (0 : Int) =
 (levelsF xs).getD ((belowF (↑x : Int)).getD (↑x_2 : Int).toNat (0 : Int)).toNat (0 : Int) ∧
 ¬(levelsF xs).getD (↑x : Int).toNat (0 : Int) =
 (levelsF xs).getD ((belowF (↑x : Int)).getD (↑x_2 : Int).toNat (0 : Int)).toNat (0 : Int) ∧
 ¬(levelsF xs).getD (↑x : Int).toNat (0 : Int) =
 (levelsF xs).getD ((belowF (↑x : Int)).getD (↑x_2 : Int).toNat (0 : Int)).toNat (0 : Int) ∧
 Fits IntKind.i64 ((↑x_2 : Int) + (1 : Int)) ∧
 ∃ (x' : Nat),
 (x' ≤ (↑x : Int).toNat ∧
 ∀ (j : Nat),
 j < x' →
 (decide
 ((fitTo (startT (levelsF xs)) (confT xs (levelsF xs)) (↑x : Int).toNat).getD j
 (0 : Int) =
 startT (levelsF xs) (↑x : Int).toNat + (↑x_1 : Int)) &&
 confT xs (levelsF xs) (↑x : Int).toNat j) =
 false) ∧
 (↑x : Int).toNat - x' < (↑x : Int).toNat - x_2 ∧
 ((levelsF xs = levelsF xs ∧ True) ∧
 (xs = xs ∧ True) ∧
 (True ∧ True) ∧
 (True ∧ True) ∧
 fitTo (startT (levelsF xs)) (confT xs (levelsF xs)) x =
 fitTo (startT (levelsF xs)) (confT xs (levelsF xs)) x ∧
 ((↑x : Int) = (↑x : Int) ∧ True) ∧
 ((xs.getD (↑x : Int).toNat ((0 : Int), (0 : Int))).fst =
 (xs.getD (↑x : Int).toNat ((0 : Int), (0 : Int))).fst ∧
 (xs.getD (↑x : Int).toNat ((0 : Int), (0 : Int))).snd =
 (xs.getD (↑x : Int).toNat ((0 : Int), (0 : Int))).snd ∧
 True) ∧
 (startT (levelsF xs) (↑x : Int).toNat + (↑x_1 : Int) =
 startT (levelsF xs) (↑x : Int).toNat + (↑x_1 : Int) ∧
 True) ∧
 True) ∧
 (↑x_2 : Int) + (1 : Int) = (↑x' : Int) ∧
 (↑(belowF (↑x : Int)).length : Int) = (↑(belowF (↑x : Int)).length : Int) ∧
 belowF (↑x : Int) = belowF (↑x : Int) ∧
 belowF (↑x : Int) = belowF (↑x : Int) ∧ True ∧ True)) ∧
 (¬(fitTo (startT (levelsF xs)) (confT xs (levelsF xs)) x).getD ((belowF (↑x : Int)).getD (↑x_2 : Int).toNat (0 : Int)).toNat
 (0 : Int) =
 startT (levelsF xs) (↑x : Int).toNat + (↑x_1 : Int) →
 ¬(fitTo (startT (levelsF xs)) (confT xs (levelsF xs)) x).getD
 ((belowF (↑x : Int)).getD (↑x_2 : Int).toNat (0 : Int)).toNat (0 : Int) =
 startT (levelsF xs) (↑x : Int).toNat + (↑x_1 : Int) ∧
 ¬(fitTo (startT (levelsF xs)) (confT xs (levelsF xs)) x).getD
 ((belowF (↑x : Int)).getD (↑x_2 : Int).toNat (0 : Int)).toNat (0 : Int) =
 startT (levelsF xs) (↑x : Int).toNat + (↑x_1 : Int) ∧
 Fits IntKind.i64 ((↑x_2 : Int) + (1 : Int)) ∧
 ∃ (x' : Nat),
 (x' ≤ (↑x : Int).toNat ∧
 ∀ (j : Nat),
 j < x' →
 (decide
 ((fitTo (startT (levelsF xs)) (confT xs (levelsF xs)) (↑x : Int).toNat).getD j (0 : Int) =
 startT (levelsF xs) (↑x : Int).toNat + (↑x_1 : Int)) &&
 confT xs (levelsF xs) (↑x : Int).toNat j) =
 false) ∧
 (↑x : Int).toNat - x' < (↑x : Int).toNat - x_2 ∧
 ((levelsF xs = levelsF xs ∧ True) ∧
 (xs = xs ∧ True) ∧
 (True ∧ True) ∧
 (True ∧ True) ∧
 fitTo (startT (levelsF xs)) (confT xs (levelsF xs)) x =
 fitTo (startT (levelsF xs)) (confT xs (levelsF xs)) x ∧
 ((↑x : Int) = (↑x : Int) ∧ True) ∧
 ((xs.getD (↑x : Int).toNat ((0 : Int), (0 : Int))).fst =
 (xs.getD (↑x : Int).toNat ((0 : Int), (0 : Int))).fst ∧
 (xs.getD (↑x : Int).toNat ((0 : Int), (0 : Int))).snd =
 (xs.getD (↑x : Int).toNat ((0 : Int), (0 : Int))).snd ∧
 True) ∧
 (startT (levelsF xs) (↑x : Int).toNat + (↑x_1 : Int) =
 startT (levelsF xs) (↑x : Int).toNat + (↑x_1 : Int) ∧
 True) ∧
 True) ∧
 (↑x_2 : Int) + (1 : Int) = (↑x' : Int) ∧
 (↑(belowF (↑x : Int)).length : Int) = (↑(belowF (↑x : Int)).length : Int) ∧
 belowF (↑x : Int) = belowF (↑x : Int) ∧ belowF (↑x : Int) = belowF (↑x : Int) ∧ True ∧ True)) ∧
 (¬(↑x_2 : Int) < (↑(belowF (↑x : Int)).length : Int) →
 ¬(↑x_2 : Int) < (↑(belowF (↑x : Int)).length : Int) ∧
 ((0 : Int) ≤ (-1 : Int) →
 (0 : Int) ≤ (-1 : Int) ∧
 Fits IntKind.i64 (startT (levelsF xs) (↑x : Int).toNat + (↑x_1 : Int) + (1 : Int)) ∧
 ∃ (x' : Nat),
 (x' ≤ (↑x : Int).toNat ∧
 ∀ (j : Nat),
 j < x' →
 startT (levelsF xs) (↑x : Int).toNat + (↑j : Int) ∈
 taken (confT xs (levelsF xs)) (fitTo (startT (levelsF xs)) (confT xs (levelsF xs)) (↑x : Int).toNat)
 (↑x : Int).toNat (↑x : Int).toNat) ∧
 (↑x : Int).toNat - x' < (↑x : Int).toNat - x_1 ∧
 ((levelsF xs = levelsF xs ∧ True) ∧
 (xs = xs ∧ True) ∧
 (True ∧ True) ∧
 (True ∧ True) ∧
 fitTo (startT (levelsF xs)) (confT xs (levelsF xs)) x =
 fitTo (startT (levelsF xs)) (confT xs (levelsF xs)) x ∧
 ((↑x : Int) = (↑x : Int) ∧ True) ∧
 ((xs.getD (↑x : Int).toNat ((0 : Int), (0 : Int))).fst =
 (xs.getD (↑x : Int).toNat ((0 : Int), (0 : Int))).fst ∧
 (xs.getD (↑x : Int).toNat ((0 : Int), (0 : Int))).snd =
 (xs.getD (↑x : Int).toNat ((0 : Int), (0 : Int))).snd ∧
 True) ∧
 (startT (levelsF xs) (↑x : Int).toNat + (↑x_1 : Int) + (1 : Int) =
 startT (levelsF xs) (↑x : Int).toNat + (↑x' : Int) ∧
 True) ∧
 True) ∧
 True ∧
 True ∧
 True ∧
 (↑x : Int) = (↑x : Int) ∧
 (↑xs.length : Int) = (↑xs.length : Int) ∧ xs = xs ∧ True ∧ True ∧ True ∧ True ∧ True) ∧
 (¬(0 : Int) ≤ (-1 : Int) →
 ¬(0 : Int) ≤ (-1 : Int) ∧
 Small ((fitTo (startT (levelsF xs)) (confT xs (levelsF xs)) x).length + ((0 : Nat) + (1 : Nat))) ∧
 Fits IntKind.i64 ((↑x : Int) + (1 : Int)) ∧
 ∃ (x' : Nat),
 x' ≤ xs.length ∧
 xs.length - x' < xs.length - x ∧
 ((levelsF xs = levelsF xs ∧ True) ∧
 (xs = xs ∧ True) ∧
 (True ∧ True) ∧
 (True ∧ True) ∧
 fitTo (startT (levelsF xs)) (confT xs (levelsF xs)) x ++
 [startT (levelsF xs) (↑x : Int).toNat + (↑x_1 : Int)] =
 fitTo (startT (levelsF xs)) (confT xs (levelsF xs)) x' ∧
 True) ∧
 (↑x : Int) + (1 : Int) = (↑x' : Int) ∧
 (↑xs.length : Int) = (↑xs.length : Int) ∧ xs = xs ∧ True ∧ True ∧ True ∧ True ∧ True))) ∧
 (¬(↑x : Int) < (↑xs.length : Int) → ¬(↑x : Int) < (↑xs.length : Int) ∧ (fitTo (startT (levelsF xs)) (confT xs (levelsF xs)) x, (0 : Int)) = guardF xs trotF))) := by
 kernel_rfl

theorem g27_eq (xs : List Sp) : g27 xs = (
 (∃ (x0 : Nat), x0 ≤ xs.length ∧ ([] = levelsTR xs x0 ∧ True) ∧ (0 : Int) = (↑x0 : Int) ∧ True ∧ xs = xs ∧ True) ∧
 ∀ (x : Nat),
 x ≤ xs.length →
 ((↑x : Int) < (↑xs.length : Int) →
 (↑x : Int) < (↑xs.length : Int) ∧
 (∃ (x0 : Nat),
 (x0 ≤ (↑x : Int).toNat ∧
 ∀ (j : Nat),
 j < x0 →
 ¬(depthR (lowR xs (levelsTR xs (↑x : Int).toNat) (↑x : Int).toNat ((1 : Int) + (↑j : Int)) (↑x : Int).toNat) (at_ xs (↑x : Int).toNat)).fst ≤
 (1 : Int) + (↑j : Int)) ∧
 (levelsTR xs x = levelsTR xs x ∧ True) ∧ (1 : Int) = (1 : Int) + (↑x0 : Int) ∧ (↑x : Int) = (↑x : Int) ∧ True ∧ xs = xs ∧ True) ∧
 ∀ (x_1 : Nat),
 (x_1 ≤ (↑x : Int).toNat ∧
 ∀ (j : Nat),
 j < x_1 →
 ¬(depthR (lowR xs (levelsTR xs (↑x : Int).toNat) (↑x : Int).toNat ((1 : Int) + (↑j : Int)) (↑x : Int).toNat) (at_ xs (↑x : Int).toNat)).fst ≤
 (1 : Int) + (↑j : Int)) →
 ((0 : Int) ≤ (↑x : Int) ∧ (↑x : Int) < (↑xs.length : Int)) ∧
 (∃ (x0 : Nat),
 x0 ≤ (↑x : Int).toNat ∧
 (levelsTR xs x = levelsTR xs x ∧
 [((xs.getD (↑x : Int).toNat ((0 : Int), (0 : Int))).fst, (xs.getD (↑x : Int).toNat ((0 : Int), (0 : Int))).snd)] =
 lowR xs (levelsTR xs (↑x : Int).toNat) (↑x : Int).toNat ((1 : Int) + (↑x_1 : Int)) x0 ∧
 True) ∧
 (0 : Int) = (↑x0 : Int) ∧ True ∧ (1 : Int) + (↑x_1 : Int) = (1 : Int) + (↑x_1 : Int) ∧ (↑x : Int) = (↑x : Int) ∧ True ∧ xs = xs ∧ True) ∧
 ∀ (x_2 : Nat),
 x_2 ≤ (↑x : Int).toNat →
 ((↑x_2 : Int) < (↑x : Int) →
 (↑x_2 : Int) < (↑x : Int) ∧
 ((0 : Int) ≤ (↑x_2 : Int) ∧ (↑x_2 : Int) < (↑(levelsTR xs x).length : Int)) ∧
 ((levelsTR xs x).getD (↑x_2 : Int).toNat (0 : Int) ≤ (1 : Int) + (↑x_1 : Int) →
 (levelsTR xs x).getD (↑x_2 : Int).toNat (0 : Int) ≤ (1 : Int) + (↑x_1 : Int) ∧
 ((0 : Int) ≤ (↑x_2 : Int) ∧ (↑x_2 : Int) < (↑xs.length : Int)) ∧
 Small ((lowR xs (levelsTR xs (↑x : Int).toNat) (↑x : Int).toNat ((1 : Int) + (↑x_1 : Int)) x_2).length + ((0 : Nat) + (1 : Nat))) ∧
 Fits IntKind.i64 ((↑x_2 : Int) + (1 : Int)) ∧
 ∃ (x' : Nat),
 x' ≤ (↑x : Int).toNat ∧
 (↑x : Int).toNat - x' < (↑x : Int).toNat - x_2 ∧
 (levelsTR xs x = levelsTR xs x ∧
 lowR xs (levelsTR xs (↑x : Int).toNat) (↑x : Int).toNat ((1 : Int) + (↑x_1 : Int)) x_2 ++
 [((xs.getD (↑x_2 : Int).toNat ((0 : Int), (0 : Int))).fst, (xs.getD (↑x_2 : Int).toNat ((0 : Int), (0 : Int))).snd)] =
 lowR xs (levelsTR xs (↑x : Int).toNat) (↑x : Int).toNat ((1 : Int) + (↑x_1 : Int)) x' ∧
 True) ∧
 (↑x_2 : Int) + (1 : Int) = (↑x' : Int) ∧
 True ∧ (1 : Int) + (↑x_1 : Int) = (1 : Int) + (↑x_1 : Int) ∧ (↑x : Int) = (↑x : Int) ∧ True ∧ xs = xs ∧ True) ∧
 (¬(levelsTR xs x).getD (↑x_2 : Int).toNat (0 : Int) ≤ (1 : Int) + (↑x_1 : Int) →
 ¬(levelsTR xs x).getD (↑x_2 : Int).toNat (0 : Int) ≤ (1 : Int) + (↑x_1 : Int) ∧
 Fits IntKind.i64 ((↑x_2 : Int) + (1 : Int)) ∧
 ∃ (x' : Nat),
 x' ≤ (↑x : Int).toNat ∧
 (↑x : Int).toNat - x' < (↑x : Int).toNat - x_2 ∧
 (levelsTR xs x = levelsTR xs x ∧
 lowR xs (levelsTR xs (↑x : Int).toNat) (↑x : Int).toNat ((1 : Int) + (↑x_1 : Int)) x_2 =
 lowR xs (levelsTR xs (↑x : Int).toNat) (↑x : Int).toNat ((1 : Int) + (↑x_1 : Int)) x' ∧
 True) ∧
 (↑x_2 : Int) + (1 : Int) = (↑x' : Int) ∧
 True ∧ (1 : Int) + (↑x_1 : Int) = (1 : Int) + (↑x_1 : Int) ∧ (↑x : Int) = (↑x : Int) ∧ True ∧ xs = xs ∧ True)) ∧
 (¬(↑x_2 : Int) < (↑x : Int) →
 ¬(↑x_2 : Int) < (↑x : Int) ∧
 ((0 : Int) ≤ (↑x : Int) ∧ (↑x : Int) < (↑xs.length : Int)) ∧
 ((lowR xs (levelsTR xs (↑x : Int).toNat) (↑x : Int).toNat ((1 : Int) + (↑x_1 : Int)) x_2).length ≤ (1000 : Nat) ∧
 (0 : Int) ≤ (xs.getD (↑x : Int).toNat ((0 : Int), (0 : Int))).fst ∧
 (xs.getD (↑x : Int).toNat ((0 : Int), (0 : Int))).fst ≤ (xs.getD (↑x : Int).toNat ((0 : Int), (0 : Int))).snd ∧
 (xs.getD (↑x : Int).toNat ((0 : Int), (0 : Int))).snd ≤ (1000000 : Int)) ∧
 ((depthR (lowR xs (levelsTR xs (↑x : Int).toNat) (↑x : Int).toNat ((1 : Int) + (↑x_1 : Int)) x_2)
 ((xs.getD (↑x : Int).toNat ((0 : Int), (0 : Int))).fst, (xs.getD (↑x : Int).toNat ((0 : Int), (0 : Int))).snd)).fst ≤
 (1 : Int) + (↑x_1 : Int) →
 (depthR (lowR xs (levelsTR xs (↑x : Int).toNat) (↑x : Int).toNat ((1 : Int) + (↑x_1 : Int)) x_2)
 ((xs.getD (↑x : Int).toNat ((0 : Int), (0 : Int))).fst, (xs.getD (↑x : Int).toNat ((0 : Int), (0 : Int))).snd)).fst ≤
 (1 : Int) + (↑x_1 : Int) ∧
 Small ((levelsTR xs x).length + ((0 : Nat) + (1 : Nat))) ∧
 Fits IntKind.i64 ((↑x : Int) + (1 : Int)) ∧
 ∃ (x' : Nat),
 x' ≤ xs.length ∧
 xs.length - x' < xs.length - x ∧
 (levelsTR xs x ++ [(1 : Int) + (↑x_1 : Int)] = levelsTR xs x' ∧ True) ∧
 (↑x : Int) + (1 : Int) = (↑x' : Int) ∧ True ∧ xs = xs ∧ True) ∧
 (¬(depthR (lowR xs (levelsTR xs (↑x : Int).toNat) (↑x : Int).toNat ((1 : Int) + (↑x_1 : Int)) x_2)
 ((xs.getD (↑x : Int).toNat ((0 : Int), (0 : Int))).fst, (xs.getD (↑x : Int).toNat ((0 : Int), (0 : Int))).snd)).fst ≤
 (1 : Int) + (↑x_1 : Int) →
 ¬(depthR (lowR xs (levelsTR xs (↑x : Int).toNat) (↑x : Int).toNat ((1 : Int) + (↑x_1 : Int)) x_2)
 ((xs.getD (↑x : Int).toNat ((0 : Int), (0 : Int))).fst, (xs.getD (↑x : Int).toNat ((0 : Int), (0 : Int))).snd)).fst ≤
 (1 : Int) + (↑x_1 : Int) ∧
 Fits IntKind.i64 ((1 : Int) + (↑x_1 : Int) + (1 : Int)) ∧
 ∃ (x' : Nat),
 (x' ≤ (↑x : Int).toNat ∧
 ∀ (j : Nat),
 j < x' →
 ¬(depthR (lowR xs (levelsTR xs (↑x : Int).toNat) (↑x : Int).toNat ((1 : Int) + (↑j : Int)) (↑x : Int).toNat)
 (at_ xs (↑x : Int).toNat)).fst ≤
 (1 : Int) + (↑j : Int)) ∧
 (↑x : Int).toNat - x' < (↑x : Int).toNat - x_1 ∧
 (levelsTR xs x = levelsTR xs x ∧ True) ∧
 (1 : Int) + (↑x_1 : Int) + (1 : Int) = (1 : Int) + (↑x' : Int) ∧ (↑x : Int) = (↑x : Int) ∧ True ∧ xs = xs ∧ True))) ∧
 (¬(↑x : Int) < (↑xs.length : Int) → ¬(↑x : Int) < (↑xs.length : Int) ∧ levelsTR xs x = levelsR xs)) := by
 kernel_rfl

theorem g28_eq (xs : List Sp) : g28 xs = (
 checkF xs = (0 : Int) ∧
 (∃ (x0 : Nat),
 x0 ≤ xs.length ∧ ([] = fitTo (startT (levelsR xs)) (confT xs (levelsR xs)) x0 ∧ True) ∧ (0 : Int) = (↑x0 : Int) ∧ True ∧ levelsR xs = levelsR xs ∧ xs = xs ∧ True) ∧
 ∀ (x : Nat),
 x ≤ xs.length →
 ((↑x : Int) < (↑xs.length : Int) →
 (↑x : Int) < (↑xs.length : Int) ∧
 (∃ (x0 : Nat),
 x0 ≤ (↑x : Int).toNat ∧
 (fitTo (startT (levelsR xs)) (confT xs (levelsR xs)) x = fitTo (startT (levelsR xs)) (confT xs (levelsR xs)) x ∧
 [] = taken (confT xs (levelsR xs)) (fitTo (startT (levelsR xs)) (confT xs (levelsR xs)) (↑x : Int).toNat) (↑x : Int).toNat x0 ∧ True) ∧
 (0 : Int) = (↑x0 : Int) ∧ True ∧ (↑x : Int) = (↑x : Int) ∧ True ∧ levelsR xs = levelsR xs ∧ xs = xs ∧ True) ∧
 ∀ (x_1 : Nat),
 x_1 ≤ (↑x : Int).toNat →
 ((↑x_1 : Int) < (↑x : Int) →
 (↑x_1 : Int) < (↑x : Int) ∧
 ((0 : Int) ≤ (↑x_1 : Int) ∧ (↑x_1 : Int) < (↑(levelsR xs).length : Int)) ∧
 ((0 : Int) ≤ (↑x : Int) ∧ (↑x : Int) < (↑(levelsR xs).length : Int)) ∧
 ((levelsR xs).getD (↑x_1 : Int).toNat (0 : Int) = (levelsR xs).getD (↑x : Int).toNat (0 : Int) →
 (levelsR xs).getD (↑x_1 : Int).toNat (0 : Int) = (levelsR xs).getD (↑x : Int).toNat (0 : Int) ∧
 (levelsR xs).getD (↑x_1 : Int).toNat (0 : Int) = (levelsR xs).getD (↑x : Int).toNat (0 : Int) ∧
 ((0 : Int) ≤ (↑x : Int) ∧ (↑x : Int) < (↑xs.length : Int)) ∧
 ((0 : Int) ≤ (↑x_1 : Int) ∧ (↑x_1 : Int) < (↑xs.length : Int)) ∧
 True ∧
 (decide
 (max (xs.getD (↑x : Int).toNat ((0 : Int), (0 : Int))).fst (xs.getD (↑x_1 : Int).toNat ((0 : Int), (0 : Int))).fst <
 min (xs.getD (↑x : Int).toNat ((0 : Int), (0 : Int))).snd (xs.getD (↑x_1 : Int).toNat ((0 : Int), (0 : Int))).snd) =
 true →
 decide
 (max (xs.getD (↑x : Int).toNat ((0 : Int), (0 : Int))).fst (xs.getD (↑x_1 : Int).toNat ((0 : Int), (0 : Int))).fst <
 min (xs.getD (↑x : Int).toNat ((0 : Int), (0 : Int))).snd (xs.getD (↑x_1 : Int).toNat ((0 : Int), (0 : Int))).snd) =
 true ∧
 decide
 (max (xs.getD (↑x : Int).toNat ((0 : Int), (0 : Int))).fst (xs.getD (↑x_1 : Int).toNat ((0 : Int), (0 : Int))).fst <
 min (xs.getD (↑x : Int).toNat ((0 : Int), (0 : Int))).snd (xs.getD (↑x_1 : Int).toNat ((0 : Int), (0 : Int))).snd) =
 true ∧
 ((0 : Int) ≤ (↑x_1 : Int) ∧ (↑x_1 : Int) < (↑(fitTo (startT (levelsR xs)) (confT xs (levelsR xs)) x).length : Int)) ∧
 Small
 ((taken (confT xs (levelsR xs)) (fitTo (startT (levelsR xs)) (confT xs (levelsR xs)) (↑x : Int).toNat) (↑x : Int).toNat
 x_1).length +
 ((0 : Nat) + (1 : Nat))) ∧
 Fits IntKind.i64 ((↑x_1 : Int) + (1 : Int)) ∧
 ∃ (x' : Nat),
 x' ≤ (↑x : Int).toNat ∧
 (↑x : Int).toNat - x' < (↑x : Int).toNat - x_1 ∧
 (fitTo (startT (levelsR xs)) (confT xs (levelsR xs)) x = fitTo (startT (levelsR xs)) (confT xs (levelsR xs)) x ∧
 taken (confT xs (levelsR xs)) (fitTo (startT (levelsR xs)) (confT xs (levelsR xs)) (↑x : Int).toNat)
 (↑x : Int).toNat x_1 ++
 [(fitTo (startT (levelsR xs)) (confT xs (levelsR xs)) x).getD (↑x_1 : Int).toNat (0 : Int)] =
 taken (confT xs (levelsR xs)) (fitTo (startT (levelsR xs)) (confT xs (levelsR xs)) (↑x : Int).toNat)
 (↑x : Int).toNat x' ∧
 True) ∧
 (↑x_1 : Int) + (1 : Int) = (↑x' : Int) ∧
 True ∧ (↑x : Int) = (↑x : Int) ∧ True ∧ levelsR xs = levelsR xs ∧ xs = xs ∧ True) ∧
 (decide
 (max (xs.getD (↑x : Int).toNat ((0 : Int), (0 : Int))).fst (xs.getD (↑x_1 : Int).toNat ((0 : Int), (0 : Int))).fst <
 min (xs.getD (↑x : Int).toNat ((0 : Int), (0 : Int))).snd (xs.getD (↑x_1 : Int).toNat ((0 : Int), (0 : Int))).snd) =
 false →
 decide
 (max (xs.getD (↑x : Int).toNat ((0 : Int), (0 : Int))).fst (xs.getD (↑x_1 : Int).toNat ((0 : Int), (0 : Int))).fst <
 min (xs.getD (↑x : Int).toNat ((0 : Int), (0 : Int))).snd (xs.getD (↑x_1 : Int).toNat ((0 : Int), (0 : Int))).snd) =
 false ∧
 decide
 (max (xs.getD (↑x : Int).toNat ((0 : Int), (0 : Int))).fst (xs.getD (↑x_1 : Int).toNat ((0 : Int), (0 : Int))).fst <
 min (xs.getD (↑x : Int).toNat ((0 : Int), (0 : Int))).snd (xs.getD (↑x_1 : Int).toNat ((0 : Int), (0 : Int))).snd) =
 false ∧
 Fits IntKind.i64 ((↑x_1 : Int) + (1 : Int)) ∧
 ∃ (x' : Nat),
 x' ≤ (↑x : Int).toNat ∧
 (↑x : Int).toNat - x' < (↑x : Int).toNat - x_1 ∧
 (fitTo (startT (levelsR xs)) (confT xs (levelsR xs)) x = fitTo (startT (levelsR xs)) (confT xs (levelsR xs)) x ∧
 taken (confT xs (levelsR xs)) (fitTo (startT (levelsR xs)) (confT xs (levelsR xs)) (↑x : Int).toNat)
 (↑x : Int).toNat x_1 =
 taken (confT xs (levelsR xs)) (fitTo (startT (levelsR xs)) (confT xs (levelsR xs)) (↑x : Int).toNat)
 (↑x : Int).toNat x' ∧
 True) ∧
 (↑x_1 : Int) + (1 : Int) = (↑x' : Int) ∧
 True ∧ (↑x : Int) = (↑x : Int) ∧ True ∧ levelsR xs = levelsR xs ∧ xs = xs ∧ True)) ∧
 (¬(levelsR xs).getD (↑x_1 : Int).toNat (0 : Int) = (levelsR xs).getD (↑x : Int).toNat (0 : Int) →
 ¬(levelsR xs).getD (↑x_1 : Int).toNat (0 : Int) = (levelsR xs).getD (↑x : Int).toNat (0 : Int) ∧
 ¬(levelsR xs).getD (↑x_1 : Int).toNat (0 : Int) = (levelsR xs).getD (↑x : Int).toNat (0 : Int) ∧
 Fits IntKind.i64 ((↑x_1 : Int) + (1 : Int)) ∧
 ∃ (x' : Nat),
 x' ≤ (↑x : Int).toNat ∧
 (↑x : Int).toNat - x' < (↑x : Int).toNat - x_1 ∧
 (fitTo (startT (levelsR xs)) (confT xs (levelsR xs)) x = fitTo (startT (levelsR xs)) (confT xs (levelsR xs)) x ∧
 taken (confT xs (levelsR xs)) (fitTo (startT (levelsR xs)) (confT xs (levelsR xs)) (↑x : Int).toNat) (↑x : Int).toNat x_1 =
 taken (confT xs (levelsR xs)) (fitTo (startT (levelsR xs)) (confT xs (levelsR xs)) (↑x : Int).toNat) (↑x : Int).toNat x' ∧
 True) ∧
 (↑x_1 : Int) + (1 : Int) = (↑x' : Int) ∧ True ∧ (↑x : Int) = (↑x : Int) ∧ True ∧ levelsR xs = levelsR xs ∧ xs = xs ∧ True)) ∧
 (¬(↑x_1 : Int) < (↑x : Int) →
 ¬(↑x_1 : Int) < (↑x : Int) ∧
 ((0 : Int) ≤ (↑x : Int) ∧ (↑x : Int) < (↑(levelsR xs).length : Int)) ∧
 Fits IntKind.i64 ((3 : Int) * (levelsR xs).getD (↑x : Int).toNat (0 : Int)) ∧
 Fits IntKind.i64 ((3 : Int) * (levelsR xs).getD (↑x : Int).toNat (0 : Int) - (5 : Int)) ∧
 ((taken (confT xs (levelsR xs)) (fitTo (startT (levelsR xs)) (confT xs (levelsR xs)) (↑x : Int).toNat) (↑x : Int).toNat x_1).length ≤ (1000 : Nat) ∧
 (0 : Int) ≤ max (0 : Int) ((3 : Int) * (levelsR xs).getD (↑x : Int).toNat (0 : Int) - (5 : Int)) ∧
 max (0 : Int) ((3 : Int) * (levelsR xs).getD (↑x : Int).toNat (0 : Int) - (5 : Int)) ≤ (1000000 : Int)) ∧
 Small ((fitTo (startT (levelsR xs)) (confT xs (levelsR xs)) x).length + ((0 : Nat) + (1 : Nat))) ∧
 Fits IntKind.i64 ((↑x : Int) + (1 : Int)) ∧
 ∃ (x' : Nat),
 x' ≤ xs.length ∧
 xs.length - x' < xs.length - x ∧
 (fitTo (startT (levelsR xs)) (confT xs (levelsR xs)) x ++
 [leastF (max (0 : Int) ((3 : Int) * (levelsR xs).getD (↑x : Int).toNat (0 : Int) - (5 : Int)))
 (taken (confT xs (levelsR xs)) (fitTo (startT (levelsR xs)) (confT xs (levelsR xs)) (↑x : Int).toNat) (↑x : Int).toNat
 x_1)] =
 fitTo (startT (levelsR xs)) (confT xs (levelsR xs)) x' ∧
 True) ∧
 (↑x : Int) + (1 : Int) = (↑x' : Int) ∧ True ∧ levelsR xs = levelsR xs ∧ xs = xs ∧ True)) ∧
 (¬(↑x : Int) < (↑xs.length : Int) → ¬(↑x : Int) < (↑xs.length : Int) ∧ fitTo (startT (levelsR xs)) (confT xs (levelsR xs)) x = trotR xs)) := by
 kernel_rfl

theorem g36_eq (xs : List Sp) : g36 xs = (
 (∃ (x0 : Nat), x0 ≤ xs.length ∧ ([] = fitTo zeroF (confF xs) x0 ∧ True) ∧ (0 : Int) = (↑x0 : Int) ∧ True ∧ xs = xs ∧ True) ∧
 ∀ (x : Nat),
 x ≤ xs.length →
 ((↑x : Int) < (↑xs.length : Int) →
 (↑x : Int) < (↑xs.length : Int) ∧
 (∃ (x0 : Nat),
 x0 ≤ (↑x : Int).toNat ∧
 (fitTo zeroF (confF xs) x = fitTo zeroF (confF xs) x ∧ [] = taken (confF xs) (fitTo zeroF (confF xs) (↑x : Int).toNat) (↑x : Int).toNat x0 ∧ True) ∧
 (0 : Int) = (↑x0 : Int) ∧ True ∧ (↑x : Int) = (↑x : Int) ∧ True ∧ xs = xs ∧ True) ∧
 ∀ (x_1 : Nat),
 x_1 ≤ (↑x : Int).toNat →
 ((↑x_1 : Int) < (↑x : Int) →
 (↑x_1 : Int) < (↑x : Int) ∧
 ((0 : Int) ≤ (↑x : Int) ∧ (↑x : Int) < (↑xs.length : Int)) ∧
 ((0 : Int) ≤ (↑x_1 : Int) ∧ (↑x_1 : Int) < (↑xs.length : Int)) ∧
 True ∧
 (decide
 (max (xs.getD (↑x : Int).toNat ((0 : Int), (0 : Int))).fst (xs.getD (↑x_1 : Int).toNat ((0 : Int), (0 : Int))).fst <
 min (xs.getD (↑x : Int).toNat ((0 : Int), (0 : Int))).snd (xs.getD (↑x_1 : Int).toNat ((0 : Int), (0 : Int))).snd) =
 true →
 decide
 (max (xs.getD (↑x : Int).toNat ((0 : Int), (0 : Int))).fst (xs.getD (↑x_1 : Int).toNat ((0 : Int), (0 : Int))).fst <
 min (xs.getD (↑x : Int).toNat ((0 : Int), (0 : Int))).snd (xs.getD (↑x_1 : Int).toNat ((0 : Int), (0 : Int))).snd) =
 true ∧
 ((0 : Int) ≤ (↑x_1 : Int) ∧ (↑x_1 : Int) < (↑(fitTo zeroF (confF xs) x).length : Int)) ∧
 Small ((taken (confF xs) (fitTo zeroF (confF xs) (↑x : Int).toNat) (↑x : Int).toNat x_1).length + ((0 : Nat) + (1 : Nat))) ∧
 Fits IntKind.i64 ((↑x_1 : Int) + (1 : Int)) ∧
 ∃ (x' : Nat),
 x' ≤ (↑x : Int).toNat ∧
 (↑x : Int).toNat - x' < (↑x : Int).toNat - x_1 ∧
 (fitTo zeroF (confF xs) x = fitTo zeroF (confF xs) x ∧
 taken (confF xs) (fitTo zeroF (confF xs) (↑x : Int).toNat) (↑x : Int).toNat x_1 ++
 [(fitTo zeroF (confF xs) x).getD (↑x_1 : Int).toNat (0 : Int)] =
 taken (confF xs) (fitTo zeroF (confF xs) (↑x : Int).toNat) (↑x : Int).toNat x' ∧
 True) ∧
 (↑x_1 : Int) + (1 : Int) = (↑x' : Int) ∧ True ∧ (↑x : Int) = (↑x : Int) ∧ True ∧ xs = xs ∧ True) ∧
 (decide
 (max (xs.getD (↑x : Int).toNat ((0 : Int), (0 : Int))).fst (xs.getD (↑x_1 : Int).toNat ((0 : Int), (0 : Int))).fst <
 min (xs.getD (↑x : Int).toNat ((0 : Int), (0 : Int))).snd (xs.getD (↑x_1 : Int).toNat ((0 : Int), (0 : Int))).snd) =
 false →
 decide
 (max (xs.getD (↑x : Int).toNat ((0 : Int), (0 : Int))).fst (xs.getD (↑x_1 : Int).toNat ((0 : Int), (0 : Int))).fst <
 min (xs.getD (↑x : Int).toNat ((0 : Int), (0 : Int))).snd (xs.getD (↑x_1 : Int).toNat ((0 : Int), (0 : Int))).snd) =
 false ∧
 Fits IntKind.i64 ((↑x_1 : Int) + (1 : Int)) ∧
 ∃ (x' : Nat),
 x' ≤ (↑x : Int).toNat ∧
 (↑x : Int).toNat - x' < (↑x : Int).toNat - x_1 ∧
 (fitTo zeroF (confF xs) x = fitTo zeroF (confF xs) x ∧
 taken (confF xs) (fitTo zeroF (confF xs) (↑x : Int).toNat) (↑x : Int).toNat x_1 =
 taken (confF xs) (fitTo zeroF (confF xs) (↑x : Int).toNat) (↑x : Int).toNat x' ∧
 True) ∧
 (↑x_1 : Int) + (1 : Int) = (↑x' : Int) ∧ True ∧ (↑x : Int) = (↑x : Int) ∧ True ∧ xs = xs ∧ True)) ∧
 (¬(↑x_1 : Int) < (↑x : Int) →
 ¬(↑x_1 : Int) < (↑x : Int) ∧
 ((taken (confF xs) (fitTo zeroF (confF xs) (↑x : Int).toNat) (↑x : Int).toNat x_1).length ≤ (1000 : Nat) ∧
 (0 : Int) ≤ (0 : Int) ∧ (0 : Int) ≤ (1000000 : Int)) ∧
 Small ((fitTo zeroF (confF xs) x).length + ((0 : Nat) + (1 : Nat))) ∧
 Fits IntKind.i64 ((↑x : Int) + (1 : Int)) ∧
 ∃ (x' : Nat),
 x' ≤ xs.length ∧
 xs.length - x' < xs.length - x ∧
 (fitTo zeroF (confF xs) x ++ [leastF (0 : Int) (taken (confF xs) (fitTo zeroF (confF xs) (↑x : Int).toNat) (↑x : Int).toNat x_1)] =
 fitTo zeroF (confF xs) x' ∧
 True) ∧
 (↑x : Int) + (1 : Int) = (↑x' : Int) ∧ True ∧ xs = xs ∧ True)) ∧
 (¬(↑x : Int) < (↑xs.length : Int) → ¬(↑x : Int) < (↑xs.length : Int) ∧ fitTo zeroF (confF xs) x = firstF xs)) := by
 kernel_rfl

end Go.SX.Sh
