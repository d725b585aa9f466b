/- Printed by VC.lean: what the executor asks. -/
import Derived.Test.YtmbbalghofbnbaaS10
namespace Go.SX.Sh
open Go Go.Proofs
theorem g35_eq (xs : List Sp) : g35 xs = (
 xs.length ≤ (1000 : Nat) ∧
 (¬checkF xs = (0 : Int) → ¬checkF xs = (0 : Int) ∧ ([], checkF xs) = guardF xs bestF) ∧
 (¬¬checkF xs = (0 : Int) →
 ¬¬checkF xs = (0 : Int) ∧
 ((0 : Int) ≤ (↑xs.length : Int) ∧ (↑xs.length : Int) ≤ (↑xs.length : Int) ∧ Small (↑xs.length : Int).toNat) ∧
 (∃ (x0 : Nat),
 x0 ≤ (↑xs.length : Int).toNat ∧
 ((xs = xs ∧ True) ∧ List.replicate (↑xs.length : Int).toNat (0 : Int) = belowTo (↑xs.length : Int) x0 ∧ True) ∧
 (0 : Int) = (↑x0 : Int) ∧
 True ∧
 True ∧
 (↑(List.replicate (↑xs.length : Int).toNat (0 : Int)).length : Int) = (↑(List.replicate (↑xs.length : Int).toNat (0 : Int)).length : Int) ∧
 (↑xs.length : Int) = (↑xs.length : Int) ∧ True) ∧
 ∀ (x : Nat),
 x ≤ (↑xs.length : Int).toNat →
 ((↑x : Int) < (↑(List.replicate (↑xs.length : Int).toNat (0 : Int)).length : Int) →
 (↑x : Int) < (↑(List.replicate (↑xs.length : Int).toNat (0 : Int)).length : Int) ∧
 ((0 : Int) ≤ (↑x : Int) ∧ (↑x : Int) < (↑(belowTo (↑xs.length : Int) x).length : Int)) ∧
 Fits IntKind.i64 ((↑x : Int) + (1 : Int)) ∧
 ∃ (x' : Nat),
 x' ≤ (↑xs.length : Int).toNat ∧
 (↑xs.length : Int).toNat - x' < (↑xs.length : Int).toNat - x ∧
 ((xs = xs ∧ True) ∧ (belowTo (↑xs.length : Int) x).set (↑x : Int).toNat (↑x : Int) = belowTo (↑xs.length : Int) x' ∧ True) ∧
 (↑x : Int) + (1 : Int) = (↑x' : Int) ∧
 True ∧
 True ∧
 (↑(List.replicate (↑xs.length : Int).toNat (0 : Int)).length : Int) = (↑(List.replicate (↑xs.length : Int).toNat (0 : Int)).length : Int) ∧
 (↑xs.length : Int) = (↑xs.length : Int) ∧ True) ∧
 (¬(↑x : Int) < (↑(List.replicate (↑xs.length : Int).toNat (0 : Int)).length : Int) →
 ¬(↑x : Int) < (↑(List.replicate (↑xs.length : Int).toNat (0 : Int)).length : Int) ∧
 True ∧
 (belowTo (↑xs.length : Int) x = belowTo (↑xs.length : Int) x ∧ (xs = xs ∧ True) ∧ True) ∧
 (True ∧ (↑(belowTo (↑xs.length : Int) x).length : Int) = (↑(belowTo (↑xs.length : Int) x).length : Int) ∧ True ∧ True) ∧
 (((↑(belowTo (↑xs.length : Int) x).length : Int) = (↑(belowTo (↑xs.length : Int) x).length : Int) ∧
 (belowTo (↑xs.length : Int) x).length ≤ (40 : Nat)) ∧
 ((∀ (e : Int), e ∈ belowTo (↑xs.length : Int) x → (0 : Int) ≤ e ∧ e < (↑xs.length : Int)) ∧
 ∀ (s : Sp), s ∈ xs → (0 : Int) ≤ s.fst ∧ s.fst ≤ (1000 : Int)) ∧
 ∀ (p q : Nat),
 (0 : Nat) ≤ p →
 p < q →
 q < (belowTo (↑xs.length : Int) x).length →
 kf xs ((belowTo (↑xs.length : Int) x).getD p (0 : Int)) = kf xs ((belowTo (↑xs.length : Int) x).getD q (0 : Int)) →
 (belowTo (↑xs.length : Int) x).getD p (0 : Int) < (belowTo (↑xs.length : Int) x).getD q (0 : Int)) ∧
 (∃ (x0 : Nat),
 x0 ≤ xs.length ∧
 ((xs = xs ∧ True) ∧
 sortSeg xs (belowTo (↑xs.length : Int) x) (0 : Nat) (belowTo (↑xs.length : Int) x).length =
 sortSeg xs (belowTo (↑xs.length : Int) x) (0 : Nat) (belowTo (↑xs.length : Int) x).length ∧
 [] = srtF xs (List.take x0 (ordF xs)) ∧ True) ∧
 (0 : Int) = (↑x0 : Int) ∧
 True ∧
 (↑(sortSeg xs (belowTo (↑xs.length : Int) x) (0 : Nat) (belowTo (↑xs.length : Int) x).length).length : Int) =
 (↑(sortSeg xs (belowTo (↑xs.length : Int) x) (0 : Nat) (belowTo (↑xs.length : Int) x).length).length : Int) ∧
 True ∧ True ∧ True ∧ True) ∧
 ∀ (x_1 : Nat),
 x_1 ≤ xs.length →
 ((↑x_1 : Int) < (↑(sortSeg xs (belowTo (↑xs.length : Int) x) (0 : Nat) (belowTo (↑xs.length : Int) x).length).length : Int) →
 (↑x_1 : Int) < (↑(sortSeg xs (belowTo (↑xs.length : Int) x) (0 : Nat) (belowTo (↑xs.length : Int) x).length).length : Int) ∧
 ((0 : Int) ≤ (↑x_1 : Int) ∧
 (↑x_1 : Int) < (↑(sortSeg xs (belowTo (↑xs.length : Int) x) (0 : Nat) (belowTo (↑xs.length : Int) x).length).length : Int)) ∧
 ((0 : Int) ≤
 (sortSeg xs (belowTo (↑xs.length : Int) x) (0 : Nat) (belowTo (↑xs.length : Int) x).length).getD (↑x_1 : Int).toNat (0 : Int) ∧
 (sortSeg xs (belowTo (↑xs.length : Int) x) (0 : Nat) (belowTo (↑xs.length : Int) x).length).getD (↑x_1 : Int).toNat (0 : Int) <
 (↑xs.length : Int)) ∧
 Small ((srtF xs (List.take x_1 (ordF xs))).length + ((0 : Nat) + (1 : Nat))) ∧
 Fits IntKind.i64 ((↑x_1 : Int) + (1 : Int)) ∧
 ∃ (x' : Nat),
 x' ≤ xs.length ∧
 xs.length - x' < xs.length - x_1 ∧
 ((xs = xs ∧ True) ∧
 sortSeg xs (belowTo (↑xs.length : Int) x) (0 : Nat) (belowTo (↑xs.length : Int) x).length =
 sortSeg xs (belowTo (↑xs.length : Int) x) (0 : Nat) (belowTo (↑xs.length : Int) x).length ∧
 srtF xs (List.take x_1 (ordF xs)) ++
 [((xs.getD
 ((sortSeg xs (belowTo (↑xs.length : Int) x) (0 : Nat) (belowTo (↑xs.length : Int) x).length).getD
 (↑x_1 : Int).toNat (0 : Int)).toNat
 ((0 : Int), (0 : Int))).fst,
 (xs.getD
 ((sortSeg xs (belowTo (↑xs.length : Int) x) (0 : Nat) (belowTo (↑xs.length : Int) x).length).getD
 (↑x_1 : Int).toNat (0 : Int)).toNat
 ((0 : Int), (0 : Int))).snd)] =
 srtF xs (List.take x' (ordF xs)) ∧
 True) ∧
 (↑x_1 : Int) + (1 : Int) = (↑x' : Int) ∧
 True ∧
 (↑(sortSeg xs (belowTo (↑xs.length : Int) x) (0 : Nat) (belowTo (↑xs.length : Int) x).length).length : Int) =
 (↑(sortSeg xs (belowTo (↑xs.length : Int) x) (0 : Nat) (belowTo (↑xs.length : Int) x).length).length : Int) ∧
 True ∧ True ∧ True ∧ True) ∧
 (¬(↑x_1 : Int) < (↑(sortSeg xs (belowTo (↑xs.length : Int) x) (0 : Nat) (belowTo (↑xs.length : Int) x).length).length : Int) →
 ¬(↑x_1 : Int) < (↑(sortSeg xs (belowTo (↑xs.length : Int) x) (0 : Nat) (belowTo (↑xs.length : Int) x).length).length : Int) ∧
 ((0 : Int) ≤ (↑xs.length : Int) ∧ (↑xs.length : Int) ≤ (↑xs.length : Int) ∧ Small (↑xs.length : Int).toNat) ∧
 (srtF xs (List.take x_1 (ordF xs))).length ≤ (100 : Nat) ∧
 (∃ (x0 : Nat),
 x0 ≤ xs.length ∧
 ((xs = xs ∧ True) ∧
 sortSeg xs (belowTo (↑xs.length : Int) x) (0 : Nat) (belowTo (↑xs.length : Int) x).length =
 sortSeg xs (belowTo (↑xs.length : Int) x) (0 : Nat) (belowTo (↑xs.length : Int) x).length ∧
 True ∧
 List.replicate (↑xs.length : Int).toNat (0 : Int) = scatTo (ordF xs) (firstF (srtF xs (ordF xs))) xs.length x0 ∧ True) ∧
 (0 : Int) = (↑x0 : Int) ∧
 (↑(firstF (srtF xs (List.take x_1 (ordF xs)))).length : Int) =
 (↑(firstF (srtF xs (List.take x_1 (ordF xs)))).length : Int) ∧
 firstF (srtF xs (List.take x_1 (ordF xs))) = firstF (srtF xs (List.take x_1 (ordF xs))) ∧ True ∧ True ∧ True ∧ True) ∧
 ∀ (x_2 : Nat),
 x_2 ≤ xs.length →
 ((↑x_2 : Int) < (↑(firstF (srtF xs (List.take x_1 (ordF xs)))).length : Int) →
 (↑x_2 : Int) < (↑(firstF (srtF xs (List.take x_1 (ordF xs)))).length : Int) ∧
 ((0 : Int) ≤ (↑x_2 : Int) ∧ (↑x_2 : Int) < (↑(firstF (srtF xs (List.take x_1 (ordF xs)))).length : Int)) ∧
 ((0 : Int) ≤ (↑x_2 : Int) ∧
 (↑x_2 : Int) <
 (↑(sortSeg xs (belowTo (↑xs.length : Int) x) (0 : Nat) (belowTo (↑xs.length : Int) x).length).length : Int)) ∧
 ((0 : Int) ≤
 (sortSeg xs (belowTo (↑xs.length : Int) x) (0 : Nat) (belowTo (↑xs.length : Int) x).length).getD
 (↑x_2 : Int).toNat (0 : Int) ∧
 (sortSeg xs (belowTo (↑xs.length : Int) x) (0 : Nat) (belowTo (↑xs.length : Int) x).length).getD
 (↑x_2 : Int).toNat (0 : Int) <
 (↑(scatTo (ordF xs) (firstF (srtF xs (ordF xs))) xs.length x_2).length : Int)) ∧
 Fits IntKind.i64 ((↑x_2 : Int) + (1 : Int)) ∧
 ∃ (x' : Nat),
 x' ≤ xs.length ∧
 xs.length - x' < xs.length - x_2 ∧
 ((xs = xs ∧ True) ∧
 sortSeg xs (belowTo (↑xs.length : Int) x) (0 : Nat) (belowTo (↑xs.length : Int) x).length =
 sortSeg xs (belowTo (↑xs.length : Int) x) (0 : Nat) (belowTo (↑xs.length : Int) x).length ∧
 True ∧
 (scatTo (ordF xs) (firstF (srtF xs (ordF xs))) xs.length x_2).set
 ((sortSeg xs (belowTo (↑xs.length : Int) x) (0 : Nat)
 (belowTo (↑xs.length : Int) x).length).getD
 (↑x_2 : Int).toNat (0 : Int)).toNat
 ((firstF (srtF xs (List.take x_1 (ordF xs)))).getD (↑x_2 : Int).toNat (0 : Int)) =
 scatTo (ordF xs) (firstF (srtF xs (ordF xs))) xs.length x' ∧
 True) ∧
 (↑x_2 : Int) + (1 : Int) = (↑x' : Int) ∧
 (↑(firstF (srtF xs (List.take x_1 (ordF xs)))).length : Int) =
 (↑(firstF (srtF xs (List.take x_1 (ordF xs)))).length : Int) ∧
 firstF (srtF xs (List.take x_1 (ordF xs))) = firstF (srtF xs (List.take x_1 (ordF xs))) ∧
 True ∧ True ∧ True ∧ True) ∧
 (¬(↑x_2 : Int) < (↑(firstF (srtF xs (List.take x_1 (ordF xs)))).length : Int) →
 ¬(↑x_2 : Int) < (↑(firstF (srtF xs (List.take x_1 (ordF xs)))).length : Int) ∧
 (scatTo (ordF xs) (firstF (srtF xs (ordF xs))) xs.length x_2, (0 : Int)) = guardF xs bestF))))) := by
 kernel_rfl

theorem g37_eq (xs : List Sp) : g37 xs = (
 (∃ (x0 : Nat), x0 ≤ (1000 : Nat) ∧ ([] = ordR xs x0 ∧ [] = srtF xs (ordR xs x0) ∧ True) ∧ (0 : Int) = (↑x0 : Int) ∧ True ∧ True ∧ xs = xs ∧ True) ∧
 ∀ (x : Nat),
 x ≤ (1000 : Nat) →
 ((↑x : Int) < (1000 : Int) →
 (↑x : Int) < (1000 : Int) ∧
 (∃ (x0 : Nat),
 x0 ≤ xs.length ∧
 (ordR xs x = ordR xs (↑x : Int).toNat ++ rowR xs (↑x : Int) x0 ∧ srtF xs (ordR xs x) = srtF xs (ordR xs (↑x : Int).toNat ++ rowR xs (↑x : Int) x0) ∧ True) ∧
 (0 : Int) = (↑x0 : Int) ∧ True ∧ True ∧ (↑x : Int) = (↑x : Int) ∧ xs = xs ∧ True) ∧
 ∀ (x_1 : Nat),
 x_1 ≤ xs.length →
 ((↑x_1 : Int) < (↑xs.length : Int) →
 (↑x_1 : Int) < (↑xs.length : Int) ∧
 ((0 : Int) ≤ (↑x_1 : Int) ∧ (↑x_1 : Int) < (↑xs.length : Int)) ∧
 ((xs.getD (↑x_1 : Int).toNat ((0 : Int), (0 : Int))).fst = (↑x : Int) →
 (xs.getD (↑x_1 : Int).toNat ((0 : Int), (0 : Int))).fst = (↑x : Int) ∧
 ((0 : Int) ≤ (↑x_1 : Int) ∧ (↑x_1 : Int) < (↑xs.length : Int)) ∧
 ((Small ((ordR xs (↑x : Int).toNat ++ rowR xs (↑x : Int) x_1).length + ((0 : Nat) + (1 : Nat))) ∧
 Small ((srtF xs (ordR xs (↑x : Int).toNat ++ rowR xs (↑x : Int) x_1)).length + ((0 : Nat) + (1 : Nat))) ∧
 Fits IntKind.i64 ((↑x_1 : Int) + (1 : Int)) ∧
 ∃ (x' : Nat),
 x' ≤ xs.length ∧
 xs.length - x' < xs.length - x_1 ∧
 (ordR xs (↑x : Int).toNat ++ rowR xs (↑x : Int) x_1 ++ [(↑x_1 : Int)] = ordR xs (↑x : Int).toNat ++ rowR xs (↑x : Int) x' ∧
 srtF xs (ordR xs (↑x : Int).toNat ++ rowR xs (↑x : Int) x_1) ++
 [((xs.getD (↑x_1 : Int).toNat ((0 : Int), (0 : Int))).fst, (xs.getD (↑x_1 : Int).toNat ((0 : Int), (0 : Int))).snd)] =
 srtF xs (ordR xs (↑x : Int).toNat ++ rowR xs (↑x : Int) x') ∧
 True) ∧
 (↑x_1 : Int) + (1 : Int) = (↑x' : Int) ∧ True ∧ True ∧ (↑x : Int) = (↑x : Int) ∧ xs = xs ∧ True) ∧
 (Small ((ordR xs (↑x : Int).toNat ++ rowR xs (↑x : Int) x_1).length + ((0 : Nat) + (1 : Nat))) ∧
 Small ((srtF xs (ordR xs (↑x : Int).toNat ++ rowR xs (↑x : Int) x_1)).length + ((0 : Nat) + (1 : Nat))) ∧
 Fits IntKind.i64 ((↑x_1 : Int) + (1 : Int)) ∧
 ∃ (x' : Nat),
 x' ≤ xs.length ∧
 xs.length - x' < xs.length - x_1 ∧
 (ordR xs (↑x : Int).toNat ++ rowR xs (↑x : Int) x_1 ++ [(↑x_1 : Int)] = ordR xs (↑x : Int).toNat ++ rowR xs (↑x : Int) x' ∧
 srtF xs (ordR xs (↑x : Int).toNat ++ rowR xs (↑x : Int) x_1) ++
 [((xs.getD (↑x_1 : Int).toNat ((0 : Int), (0 : Int))).fst, (xs.getD (↑x_1 : Int).toNat ((0 : Int), (0 : Int))).snd)] =
 srtF xs (ordR xs (↑x : Int).toNat ++ rowR xs (↑x : Int) x') ∧
 True) ∧
 (↑x_1 : Int) + (1 : Int) = (↑x' : Int) ∧ True ∧ True ∧ (↑x : Int) = (↑x : Int) ∧ xs = xs ∧ True) ∧
 Small ((ordR xs (↑x : Int).toNat ++ rowR xs (↑x : Int) x_1).length + ((0 : Nat) + (1 : Nat))) ∧
 Small ((srtF xs (ordR xs (↑x : Int).toNat ++ rowR xs (↑x : Int) x_1)).length + ((0 : Nat) + (1 : Nat))) ∧
 Fits IntKind.i64 ((↑x_1 : Int) + (1 : Int)) ∧
 ∃ (x' : Nat),
 x' ≤ xs.length ∧
 xs.length - x' < xs.length - x_1 ∧
 (ordR xs (↑x : Int).toNat ++ rowR xs (↑x : Int) x_1 ++ [(↑x_1 : Int)] = ordR xs (↑x : Int).toNat ++ rowR xs (↑x : Int) x' ∧
 srtF xs (ordR xs (↑x : Int).toNat ++ rowR xs (↑x : Int) x_1) ++
 [((xs.getD (↑x_1 : Int).toNat ((0 : Int), (0 : Int))).fst, (xs.getD (↑x_1 : Int).toNat ((0 : Int), (0 : Int))).snd)] =
 srtF xs (ordR xs (↑x : Int).toNat ++ rowR xs (↑x : Int) x') ∧
 True) ∧
 (↑x_1 : Int) + (1 : Int) = (↑x' : Int) ∧ True ∧ True ∧ (↑x : Int) = (↑x : Int) ∧ xs = xs ∧ True) ∧
 ((Small ((ordR xs (↑x : Int).toNat ++ rowR xs (↑x : Int) x_1).length + ((0 : Nat) + (1 : Nat))) ∧
 Small ((srtF xs (ordR xs (↑x : Int).toNat ++ rowR xs (↑x : Int) x_1)).length + ((0 : Nat) + (1 : Nat))) ∧
 Fits IntKind.i64 ((↑x_1 : Int) + (1 : Int)) ∧
 ∃ (x' : Nat),
 x' ≤ xs.length ∧
 xs.length - x' < xs.length - x_1 ∧
 (ordR xs (↑x : Int).toNat ++ rowR xs (↑x : Int) x_1 ++ [(↑x_1 : Int)] = ordR xs (↑x : Int).toNat ++ rowR xs (↑x : Int) x' ∧
 srtF xs (ordR xs (↑x : Int).toNat ++ rowR xs (↑x : Int) x_1) ++
 [((xs.getD (↑x_1 : Int).toNat ((0 : Int), (0 : Int))).fst, (xs.getD (↑x_1 : Int).toNat ((0 : Int), (0 : Int))).snd)] =
 srtF xs (ordR xs (↑x : Int).toNat ++ rowR xs (↑x : Int) x') ∧
 True) ∧
 (↑x_1 : Int) + (1 : Int) = (↑x' : Int) ∧ True ∧ True ∧ (↑x : Int) = (↑x : Int) ∧ xs = xs ∧ True) ∧
 Small ((ordR xs (↑x : Int).toNat ++ rowR xs (↑x : Int) x_1).length + ((0 : Nat) + (1 : Nat))) ∧
 Small ((srtF xs (ordR xs (↑x : Int).toNat ++ rowR xs (↑x : Int) x_1)).length + ((0 : Nat) + (1 : Nat))) ∧
 Fits IntKind.i64 ((↑x_1 : Int) + (1 : Int)) ∧
 ∃ (x' : Nat),
 x' ≤ xs.length ∧
 xs.length - x' < xs.length - x_1 ∧
 (ordR xs (↑x : Int).toNat ++ rowR xs (↑x : Int) x_1 ++ [(↑x_1 : Int)] = ordR xs (↑x : Int).toNat ++ rowR xs (↑x : Int) x' ∧
 srtF xs (ordR xs (↑x : Int).toNat ++ rowR xs (↑x : Int) x_1) ++
 [((xs.getD (↑x_1 : Int).toNat ((0 : Int), (0 : Int))).fst, (xs.getD (↑x_1 : Int).toNat ((0 : Int), (0 : Int))).snd)] =
 srtF xs (ordR xs (↑x : Int).toNat ++ rowR xs (↑x : Int) x') ∧
 True) ∧
 (↑x_1 : Int) + (1 : Int) = (↑x' : Int) ∧ True ∧ True ∧ (↑x : Int) = (↑x : Int) ∧ xs = xs ∧ True) ∧
 Small ((ordR xs (↑x : Int).toNat ++ rowR xs (↑x : Int) x_1).length + ((0 : Nat) + (1 : Nat))) ∧
 Small ((srtF xs (ordR xs (↑x : Int).toNat ++ rowR xs (↑x : Int) x_1)).length + ((0 : Nat) + (1 : Nat))) ∧
 Fits IntKind.i64 ((↑x_1 : Int) + (1 : Int)) ∧
 ∃ (x' : Nat),
 x' ≤ xs.length ∧
 xs.length - x' < xs.length - x_1 ∧
 (ordR xs (↑x : Int).toNat ++ rowR xs (↑x : Int) x_1 ++ [(↑x_1 : Int)] = ordR xs (↑x : Int).toNat ++ rowR xs (↑x : Int) x' ∧
 srtF xs (ordR xs (↑x : Int).toNat ++ rowR xs (↑x : Int) x_1) ++
 [((xs.getD (↑x_1 : Int).toNat ((0 : Int), (0 : Int))).fst, (xs.getD (↑x_1 : Int).toNat ((0 : Int), (0 : Int))).snd)] =
 srtF xs (ordR xs (↑x : Int).toNat ++ rowR xs (↑x : Int) x') ∧
 True) ∧
 (↑x_1 : Int) + (1 : Int) = (↑x' : Int) ∧ True ∧ True ∧ (↑x : Int) = (↑x : Int) ∧ xs = xs ∧ True) ∧
 (¬(xs.getD (↑x_1 : Int).toNat ((0 : Int), (0 : Int))).fst = (↑x : Int) →
 ¬(xs.getD (↑x_1 : Int).toNat ((0 : Int), (0 : Int))).fst = (↑x : Int) ∧
 Fits IntKind.i64 ((↑x_1 : Int) + (1 : Int)) ∧
 ∃ (x' : Nat),
 x' ≤ xs.length ∧
 xs.length - x' < xs.length - x_1 ∧
 (ordR xs (↑x : Int).toNat ++ rowR xs (↑x : Int) x_1 = ordR xs (↑x : Int).toNat ++ rowR xs (↑x : Int) x' ∧
 srtF xs (ordR xs (↑x : Int).toNat ++ rowR xs (↑x : Int) x_1) = srtF xs (ordR xs (↑x : Int).toNat ++ rowR xs (↑x : Int) x') ∧ True) ∧
 (↑x_1 : Int) + (1 : Int) = (↑x' : Int) ∧ True ∧ True ∧ (↑x : Int) = (↑x : Int) ∧ xs = xs ∧ True)) ∧
 (¬(↑x_1 : Int) < (↑xs.length : Int) →
 ¬(↑x_1 : Int) < (↑xs.length : Int) ∧
 Fits IntKind.i64 ((↑x : Int) + (1 : Int)) ∧
 ∃ (x' : Nat),
 x' ≤ (1000 : Nat) ∧
 (1000 : Nat) - x' < (1000 : Nat) - x ∧
 (ordR xs (↑x : Int).toNat ++ rowR xs (↑x : Int) x_1 = ordR xs x' ∧
 srtF xs (ordR xs (↑x : Int).toNat ++ rowR xs (↑x : Int) x_1) = srtF xs (ordR xs x') ∧ True) ∧
 (↑x : Int) + (1 : Int) = (↑x' : Int) ∧ True ∧ True ∧ xs = xs ∧ True)) ∧
 (¬(↑x : Int) < (1000 : Int) →
 ¬(↑x : Int) < (1000 : Int) ∧
 ((srtF xs (ordR xs x)).length ≤ (100 : Nat) ∧
 ((0 : Int) ≤ (↑xs.length : Int) ∧ (↑xs.length : Int) ≤ (↑xs.length : Int) ∧ Small (↑xs.length : Int).toNat) ∧
 (∃ (x0 : Nat),
 x0 ≤ (ordR xs (1000 : Nat)).length ∧
 (ordR xs x = ordR xs x ∧
 True ∧
 List.replicate (↑xs.length : Int).toNat (0 : Int) = scatTo (ordR xs (1000 : Nat)) (firstF (srtF xs (ordR xs (1000 : Nat)))) xs.length x0 ∧ True) ∧
 (0 : Int) = (↑x0 : Int) ∧ True ∧ firstF (srtF xs (ordR xs x)) = firstF (srtF xs (ordR xs x)) ∧ True ∧ xs = xs ∧ True) ∧
 ∀ (x_1 : Nat),
 x_1 ≤ (ordR xs (1000 : Nat)).length →
 ((↑x_1 : Int) < (↑(ordR xs x).length : Int) →
 (↑x_1 : Int) < (↑(ordR xs x).length : Int) ∧
 ((0 : Int) ≤ (↑x_1 : Int) ∧ (↑x_1 : Int) < (↑(ordR xs x).length : Int)) ∧
 ((0 : Int) ≤ (↑x_1 : Int) ∧ (↑x_1 : Int) < (↑(firstF (srtF xs (ordR xs x))).length : Int)) ∧
 ((0 : Int) ≤ (ordR xs x).getD (↑x_1 : Int).toNat (0 : Int) ∧
 (ordR xs x).getD (↑x_1 : Int).toNat (0 : Int) <
 (↑(scatTo (ordR xs (1000 : Nat)) (firstF (srtF xs (ordR xs (1000 : Nat)))) xs.length x_1).length : Int)) ∧
 Fits IntKind.i64 ((↑x_1 : Int) + (1 : Int)) ∧
 ∃ (x' : Nat),
 x' ≤ (ordR xs (1000 : Nat)).length ∧
 (ordR xs (1000 : Nat)).length - x' < (ordR xs (1000 : Nat)).length - x_1 ∧
 (ordR xs x = ordR xs x ∧
 True ∧
 (scatTo (ordR xs (1000 : Nat)) (firstF (srtF xs (ordR xs (1000 : Nat)))) xs.length x_1).set
 ((ordR xs x).getD (↑x_1 : Int).toNat (0 : Int)).toNat ((firstF (srtF xs (ordR xs x))).getD (↑x_1 : Int).toNat (0 : Int)) =
 scatTo (ordR xs (1000 : Nat)) (firstF (srtF xs (ordR xs (1000 : Nat)))) xs.length x' ∧
 True) ∧
 (↑x_1 : Int) + (1 : Int) = (↑x' : Int) ∧ True ∧ firstF (srtF xs (ordR xs x)) = firstF (srtF xs (ordR xs x)) ∧ True ∧ xs = xs ∧ True) ∧
 (¬(↑x_1 : Int) < (↑(ordR xs x).length : Int) →
 ¬(↑x_1 : Int) < (↑(ordR xs x).length : Int) ∧ scatTo (ordR xs (1000 : Nat)) (firstF (srtF xs (ordR xs (1000 : Nat)))) xs.length x_1 = bestR xs)) ∧
 ((0 : Int) ≤ (↑xs.length : Int) ∧ (↑xs.length : Int) ≤ (↑xs.length : Int) ∧ Small (↑xs.length : Int).toNat) ∧
 (srtF xs (ordR xs x)).length ≤ (100 : Nat) ∧
 (∃ (x0 : Nat),
 x0 ≤ (ordR xs (1000 : Nat)).length ∧
 (ordR xs x = ordR xs x ∧
 True ∧
 List.replicate (↑xs.length : Int).toNat (0 : Int) = scatTo (ordR xs (1000 : Nat)) (firstF (srtF xs (ordR xs (1000 : Nat)))) xs.length x0 ∧ True) ∧
 (0 : Int) = (↑x0 : Int) ∧ True ∧ firstF (srtF xs (ordR xs x)) = firstF (srtF xs (ordR xs x)) ∧ True ∧ xs = xs ∧ True) ∧
 ∀ (x_1 : Nat),
 x_1 ≤ (ordR xs (1000 : Nat)).length →
 ((↑x_1 : Int) < (↑(ordR xs x).length : Int) →
 (↑x_1 : Int) < (↑(ordR xs x).length : Int) ∧
 ((0 : Int) ≤ (↑x_1 : Int) ∧ (↑x_1 : Int) < (↑(ordR xs x).length : Int)) ∧
 ((0 : Int) ≤ (↑x_1 : Int) ∧ (↑x_1 : Int) < (↑(firstF (srtF xs (ordR xs x))).length : Int)) ∧
 ((0 : Int) ≤ (ordR xs x).getD (↑x_1 : Int).toNat (0 : Int) ∧
 (ordR xs x).getD (↑x_1 : Int).toNat (0 : Int) <
 (↑(scatTo (ordR xs (1000 : Nat)) (firstF (srtF xs (ordR xs (1000 : Nat)))) xs.length x_1).length : Int)) ∧
 Fits IntKind.i64 ((↑x_1 : Int) + (1 : Int)) ∧
 ∃ (x' : Nat),
 x' ≤ (ordR xs (1000 : Nat)).length ∧
 (ordR xs (1000 : Nat)).length - x' < (ordR xs (1000 : Nat)).length - x_1 ∧
 (ordR xs x = ordR xs x ∧
 True ∧
 (scatTo (ordR xs (1000 : Nat)) (firstF (srtF xs (ordR xs (1000 : Nat)))) xs.length x_1).set
 ((ordR xs x).getD (↑x_1 : Int).toNat (0 : Int)).toNat ((firstF (srtF xs (ordR xs x))).getD (↑x_1 : Int).toNat (0 : Int)) =
 scatTo (ordR xs (1000 : Nat)) (firstF (srtF xs (ordR xs (1000 : Nat)))) xs.length x' ∧
 True) ∧
 (↑x_1 : Int) + (1 : Int) = (↑x' : Int) ∧ True ∧ firstF (srtF xs (ordR xs x)) = firstF (srtF xs (ordR xs x)) ∧ True ∧ xs = xs ∧ True) ∧
 (¬(↑x_1 : Int) < (↑(ordR xs x).length : Int) →
 ¬(↑x_1 : Int) < (↑(ordR xs x).length : Int) ∧ scatTo (ordR xs (1000 : Nat)) (firstF (srtF xs (ordR xs (1000 : Nat)))) xs.length x_1 = bestR xs))) := by
 kernel_rfl

theorem g12_eq (xs : List Sp) : g12 xs = (
 True ∧
 (List.take (41 : Nat) xs).length ≤ (1000 : Nat) ∧
 (List.take (41 : Nat) xs).length ≤ (1000 : Nat) ∧
 (List.take (41 : Nat) xs).length ≤ (1000 : Nat) ∧
 (¬checkF (List.take (41 : Nat) xs) = (0 : Int) →
 ¬checkF (List.take (41 : Nat) xs) = (0 : Int) ∧
 Fits IntKind.i64 ((↑(guardF (List.take (41 : Nat) xs) firstF).fst.length : Int) + (↑(guardF (List.take (41 : Nat) xs) bestF).fst.length : Int)) ∧
 ((↑(guardF (List.take (41 : Nat) xs) firstF).fst.length : Int) + (↑(guardF (List.take (41 : Nat) xs) bestF).fst.length : Int) = (0 : Int) →
 (↑(guardF (List.take (41 : Nat) xs) firstF).fst.length : Int) + (↑(guardF (List.take (41 : Nat) xs) bestF).fst.length : Int) = (0 : Int) ∧
 (↑(guardF (List.take (41 : Nat) xs) firstF).fst.length : Int) + (↑(guardF (List.take (41 : Nat) xs) bestF).fst.length : Int) = (0 : Int) ∧
 ((guardF (List.take (41 : Nat) xs) firstF).snd = checkF (List.take (41 : Nat) xs) →
 (guardF (List.take (41 : Nat) xs) firstF).snd = checkF (List.take (41 : Nat) xs) ∧
 (guardF (List.take (41 : Nat) xs) firstF).snd = checkF (List.take (41 : Nat) xs) ∧
 (guardF (List.take (41 : Nat) xs) firstF).snd = checkF (List.take (41 : Nat) xs) ∧
 ((guardF (List.take (41 : Nat) xs) bestF).snd = checkF (List.take (41 : Nat) xs) →
 (guardF (List.take (41 : Nat) xs) bestF).snd = checkF (List.take (41 : Nat) xs) ∧
 (guardF (List.take (41 : Nat) xs) bestF).snd = checkF (List.take (41 : Nat) xs) ∧
 (guardF (List.take (41 : Nat) xs) bestF).snd = checkF (List.take (41 : Nat) xs) ∧ True ∧ true = true) ∧
 (¬(guardF (List.take (41 : Nat) xs) bestF).snd = checkF (List.take (41 : Nat) xs) →
 ¬(guardF (List.take (41 : Nat) xs) bestF).snd = checkF (List.take (41 : Nat) xs) ∧
 ¬(guardF (List.take (41 : Nat) xs) bestF).snd = checkF (List.take (41 : Nat) xs) ∧
 ¬(guardF (List.take (41 : Nat) xs) bestF).snd = checkF (List.take (41 : Nat) xs) ∧ false = true)) ∧
 (¬(guardF (List.take (41 : Nat) xs) firstF).snd = checkF (List.take (41 : Nat) xs) →
 ¬(guardF (List.take (41 : Nat) xs) firstF).snd = checkF (List.take (41 : Nat) xs) ∧
 ¬(guardF (List.take (41 : Nat) xs) firstF).snd = checkF (List.take (41 : Nat) xs) ∧
 ¬(guardF (List.take (41 : Nat) xs) firstF).snd = checkF (List.take (41 : Nat) xs) ∧ false = true)) ∧
 (¬(↑(guardF (List.take (41 : Nat) xs) firstF).fst.length : Int) + (↑(guardF (List.take (41 : Nat) xs) bestF).fst.length : Int) = (0 : Int) →
 ¬(↑(guardF (List.take (41 : Nat) xs) firstF).fst.length : Int) + (↑(guardF (List.take (41 : Nat) xs) bestF).fst.length : Int) = (0 : Int) ∧
 ¬(↑(guardF (List.take (41 : Nat) xs) firstF).fst.length : Int) + (↑(guardF (List.take (41 : Nat) xs) bestF).fst.length : Int) = (0 : Int) ∧ false = true)) ∧
 (¬¬checkF (List.take (41 : Nat) xs) = (0 : Int) →
 ¬¬checkF (List.take (41 : Nat) xs) = (0 : Int) ∧
 (List.take (41 : Nat) xs).length ≤ (100 : Nat) ∧
 ((guardF (List.take (41 : Nat) xs) firstF).fst.length ≤ (1000 : Nat) ∧ (firstF (List.take (41 : Nat) xs)).length ≤ (1000 : Nat)) ∧
 (decide ((guardF (List.take (41 : Nat) xs) firstF).fst = firstF (List.take (41 : Nat) xs)) = true →
 decide ((guardF (List.take (41 : Nat) xs) firstF).fst = firstF (List.take (41 : Nat) xs)) = true ∧
 decide ((guardF (List.take (41 : Nat) xs) firstF).fst = firstF (List.take (41 : Nat) xs)) = true ∧
 ((guardF (List.take (41 : Nat) xs) firstF).snd = (0 : Int) →
 (guardF (List.take (41 : Nat) xs) firstF).snd = (0 : Int) ∧
 (guardF (List.take (41 : Nat) xs) firstF).snd = (0 : Int) ∧
 (guardF (List.take (41 : Nat) xs) firstF).snd = (0 : Int) ∧
 checkF (List.take (41 : Nat) xs) = (0 : Int) ∧
 ((guardF (List.take (41 : Nat) xs) bestF).fst.length ≤ (1000 : Nat) ∧ (bestR (List.take (41 : Nat) xs)).length ≤ (1000 : Nat)) ∧
 (decide ((guardF (List.take (41 : Nat) xs) bestF).fst = bestR (List.take (41 : Nat) xs)) = true →
 decide ((guardF (List.take (41 : Nat) xs) bestF).fst = bestR (List.take (41 : Nat) xs)) = true ∧
 decide ((guardF (List.take (41 : Nat) xs) bestF).fst = bestR (List.take (41 : Nat) xs)) = true ∧
 decide ((guardF (List.take (41 : Nat) xs) bestF).fst = bestR (List.take (41 : Nat) xs)) = true ∧
 ((guardF (List.take (41 : Nat) xs) bestF).snd = (0 : Int) →
 (guardF (List.take (41 : Nat) xs) bestF).snd = (0 : Int) ∧
 (guardF (List.take (41 : Nat) xs) bestF).snd = (0 : Int) ∧
 (guardF (List.take (41 : Nat) xs) bestF).snd = (0 : Int) ∧ True ∧ true = true) ∧
 (¬(guardF (List.take (41 : Nat) xs) bestF).snd = (0 : Int) →
 ¬(guardF (List.take (41 : Nat) xs) bestF).snd = (0 : Int) ∧
 ¬(guardF (List.take (41 : Nat) xs) bestF).snd = (0 : Int) ∧
 ¬(guardF (List.take (41 : Nat) xs) bestF).snd = (0 : Int) ∧ false = true)) ∧
 (decide ((guardF (List.take (41 : Nat) xs) bestF).fst = bestR (List.take (41 : Nat) xs)) = false →
 decide ((guardF (List.take (41 : Nat) xs) bestF).fst = bestR (List.take (41 : Nat) xs)) = false ∧
 decide ((guardF (List.take (41 : Nat) xs) bestF).fst = bestR (List.take (41 : Nat) xs)) = false ∧
 decide ((guardF (List.take (41 : Nat) xs) bestF).fst = bestR (List.take (41 : Nat) xs)) = false ∧ false = true)) ∧
 (¬(guardF (List.take (41 : Nat) xs) firstF).snd = (0 : Int) →
 ¬(guardF (List.take (41 : Nat) xs) firstF).snd = (0 : Int) ∧
 ¬(guardF (List.take (41 : Nat) xs) firstF).snd = (0 : Int) ∧ ¬(guardF (List.take (41 : Nat) xs) firstF).snd = (0 : Int) ∧ false = true)) ∧
 (decide ((guardF (List.take (41 : Nat) xs) firstF).fst = firstF (List.take (41 : Nat) xs)) = false →
 decide ((guardF (List.take (41 : Nat) xs) firstF).fst = firstF (List.take (41 : Nat) xs)) = false ∧
 decide ((guardF (List.take (41 : Nat) xs) firstF).fst = firstF (List.take (41 : Nat) xs)) = false ∧ false = true))) := by
 kernel_rfl

theorem g13_eq (x : List (Int × Int)) : g13 x = (
 ((∀ (q : Int × Int), q ∈ x → ((0 : Int) ≤ q.fst ∧ q.fst ≤ (65535 : Int)) ∧ (0 : Int) ≤ q.snd ∧ q.snd ≤ (65535 : Int)) ∧ (0 : Int) ≤ (60 : Int) ∧ (60 : Int) ≤ (1000 : Int)) ∧
 (madeF x (60 : Int)).length ≤ (1000 : Nat) ∧
 (madeF x (60 : Int)).length ≤ (1000 : Nat) ∧
 (madeF x (60 : Int)).length ≤ (1000 : Nat) ∧
 (¬(guardF (madeF x (60 : Int)) firstF).snd = (0 : Int) →
 ¬(guardF (madeF x (60 : Int)) firstF).snd = (0 : Int) ∧ ¬(guardF (madeF x (60 : Int)) firstF).snd = (0 : Int) ∧ false = true) ∧
 (¬¬(guardF (madeF x (60 : Int)) firstF).snd = (0 : Int) →
 ¬¬(guardF (madeF x (60 : Int)) firstF).snd = (0 : Int) ∧
 ¬¬(guardF (madeF x (60 : Int)) firstF).snd = (0 : Int) ∧
 (¬(guardF (madeF x (60 : Int)) trotF).snd = (0 : Int) →
 ¬(guardF (madeF x (60 : Int)) trotF).snd = (0 : Int) ∧
 ¬(guardF (madeF x (60 : Int)) trotF).snd = (0 : Int) ∧ ¬(guardF (madeF x (60 : Int)) trotF).snd = (0 : Int) ∧ false = true) ∧
 (¬¬(guardF (madeF x (60 : Int)) trotF).snd = (0 : Int) →
 ¬¬(guardF (madeF x (60 : Int)) trotF).snd = (0 : Int) ∧
 ¬¬(guardF (madeF x (60 : Int)) trotF).snd = (0 : Int) ∧
 ¬¬(guardF (madeF x (60 : Int)) trotF).snd = (0 : Int) ∧
 (¬(guardF (madeF x (60 : Int)) bestF).snd = (0 : Int) →
 ¬(guardF (madeF x (60 : Int)) bestF).snd = (0 : Int) ∧
 ¬(guardF (madeF x (60 : Int)) bestF).snd = (0 : Int) ∧ ¬(guardF (madeF x (60 : Int)) bestF).snd = (0 : Int) ∧ false = true) ∧
 (¬¬(guardF (madeF x (60 : Int)) bestF).snd = (0 : Int) →
 ¬¬(guardF (madeF x (60 : Int)) bestF).snd = (0 : Int) ∧
 ¬¬(guardF (madeF x (60 : Int)) bestF).snd = (0 : Int) ∧
 ¬¬(guardF (madeF x (60 : Int)) bestF).snd = (0 : Int) ∧
 (¬(↑(guardF (madeF x (60 : Int)) firstF).fst.length : Int) = (↑(madeF x (60 : Int)).length : Int) →
 ¬(↑(guardF (madeF x (60 : Int)) firstF).fst.length : Int) = (↑(madeF x (60 : Int)).length : Int) ∧
 ¬(↑(guardF (madeF x (60 : Int)) firstF).fst.length : Int) = (↑(madeF x (60 : Int)).length : Int) ∧
 ¬(↑(guardF (madeF x (60 : Int)) firstF).fst.length : Int) = (↑(madeF x (60 : Int)).length : Int) ∧ false = true) ∧
 (¬¬(↑(guardF (madeF x (60 : Int)) firstF).fst.length : Int) = (↑(madeF x (60 : Int)).length : Int) →
 ¬¬(↑(guardF (madeF x (60 : Int)) firstF).fst.length : Int) = (↑(madeF x (60 : Int)).length : Int) ∧
 ¬¬(↑(guardF (madeF x (60 : Int)) firstF).fst.length : Int) = (↑(madeF x (60 : Int)).length : Int) ∧
 ¬¬(↑(guardF (madeF x (60 : Int)) firstF).fst.length : Int) = (↑(madeF x (60 : Int)).length : Int) ∧
 (¬(↑(guardF (madeF x (60 : Int)) trotF).fst.length : Int) = (↑(madeF x (60 : Int)).length : Int) →
 ¬(↑(guardF (madeF x (60 : Int)) trotF).fst.length : Int) = (↑(madeF x (60 : Int)).length : Int) ∧
 ¬(↑(guardF (madeF x (60 : Int)) trotF).fst.length : Int) = (↑(madeF x (60 : Int)).length : Int) ∧
 ¬(↑(guardF (madeF x (60 : Int)) trotF).fst.length : Int) = (↑(madeF x (60 : Int)).length : Int) ∧ false = true) ∧
 (¬¬(↑(guardF (madeF x (60 : Int)) trotF).fst.length : Int) = (↑(madeF x (60 : Int)).length : Int) →
 ¬¬(↑(guardF (madeF x (60 : Int)) trotF).fst.length : Int) = (↑(madeF x (60 : Int)).length : Int) ∧
 ¬¬(↑(guardF (madeF x (60 : Int)) trotF).fst.length : Int) = (↑(madeF x (60 : Int)).length : Int) ∧
 ¬¬(↑(guardF (madeF x (60 : Int)) trotF).fst.length : Int) = (↑(madeF x (60 : Int)).length : Int) ∧
 (¬(↑(guardF (madeF x (60 : Int)) bestF).fst.length : Int) = (↑(madeF x (60 : Int)).length : Int) →
 ¬(↑(guardF (madeF x (60 : Int)) bestF).fst.length : Int) = (↑(madeF x (60 : Int)).length : Int) ∧
 ¬(↑(guardF (madeF x (60 : Int)) bestF).fst.length : Int) = (↑(madeF x (60 : Int)).length : Int) ∧
 ¬(↑(guardF (madeF x (60 : Int)) bestF).fst.length : Int) = (↑(madeF x (60 : Int)).length : Int) ∧ false = true) ∧
 (¬¬(↑(guardF (madeF x (60 : Int)) bestF).fst.length : Int) = (↑(madeF x (60 : Int)).length : Int) →
 ¬¬(↑(guardF (madeF x (60 : Int)) bestF).fst.length : Int) = (↑(madeF x (60 : Int)).length : Int) ∧
 ¬¬(↑(guardF (madeF x (60 : Int)) bestF).fst.length : Int) = (↑(madeF x (60 : Int)).length : Int) ∧
 ¬¬(↑(guardF (madeF x (60 : Int)) bestF).fst.length : Int) = (↑(madeF x (60 : Int)).length : Int) ∧
 True ∧
 ((!true) = true → (!true) = true ∧ (!true) = true ∧ false = true) ∧
 ((!true) = false →
 (!true) = false ∧
 (!true) = false ∧
 (∃ (x0 : Nat),
 (x0 ≤ (3 : Nat) ∧ True) ∧
 ([(guardF (madeF x (60 : Int)) firstF).fst, (guardF (madeF x (60 : Int)) trotF).fst,
 (guardF (madeF x (60 : Int)) bestF).fst] =
 [(guardF (madeF x (60 : Int)) firstF).fst, (guardF (madeF x (60 : Int)) trotF).fst,
 (guardF (madeF x (60 : Int)) bestF).fst] ∧
 True) ∧
 (0 : Int) = (↑x0 : Int) ∧
 (↑((0 : Nat) + (1 : Nat) + (1 : Nat) + (1 : Nat)) : Int) =
 (↑((0 : Nat) + (1 : Nat) + (1 : Nat) + (1 : Nat)) : Int) ∧
 True ∧ madeF x (60 : Int) = madeF x (60 : Int) ∧ True) ∧
 ∀ (x_1 : Nat),
 x_1 ≤ (3 : Nat) ∧ True →
 ((↑x_1 : Int) < (↑((0 : Nat) + (1 : Nat) + (1 : Nat) + (1 : Nat)) : Int) →
 (↑x_1 : Int) < (↑((0 : Nat) + (1 : Nat) + (1 : Nat) + (1 : Nat)) : Int) ∧
 ((0 : Int) ≤ (↑x_1 : Int) ∧
 (↑x_1 : Int) < (↑((0 : Nat) + (1 : Nat) + (1 : Nat) + (1 : Nat)) : Int)) ∧
 ((madeF x (60 : Int)).length ≤ (1000 : Nat) ∧
 ([(guardF (madeF x (60 : Int)) firstF).fst, (guardF (madeF x (60 : Int)) trotF).fst,
 (guardF (madeF x (60 : Int)) bestF).fst].getD
 (↑x_1 : Int).toNat []).length ≤
 (1000 : Nat)) ∧
 ((!(properP (madeF x (60 : Int))
 ([(guardF (madeF x (60 : Int)) firstF).fst,
 (guardF (madeF x (60 : Int)) trotF).fst,
 (guardF (madeF x (60 : Int)) bestF).fst].getD
 (↑x_1 : Int).toNat [])).fst) =
 true →
 (!(properP (madeF x (60 : Int))
 ([(guardF (madeF x (60 : Int)) firstF).fst,
 (guardF (madeF x (60 : Int)) trotF).fst,
 (guardF (madeF x (60 : Int)) bestF).fst].getD
 (↑x_1 : Int).toNat [])).fst) =
 true ∧
 (!(properP (madeF x (60 : Int))
 ([(guardF (madeF x (60 : Int)) firstF).fst,
 (guardF (madeF x (60 : Int)) trotF).fst,
 (guardF (madeF x (60 : Int)) bestF).fst].getD
 (↑x_1 : Int).toNat [])).fst) =
 true ∧
 false = true) ∧
 ((!(properP (madeF x (60 : Int))
 ([(guardF (madeF x (60 : Int)) firstF).fst,
 (guardF (madeF x (60 : Int)) trotF).fst,
 (guardF (madeF x (60 : Int)) bestF).fst].getD
 (↑x_1 : Int).toNat [])).fst) =
 false →
 (!(properP (madeF x (60 : Int))
 ([(guardF (madeF x (60 : Int)) firstF).fst,
 (guardF (madeF x (60 : Int)) trotF).fst,
 (guardF (madeF x (60 : Int)) bestF).fst].getD
 (↑x_1 : Int).toNat [])).fst) =
 false ∧
 (!(properP (madeF x (60 : Int))
 ([(guardF (madeF x (60 : Int)) firstF).fst,
 (guardF (madeF x (60 : Int)) trotF).fst,
 (guardF (madeF x (60 : Int)) bestF).fst].getD
 (↑x_1 : Int).toNat [])).fst) =
 false ∧
 (¬(properP (madeF x (60 : Int))
 ([(guardF (madeF x (60 : Int)) firstF).fst,
 (guardF (madeF x (60 : Int)) trotF).fst,
 (guardF (madeF x (60 : Int)) bestF).fst].getD
 (↑x_1 : Int).toNat [])).snd =
 (0 : Int) →
 ¬(properP (madeF x (60 : Int))
 ([(guardF (madeF x (60 : Int)) firstF).fst,
 (guardF (madeF x (60 : Int)) trotF).fst,
 (guardF (madeF x (60 : Int)) bestF).fst].getD
 (↑x_1 : Int).toNat [])).snd =
 (0 : Int) ∧
 ¬(properP (madeF x (60 : Int))
 ([(guardF (madeF x (60 : Int)) firstF).fst,
 (guardF (madeF x (60 : Int)) trotF).fst,
 (guardF (madeF x (60 : Int)) bestF).fst].getD
 (↑x_1 : Int).toNat [])).snd =
 (0 : Int) ∧
 ¬(properP (madeF x (60 : Int))
 ([(guardF (madeF x (60 : Int)) firstF).fst,
 (guardF (madeF x (60 : Int)) trotF).fst,
 (guardF (madeF x (60 : Int)) bestF).fst].getD
 (↑x_1 : Int).toNat [])).snd =
 (0 : Int) ∧
 false = true) ∧
 (¬¬(properP (madeF x (60 : Int))
 ([(guardF (madeF x (60 : Int)) firstF).fst,
 (guardF (madeF x (60 : Int)) trotF).fst,
 (guardF (madeF x (60 : Int)) bestF).fst].getD
 (↑x_1 : Int).toNat [])).snd =
 (0 : Int) →
 ¬¬(properP (madeF x (60 : Int))
 ([(guardF (madeF x (60 : Int)) firstF).fst,
 (guardF (madeF x (60 : Int)) trotF).fst,
 (guardF (madeF x (60 : Int)) bestF).fst].getD
 (↑x_1 : Int).toNat [])).snd =
 (0 : Int) ∧
 ¬¬(properP (madeF x (60 : Int))
 ([(guardF (madeF x (60 : Int)) firstF).fst,
 (guardF (madeF x (60 : Int)) trotF).fst,
 (guardF (madeF x (60 : Int)) bestF).fst].getD
 (↑x_1 : Int).toNat [])).snd =
 (0 : Int) ∧
 ¬¬(properP (madeF x (60 : Int))
 ([(guardF (madeF x (60 : Int)) firstF).fst,
 (guardF (madeF x (60 : Int)) trotF).fst,
 (guardF (madeF x (60 : Int)) bestF).fst].getD
 (↑x_1 : Int).toNat [])).snd =
 (0 : Int) ∧
 ((madeF x (60 : Int)).length ≤ (1000 : Nat) ∧
 ([(guardF (madeF x (60 : Int)) firstF).fst,
 (guardF (madeF x (60 : Int)) trotF).fst,
 (guardF (madeF x (60 : Int)) bestF).fst].getD
 (↑x_1 : Int).toNat []).length =
 (madeF x (60 : Int)).length) ∧
 ((!properR (madeF x (60 : Int))
 ([(guardF (madeF x (60 : Int)) firstF).fst,
 (guardF (madeF x (60 : Int)) trotF).fst,
 (guardF (madeF x (60 : Int)) bestF).fst].getD
 (↑x_1 : Int).toNat [])) =
 true →
 (!properR (madeF x (60 : Int))
 ([(guardF (madeF x (60 : Int)) firstF).fst,
 (guardF (madeF x (60 : Int)) trotF).fst,
 (guardF (madeF x (60 : Int)) bestF).fst].getD
 (↑x_1 : Int).toNat [])) =
 true ∧
 (!properR (madeF x (60 : Int))
 ([(guardF (madeF x (60 : Int)) firstF).fst,
 (guardF (madeF x (60 : Int)) trotF).fst,
 (guardF (madeF x (60 : Int)) bestF).fst].getD
 (↑x_1 : Int).toNat [])) =
 true ∧
 false = true) ∧
 ((!properR (madeF x (60 : Int))
 ([(guardF (madeF x (60 : Int)) firstF).fst,
 (guardF (madeF x (60 : Int)) trotF).fst,
 (guardF (madeF x (60 : Int)) bestF).fst].getD
 (↑x_1 : Int).toNat [])) =
 false →
 (!properR (madeF x (60 : Int))
 ([(guardF (madeF x (60 : Int)) firstF).fst,
 (guardF (madeF x (60 : Int)) trotF).fst,
 (guardF (madeF x (60 : Int)) bestF).fst].getD
 (↑x_1 : Int).toNat [])) =
 false ∧
 (!properR (madeF x (60 : Int))
 ([(guardF (madeF x (60 : Int)) firstF).fst,
 (guardF (madeF x (60 : Int)) trotF).fst,
 (guardF (madeF x (60 : Int)) bestF).fst].getD
 (↑x_1 : Int).toNat [])) =
 false ∧
 Fits IntKind.i64 ((↑x_1 : Int) + (1 : Int)) ∧
 ∃ (x' : Nat),
 (x' ≤ (3 : Nat) ∧ True) ∧
 (3 : Nat) - x' < (3 : Nat) - x_1 ∧
 ([(guardF (madeF x (60 : Int)) firstF).fst,
 (guardF (madeF x (60 : Int)) trotF).fst,
 (guardF (madeF x (60 : Int)) bestF).fst] =
 [(guardF (madeF x (60 : Int)) firstF).fst,
 (guardF (madeF x (60 : Int)) trotF).fst,
 (guardF (madeF x (60 : Int)) bestF).fst] ∧
 True) ∧
 (↑x_1 : Int) + (1 : Int) = (↑x' : Int) ∧
 (↑((0 : Nat) + (1 : Nat) + (1 : Nat) +
 (1 : Nat)) :
 Int) =
 (↑((0 : Nat) + (1 : Nat) + (1 : Nat) +
 (1 : Nat)) :
 Int) ∧
 True ∧
 madeF x (60 : Int) = madeF x (60 : Int) ∧
 True)))) ∧
 (¬(↑x_1 : Int) < (↑((0 : Nat) + (1 : Nat) + (1 : Nat) + (1 : Nat)) : Int) →
 ¬(↑x_1 : Int) < (↑((0 : Nat) + (1 : Nat) + (1 : Nat) + (1 : Nat)) : Int) ∧ true = true))))))))) := by
 kernel_rfl

theorem g14_eq (x : List (Int × Int)) (y : List Int) : g14 x y = (
 ((∀ (q : Int × Int), q ∈ x → ((0 : Int) ≤ q.fst ∧ q.fst ≤ (65535 : Int)) ∧ (0 : Int) ≤ q.snd ∧ q.snd ≤ (65535 : Int)) ∧ (0 : Int) ≤ (40 : Int) ∧ (40 : Int) ≤ (1000 : Int)) ∧
 (madeF x (40 : Int)).length ≤ (1000 : Nat) ∧
 (madeF x (40 : Int)).length ≤ (1000 : Nat) ∧
 ((guardF (madeF x (40 : Int)) bestF).fst.length ≤ (100 : Nat) ∧ ∀ (x_1 : Int), x_1 ∈ (guardF (madeF x (40 : Int)) bestF).fst → (0 : Int) ≤ x_1 ∧ x_1 ≤ (1000 : Int)) ∧
 (¬(guardF (madeF x (40 : Int)) bestF).snd = (0 : Int) →
 ¬(guardF (madeF x (40 : Int)) bestF).snd = (0 : Int) ∧ ¬(guardF (madeF x (40 : Int)) bestF).snd = (0 : Int) ∧ false = true) ∧
 (¬¬(guardF (madeF x (40 : Int)) bestF).snd = (0 : Int) →
 ¬¬(guardF (madeF x (40 : Int)) bestF).snd = (0 : Int) ∧
 ¬¬(guardF (madeF x (40 : Int)) bestF).snd = (0 : Int) ∧
 (¬(depthP (madeF x (40 : Int))).snd = (0 : Int) →
 ¬(depthP (madeF x (40 : Int))).snd = (0 : Int) ∧
 ¬(depthP (madeF x (40 : Int))).snd = (0 : Int) ∧ ¬(depthP (madeF x (40 : Int))).snd = (0 : Int) ∧ false = true) ∧
 (¬¬(depthP (madeF x (40 : Int))).snd = (0 : Int) →
 ¬¬(depthP (madeF x (40 : Int))).snd = (0 : Int) ∧
 ¬¬(depthP (madeF x (40 : Int))).snd = (0 : Int) ∧
 ¬¬(depthP (madeF x (40 : Int))).snd = (0 : Int) ∧
 (¬(↑(guardF (madeF x (40 : Int)) bestF).fst.length : Int) = (↑(madeF x (40 : Int)).length : Int) →
 ¬(↑(guardF (madeF x (40 : Int)) bestF).fst.length : Int) = (↑(madeF x (40 : Int)).length : Int) ∧
 ¬(↑(guardF (madeF x (40 : Int)) bestF).fst.length : Int) = (↑(madeF x (40 : Int)).length : Int) ∧
 ¬(↑(guardF (madeF x (40 : Int)) bestF).fst.length : Int) = (↑(madeF x (40 : Int)).length : Int) ∧ false = true) ∧
 (¬¬(↑(guardF (madeF x (40 : Int)) bestF).fst.length : Int) = (↑(madeF x (40 : Int)).length : Int) →
 ¬¬(↑(guardF (madeF x (40 : Int)) bestF).fst.length : Int) = (↑(madeF x (40 : Int)).length : Int) ∧
 ¬¬(↑(guardF (madeF x (40 : Int)) bestF).fst.length : Int) = (↑(madeF x (40 : Int)).length : Int) ∧
 ¬¬(↑(guardF (madeF x (40 : Int)) bestF).fst.length : Int) = (↑(madeF x (40 : Int)).length : Int) ∧
 (¬(mostF (guardF (madeF x (40 : Int)) bestF).fst).fst = (depthP (madeF x (40 : Int))).fst →
 ¬(mostF (guardF (madeF x (40 : Int)) bestF).fst).fst = (depthP (madeF x (40 : Int))).fst ∧
 ¬(mostF (guardF (madeF x (40 : Int)) bestF).fst).fst = (depthP (madeF x (40 : Int))).fst ∧
 ¬(mostF (guardF (madeF x (40 : Int)) bestF).fst).fst = (depthP (madeF x (40 : Int))).fst ∧ false = true) ∧
 (¬¬(mostF (guardF (madeF x (40 : Int)) bestF).fst).fst = (depthP (madeF x (40 : Int))).fst →
 ¬¬(mostF (guardF (madeF x (40 : Int)) bestF).fst).fst = (depthP (madeF x (40 : Int))).fst ∧
 ¬¬(mostF (guardF (madeF x (40 : Int)) bestF).fst).fst = (depthP (madeF x (40 : Int))).fst ∧
 ¬¬(mostF (guardF (madeF x (40 : Int)) bestF).fst).fst = (depthP (madeF x (40 : Int))).fst ∧
 (¬(mostF (guardF (madeF x (40 : Int)) bestF).fst).snd = (depthP (madeF x (40 : Int))).fst →
 ¬(mostF (guardF (madeF x (40 : Int)) bestF).fst).snd = (depthP (madeF x (40 : Int))).fst ∧
 ¬(mostF (guardF (madeF x (40 : Int)) bestF).fst).snd = (depthP (madeF x (40 : Int))).fst ∧
 ¬(mostF (guardF (madeF x (40 : Int)) bestF).fst).snd = (depthP (madeF x (40 : Int))).fst ∧ false = true) ∧
 (¬¬(mostF (guardF (madeF x (40 : Int)) bestF).fst).snd = (depthP (madeF x (40 : Int))).fst →
 ¬¬(mostF (guardF (madeF x (40 : Int)) bestF).fst).snd = (depthP (madeF x (40 : Int))).fst ∧
 ¬¬(mostF (guardF (madeF x (40 : Int)) bestF).fst).snd = (depthP (madeF x (40 : Int))).fst ∧
 ¬¬(mostF (guardF (madeF x (40 : Int)) bestF).fst).snd = (depthP (madeF x (40 : Int))).fst ∧
 True ∧
 ((!true) = true → (!true) = true ∧ (!true) = true ∧ false = true) ∧
 ((!true) = false →
 (!true) = false ∧
 (!true) = false ∧
 (∃ (x0 : Nat),
 x0 ≤ (madeF x (40 : Int)).length ∧
 ([] = othTo y x0 ∧ True) ∧
 (0 : Int) = (↑x0 : Int) ∧
 True ∧
 (depthP (madeF x (40 : Int))).fst = (depthP (madeF x (40 : Int))).fst ∧
 madeF x (40 : Int) = madeF x (40 : Int) ∧ y = y ∧ True) ∧
 ∀ (x_1 : Nat),
 x_1 ≤ (madeF x (40 : Int)).length →
 ((↑x_1 : Int) < (↑(madeF x (40 : Int)).length : Int) →
 (↑x_1 : Int) < (↑(madeF x (40 : Int)).length : Int) ∧
 ((↑x_1 : Int) < (↑y.length : Int) →
 (↑x_1 : Int) < (↑y.length : Int) ∧
 ((0 : Int) ≤ (↑x_1 : Int) ∧ (↑x_1 : Int) < (↑y.length : Int)) ∧
 Fits IntKind.i64 (y.getD (↑x_1 : Int).toNat (0 : Int)) ∧
 ((0 : Int) ≤ y.getD (↑x_1 : Int).toNat (0 : Int) ∧ (0 : Int) < (6 : Int)) ∧
 Small ((othTo y x_1).length + ((0 : Nat) + (1 : Nat))) ∧
 Fits IntKind.i64 ((↑x_1 : Int) + (1 : Int)) ∧
 ∃ (x' : Nat),
 x' ≤ (madeF x (40 : Int)).length ∧
 (madeF x (40 : Int)).length - x' < (madeF x (40 : Int)).length - x_1 ∧
 (othTo y x_1 ++ [y.getD (↑x_1 : Int).toNat (0 : Int) % (6 : Int)] = othTo y x' ∧
 True) ∧
 (↑x_1 : Int) + (1 : Int) = (↑x' : Int) ∧
 True ∧
 (depthP (madeF x (40 : Int))).fst = (depthP (madeF x (40 : Int))).fst ∧
 madeF x (40 : Int) = madeF x (40 : Int) ∧ y = y ∧ True) ∧
 (¬(↑x_1 : Int) < (↑y.length : Int) →
 ¬(↑x_1 : Int) < (↑y.length : Int) ∧
 Small ((othTo y x_1).length + ((0 : Nat) + (1 : Nat))) ∧
 Fits IntKind.i64 ((↑x_1 : Int) + (1 : Int)) ∧
 ∃ (x' : Nat),
 x' ≤ (madeF x (40 : Int)).length ∧
 (madeF x (40 : Int)).length - x' < (madeF x (40 : Int)).length - x_1 ∧
 (othTo y x_1 ++ [(↑x_1 : Int)] = othTo y x' ∧ True) ∧
 (↑x_1 : Int) + (1 : Int) = (↑x' : Int) ∧
 True ∧
 (depthP (madeF x (40 : Int))).fst = (depthP (madeF x (40 : Int))).fst ∧
 madeF x (40 : Int) = madeF x (40 : Int) ∧ y = y ∧ True)) ∧
 (¬(↑x_1 : Int) < (↑(madeF x (40 : Int)).length : Int) →
 ¬(↑x_1 : Int) < (↑(madeF x (40 : Int)).length : Int) ∧
 ((madeF x (40 : Int)).length ≤ (1000 : Nat) ∧ (othTo y x_1).length ≤ (1000 : Nat)) ∧
 ((othTo y x_1).length ≤ (100 : Nat) ∧
 ∀ (x : Int), x ∈ othTo y x_1 → (0 : Int) ≤ x ∧ x ≤ (1000 : Int)) ∧
 ((properP (madeF x (40 : Int)) (othTo y x_1)).snd = (0 : Int) →
 (properP (madeF x (40 : Int)) (othTo y x_1)).snd = (0 : Int) ∧
 (properP (madeF x (40 : Int)) (othTo y x_1)).snd = (0 : Int) ∧
 ((!(properP (madeF x (40 : Int)) (othTo y x_1)).fst) = true →
 (!(properP (madeF x (40 : Int)) (othTo y x_1)).fst) = true ∧
 (!(properP (madeF x (40 : Int)) (othTo y x_1)).fst) = true ∧ true = true) ∧
 ((!(properP (madeF x (40 : Int)) (othTo y x_1)).fst) = false →
 (!(properP (madeF x (40 : Int)) (othTo y x_1)).fst) = false ∧
 (!(properP (madeF x (40 : Int)) (othTo y x_1)).fst) = false ∧
 decide ((depthP (madeF x (40 : Int))).fst ≤ (mostF (othTo y x_1)).fst) = true)) ∧
 (¬(properP (madeF x (40 : Int)) (othTo y x_1)).snd = (0 : Int) →
 ¬(properP (madeF x (40 : Int)) (othTo y x_1)).snd = (0 : Int) ∧
 ¬(properP (madeF x (40 : Int)) (othTo y x_1)).snd = (0 : Int) ∧ false = true))))))))) := by
 kernel_rfl

end Go.SX.Sh
