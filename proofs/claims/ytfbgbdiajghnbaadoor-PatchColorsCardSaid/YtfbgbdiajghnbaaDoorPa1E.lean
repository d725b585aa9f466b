/- Printed by VC.lean: what the executor asks. -/
import Derived.Test.YtfbgbdiajghnbaaDoorPa1
namespace Go.SX.Pa
open Go Go.Proofs
theorem g54_eq (n : Int) (r : Int) (m : Int) : g54 n r m = (
 ((1 : Int) ≤ min (min n r) m →
 (1 : Int) ≤ min (min n r) m ∧
 (1 : Int) ≤ min (min n r) m ∧
 (max (max n r) m ≤ (12 : Int) →
 max (max n r) m ≤ (12 : Int) ∧
 max (max n r) m ≤ (12 : Int) ∧
 max (max n r) m ≤ (12 : Int) ∧ Fits IntKind.i64 (n * r) ∧ ((n, r, m), decide (n * r ≤ (12 : Int))) = ((n, r, m), decide (ClosP n r m))) ∧
 (¬max (max n r) m ≤ (12 : Int) →
 ¬max (max n r) m ≤ (12 : Int) ∧ ¬max (max n r) m ≤ (12 : Int) ∧ ¬max (max n r) m ≤ (12 : Int) ∧ ((n, r, m), false) = ((n, r, m), decide (ClosP n r m)))) ∧
 (¬(1 : Int) ≤ min (min n r) m → ¬(1 : Int) ≤ min (min n r) m ∧ ¬(1 : Int) ≤ min (min n r) m ∧ ((n, r, m), false) = ((n, r, m), decide (ClosP n r m)))) := by
 kernel_rfl

theorem g20_eq (n : Int) (r : Int) (m : Int) : g20 n r m = (
 True ∧
 ((!decide (ClosP n r m)) = true → (!decide (ClosP n r m)) = true ∧ (false, (1 : Int)) = strictF n r m) ∧
 ((!decide (ClosP n r m)) = false →
 (!decide (ClosP n r m)) = false ∧
 Fits IntKind.i64 ((2 : Int) * n) ∧
 Fits IntKind.i64 ((2 : Int) * n - (1 : Int)) ∧
 ((2 : Int) * n - (1 : Int) ≤ m → (2 : Int) * n - (1 : Int) ≤ m ∧ (2 : Int) * n - (1 : Int) ≤ m ∧ (true, (0 : Int)) = strictF n r m) ∧
 (¬(2 : Int) * n - (1 : Int) ≤ m →
 ¬(2 : Int) * n - (1 : Int) ≤ m ∧
 ¬(2 : Int) * n - (1 : Int) ≤ m ∧
 (r = (1 : Int) → r = (1 : Int) ∧ r = (1 : Int) ∧ (decide (n ≤ m), (0 : Int)) = strictF n r m) ∧
 (¬r = (1 : Int) → ¬r = (1 : Int) ∧ ¬r = (1 : Int) ∧ (false, (0 : Int)) = strictF n r m)))) := by
 kernel_rfl

theorem g19_eq (k : Int) : g19 k = (
 (k < (1 : Int) → k < (1 : Int) ∧ k < (1 : Int) ∧ ((0 : Int), (1 : Int)) = waksF k) ∧
 (¬k < (1 : Int) →
 ¬k < (1 : Int) ∧
 ¬k < (1 : Int) ∧
 ((20 : Int) < k → (20 : Int) < k ∧ (20 : Int) < k ∧ ((0 : Int), (1 : Int)) = waksF k) ∧
 (¬(20 : Int) < k →
 ¬(20 : Int) < k ∧
 ¬(20 : Int) < k ∧
 Fits IntKind.i64 (k - (1 : Int)) ∧
 ((0 : Int) ≤ k ∧ k < (64 : Int)) ∧
 Fits IntKind.i64 ((k - (1 : Int)) * (2 : Int) ^ k.toNat) ∧
 Fits IntKind.i64 ((k - (1 : Int)) * (2 : Int) ^ k.toNat + (1 : Int)) ∧ ((k - (1 : Int)) * (2 : Int) ^ k.toNat + (1 : Int), (0 : Int)) = waksF k))) := by
 kernel_rfl

theorem g63_eq (k : Int) : g63 k = (
 ((1 : Int) ≤ k → (1 : Int) ≤ k ∧ (1 : Int) ≤ k ∧ decide (k ≤ (3 : Int)) = decide ((1 : Int) ≤ k ∧ k ≤ (3 : Int))) ∧
 (¬(1 : Int) ≤ k → ¬(1 : Int) ≤ k ∧ ¬(1 : Int) ≤ k ∧ false = decide ((1 : Int) ≤ k ∧ k ≤ (3 : Int)))) := by
 kernel_rfl

theorem g52_eq (k : Int) : g52 k = (
 Fits IntKind.i64 ((2 : Int) * k) ∧
 Fits IntKind.i64 ((2 : Int) * k - (1 : Int)) ∧
 Fits IntKind.i64 (k - (1 : Int)) ∧
 ((0 : Int) ≤ k - (1 : Int) ∧ k - (1 : Int) < (64 : Int)) ∧
 Fits IntKind.i64 (((2 : Int) * k - (1 : Int)) * (2 : Int) ^ (k - (1 : Int)).toNat) ∧ ((2 : Int) * k - (1 : Int)) * (2 : Int) ^ (k - (1 : Int)).toNat = switchesF k) := by
 kernel_rfl

theorem g51_eq (l : List Int) (n : Int) : g51 l n = (
 (¬(↑l.length : Int) = n → ¬(↑l.length : Int) = n ∧ false = decide (PermP l n)) ∧
 (¬¬(↑l.length : Int) = n →
 ¬¬(↑l.length : Int) = n ∧
 ((0 : Int) ≤ n ∧ n ≤ n ∧ Small n.toNat) ∧
 (∃ (x0 : Nat),
 (x0 ≤ l.length ∧ (∀ (x : Int), x ∈ List.take x0 l → (0 : Int) ≤ x ∧ x < n) ∧ (List.take x0 l).Nodup) ∧
 (List.replicate n.toNat false = seenR n (List.take x0 l) ∧ True) ∧
 (0 : Int) = (↑x0 : Int) ∧ (↑l.length : Int) = (↑l.length : Int) ∧ l = l ∧ True ∧ l = l ∧ n = n ∧ True) ∧
 ∀ (x : Nat),
 x ≤ l.length ∧ (∀ (x_1 : Int), x_1 ∈ List.take x l → (0 : Int) ≤ x_1 ∧ x_1 < n) ∧ (List.take x l).Nodup →
 ((↑x : Int) < (↑l.length : Int) →
 (↑x : Int) < (↑l.length : Int) ∧
 ((0 : Int) ≤ (↑x : Int) ∧ (↑x : Int) < (↑l.length : Int)) ∧
 (l.getD (↑x : Int).toNat (0 : Int) < (0 : Int) →
 l.getD (↑x : Int).toNat (0 : Int) < (0 : Int) ∧ l.getD (↑x : Int).toNat (0 : Int) < (0 : Int) ∧ false = decide (PermP l n)) ∧
 (¬l.getD (↑x : Int).toNat (0 : Int) < (0 : Int) →
 ¬l.getD (↑x : Int).toNat (0 : Int) < (0 : Int) ∧
 ¬l.getD (↑x : Int).toNat (0 : Int) < (0 : Int) ∧
 (n ≤ l.getD (↑x : Int).toNat (0 : Int) →
 n ≤ l.getD (↑x : Int).toNat (0 : Int) ∧
 n ≤ l.getD (↑x : Int).toNat (0 : Int) ∧ n ≤ l.getD (↑x : Int).toNat (0 : Int) ∧ false = decide (PermP l n)) ∧
 (¬n ≤ l.getD (↑x : Int).toNat (0 : Int) →
 ¬n ≤ l.getD (↑x : Int).toNat (0 : Int) ∧
 ¬n ≤ l.getD (↑x : Int).toNat (0 : Int) ∧
 ¬n ≤ l.getD (↑x : Int).toNat (0 : Int) ∧
 ((0 : Int) ≤ l.getD (↑x : Int).toNat (0 : Int) ∧ l.getD (↑x : Int).toNat (0 : Int) < (↑(seenR n (List.take x l)).length : Int)) ∧
 ((seenR n (List.take x l)).getD (l.getD (↑x : Int).toNat (0 : Int)).toNat false = true →
 (seenR n (List.take x l)).getD (l.getD (↑x : Int).toNat (0 : Int)).toNat false = true ∧
 (seenR n (List.take x l)).getD (l.getD (↑x : Int).toNat (0 : Int)).toNat false = true ∧ false = decide (PermP l n)) ∧
 ((seenR n (List.take x l)).getD (l.getD (↑x : Int).toNat (0 : Int)).toNat false = false →
 (seenR n (List.take x l)).getD (l.getD (↑x : Int).toNat (0 : Int)).toNat false = false ∧
 (seenR n (List.take x l)).getD (l.getD (↑x : Int).toNat (0 : Int)).toNat false = false ∧
 ((0 : Int) ≤ l.getD (↑x : Int).toNat (0 : Int) ∧ l.getD (↑x : Int).toNat (0 : Int) < (↑(seenR n (List.take x l)).length : Int)) ∧
 Fits IntKind.i64 ((↑x : Int) + (1 : Int)) ∧
 ∃ (x' : Nat),
 (x' ≤ l.length ∧ (∀ (x : Int), x ∈ List.take x' l → (0 : Int) ≤ x ∧ x < n) ∧ (List.take x' l).Nodup) ∧
 l.length - x' < l.length - x ∧
 ((seenR n (List.take x l)).set (l.getD (↑x : Int).toNat (0 : Int)).toNat true = seenR n (List.take x' l) ∧ True) ∧
 (↑x : Int) + (1 : Int) = (↑x' : Int) ∧
 (↑l.length : Int) = (↑l.length : Int) ∧ l = l ∧ True ∧ l = l ∧ n = n ∧ True)))) ∧
 (¬(↑x : Int) < (↑l.length : Int) → ¬(↑x : Int) < (↑l.length : Int) ∧ true = decide (PermP l n)))) := by
 kernel_rfl

theorem g61_eq (n : Int) (r : Int) (m : Int) (l : List Int) : g61 n r m l = (
 True ∧
 ((!decide (ClosP n r m)) = true → (!decide (ClosP n r m)) = true ∧ (!decide (ClosP n r m)) = true ∧ ((n, r, m), (1 : Int)) = readF n r m l) ∧
 ((!decide (ClosP n r m)) = false →
 (!decide (ClosP n r m)) = false ∧
 (!decide (ClosP n r m)) = false ∧
 Fits IntKind.i64 (n * r) ∧
 l.length ≤ (1000 : Nat) ∧
 ((!decide (PermP l (n * r))) = true → (!decide (PermP l (n * r))) = true ∧ (!decide (PermP l (n * r))) = true ∧ ((n, r, m), (2 : Int)) = readF n r m l) ∧
 ((!decide (PermP l (n * r))) = false → (!decide (PermP l (n * r))) = false ∧ (!decide (PermP l (n * r))) = false ∧ ((n, r, m), (0 : Int)) = readF n r m l))) := by
 kernel_rfl

theorem g62_eq (c : Cl) (l : List Int) : g62 c l = (
 (∃ (x0 : Nat),
 x0 ≤ l.length ∧
 ((c.fst = c.fst ∧ c.snd.fst = c.snd.fst ∧ c.snd.snd = c.snd.snd ∧ True) ∧ [] = edgesTo c.fst l x0 ∧ True) ∧
 (0 : Int) = (↑x0 : Int) ∧ True ∧ (↑l.length : Int) = (↑l.length : Int) ∧ l = l ∧ True ∧ l = l ∧ True) ∧
 ∀ (x : Nat),
 x ≤ l.length →
 ((↑x : Int) < (↑l.length : Int) →
 (↑x : Int) < (↑l.length : Int) ∧
 ((0 : Int) ≤ (↑x : Int) ∧ (↑x : Int) < (↑l.length : Int)) ∧
 ((0 : Int) ≤ (↑x : Int) ∧ (0 : Int) < c.fst) ∧
 Fits IntKind.i64 ((↑x : Int) / c.fst) ∧
 ((0 : Int) ≤ l.getD (↑x : Int).toNat (0 : Int) ∧ (0 : Int) < c.fst) ∧
 Fits IntKind.i64 (l.getD (↑x : Int).toNat (0 : Int) / c.fst) ∧
 Small ((edgesTo c.fst l x).length + ((0 : Nat) + (1 : Nat))) ∧
 Fits IntKind.i64 ((↑x : Int) + (1 : Int)) ∧
 ∃ (x' : Nat),
 x' ≤ l.length ∧
 l.length - x' < l.length - x ∧
 ((c.fst = c.fst ∧ c.snd.fst = c.snd.fst ∧ c.snd.snd = c.snd.snd ∧ True) ∧
 edgesTo c.fst l x ++ [((↑x : Int) / c.fst, l.getD (↑x : Int).toNat (0 : Int) / c.fst)] = edgesTo c.fst l x' ∧ True) ∧
 (↑x : Int) + (1 : Int) = (↑x' : Int) ∧ True ∧ (↑l.length : Int) = (↑l.length : Int) ∧ l = l ∧ True ∧ l = l ∧ True) ∧
 (¬(↑x : Int) < (↑l.length : Int) → ¬(↑x : Int) < (↑l.length : Int) ∧ edgesTo c.fst l x = edgesF c.fst l)) := by
 kernel_rfl

theorem g66_eq (es : List Ed) (c : List Int) (i : Int) : g66 es c i = (
 ((0 : Int) ≤ (↑(0 : Nat) : Int) ∧ (↑(0 : Nat) : Int) ≤ i ∧ i ≤ (↑es.length : Int)) ∧
 True ∧
 (∃ (x0 : Nat),
 (x0 ≤ i.toNat ∧ ∀ (j : Nat), j < x0 → touch es c i.toNat j = false) ∧
 True ∧
 (0 : Int) = (↑x0 : Int) ∧
 (↑(List.drop (↑(0 : Nat) : Int).toNat (List.take i.toNat es)).length : Int) = (↑(List.drop (↑(0 : Nat) : Int).toNat (List.take i.toNat es)).length : Int) ∧
 List.drop (↑(0 : Nat) : Int).toNat (List.take i.toNat es) = List.drop (↑(0 : Nat) : Int).toNat (List.take i.toNat es) ∧ es = es ∧ c = c ∧ i = i ∧ True) ∧
 ∀ (x : Nat),
 (x ≤ i.toNat ∧ ∀ (j : Nat), j < x → touch es c i.toNat j = false) →
 ((↑x : Int) < (↑(List.drop (↑(0 : Nat) : Int).toNat (List.take i.toNat es)).length : Int) →
 (↑x : Int) < (↑(List.drop (↑(0 : Nat) : Int).toNat (List.take i.toNat es)).length : Int) ∧
 ((0 : Int) ≤ (↑x : Int) ∧ (↑x : Int) < (↑(List.drop (↑(0 : Nat) : Int).toNat (List.take i.toNat es)).length : Int)) ∧
 ((0 : Int) ≤ (↑x : Int) ∧ (↑x : Int) < (↑c.length : Int)) ∧
 ((0 : Int) ≤ i ∧ i < (↑c.length : Int)) ∧
 (c.getD (↑x : Int).toNat (0 : Int) = c.getD i.toNat (0 : Int) →
 c.getD (↑x : Int).toNat (0 : Int) = c.getD i.toNat (0 : Int) ∧
 c.getD (↑x : Int).toNat (0 : Int) = c.getD i.toNat (0 : Int) ∧
 ((0 : Int) ≤ i ∧ i < (↑es.length : Int)) ∧
 (((List.drop (↑(0 : Nat) : Int).toNat (List.take i.toNat es)).getD (↑x : Int).toNat ((0 : Int), (0 : Int))).fst =
 (es.getD i.toNat ((0 : Int), (0 : Int))).fst →
 ((List.drop (↑(0 : Nat) : Int).toNat (List.take i.toNat es)).getD (↑x : Int).toNat ((0 : Int), (0 : Int))).fst =
 (es.getD i.toNat ((0 : Int), (0 : Int))).fst ∧
 ((List.drop (↑(0 : Nat) : Int).toNat (List.take i.toNat es)).getD (↑x : Int).toNat ((0 : Int), (0 : Int))).fst =
 (es.getD i.toNat ((0 : Int), (0 : Int))).fst ∧
 true = clashF es c i.toNat) ∧
 (¬((List.drop (↑(0 : Nat) : Int).toNat (List.take i.toNat es)).getD (↑x : Int).toNat ((0 : Int), (0 : Int))).fst =
 (es.getD i.toNat ((0 : Int), (0 : Int))).fst →
 ¬((List.drop (↑(0 : Nat) : Int).toNat (List.take i.toNat es)).getD (↑x : Int).toNat ((0 : Int), (0 : Int))).fst =
 (es.getD i.toNat ((0 : Int), (0 : Int))).fst ∧
 ¬((List.drop (↑(0 : Nat) : Int).toNat (List.take i.toNat es)).getD (↑x : Int).toNat ((0 : Int), (0 : Int))).fst =
 (es.getD i.toNat ((0 : Int), (0 : Int))).fst ∧
 ((0 : Int) ≤ i ∧ i < (↑es.length : Int)) ∧
 (((List.drop (↑(0 : Nat) : Int).toNat (List.take i.toNat es)).getD (↑x : Int).toNat ((0 : Int), (0 : Int))).snd =
 (es.getD i.toNat ((0 : Int), (0 : Int))).snd →
 ((List.drop (↑(0 : Nat) : Int).toNat (List.take i.toNat es)).getD (↑x : Int).toNat ((0 : Int), (0 : Int))).snd =
 (es.getD i.toNat ((0 : Int), (0 : Int))).snd ∧
 ((List.drop (↑(0 : Nat) : Int).toNat (List.take i.toNat es)).getD (↑x : Int).toNat ((0 : Int), (0 : Int))).snd =
 (es.getD i.toNat ((0 : Int), (0 : Int))).snd ∧
 ((List.drop (↑(0 : Nat) : Int).toNat (List.take i.toNat es)).getD (↑x : Int).toNat ((0 : Int), (0 : Int))).snd =
 (es.getD i.toNat ((0 : Int), (0 : Int))).snd ∧
 true = clashF es c i.toNat) ∧
 (¬((List.drop (↑(0 : Nat) : Int).toNat (List.take i.toNat es)).getD (↑x : Int).toNat ((0 : Int), (0 : Int))).snd =
 (es.getD i.toNat ((0 : Int), (0 : Int))).snd →
 ¬((List.drop (↑(0 : Nat) : Int).toNat (List.take i.toNat es)).getD (↑x : Int).toNat ((0 : Int), (0 : Int))).snd =
 (es.getD i.toNat ((0 : Int), (0 : Int))).snd ∧
 ¬((List.drop (↑(0 : Nat) : Int).toNat (List.take i.toNat es)).getD (↑x : Int).toNat ((0 : Int), (0 : Int))).snd =
 (es.getD i.toNat ((0 : Int), (0 : Int))).snd ∧
 ¬((List.drop (↑(0 : Nat) : Int).toNat (List.take i.toNat es)).getD (↑x : Int).toNat ((0 : Int), (0 : Int))).snd =
 (es.getD i.toNat ((0 : Int), (0 : Int))).snd ∧
 Fits IntKind.i64 ((↑x : Int) + (1 : Int)) ∧
 ∃ (x' : Nat),
 (x' ≤ i.toNat ∧ ∀ (j : Nat), j < x' → touch es c i.toNat j = false) ∧
 i.toNat - x' < i.toNat - x ∧
 True ∧
 (↑x : Int) + (1 : Int) = (↑x' : Int) ∧
 (↑(List.drop (↑(0 : Nat) : Int).toNat (List.take i.toNat es)).length : Int) =
 (↑(List.drop (↑(0 : Nat) : Int).toNat (List.take i.toNat es)).length : Int) ∧
 List.drop (↑(0 : Nat) : Int).toNat (List.take i.toNat es) =
 List.drop (↑(0 : Nat) : Int).toNat (List.take i.toNat es) ∧
 es = es ∧ c = c ∧ i = i ∧ True))) ∧
 (¬c.getD (↑x : Int).toNat (0 : Int) = c.getD i.toNat (0 : Int) →
 ¬c.getD (↑x : Int).toNat (0 : Int) = c.getD i.toNat (0 : Int) ∧
 ¬c.getD (↑x : Int).toNat (0 : Int) = c.getD i.toNat (0 : Int) ∧
 Fits IntKind.i64 ((↑x : Int) + (1 : Int)) ∧
 ∃ (x' : Nat),
 (x' ≤ i.toNat ∧ ∀ (j : Nat), j < x' → touch es c i.toNat j = false) ∧
 i.toNat - x' < i.toNat - x ∧
 True ∧
 (↑x : Int) + (1 : Int) = (↑x' : Int) ∧
 (↑(List.drop (↑(0 : Nat) : Int).toNat (List.take i.toNat es)).length : Int) =
 (↑(List.drop (↑(0 : Nat) : Int).toNat (List.take i.toNat es)).length : Int) ∧
 List.drop (↑(0 : Nat) : Int).toNat (List.take i.toNat es) = List.drop (↑(0 : Nat) : Int).toNat (List.take i.toNat es) ∧
 es = es ∧ c = c ∧ i = i ∧ True)) ∧
 (¬(↑x : Int) < (↑(List.drop (↑(0 : Nat) : Int).toNat (List.take i.toNat es)).length : Int) →
 ¬(↑x : Int) < (↑(List.drop (↑(0 : Nat) : Int).toNat (List.take i.toNat es)).length : Int) ∧ false = clashF es c i.toNat)) := by
 kernel_rfl

end Go.SX.Pa
