/- Printed by VC.lean: what the executor asks. -/
import Derived.Test.YtfbgbdiajghnbaaDoorPa3
namespace Go.SX.Pa
open Go Go.Proofs
theorem g45_eq (k : Int) (s : ByteArray) : g45 k s = (
 True ∧
 ((!decide ((1 : Int) ≤ k ∧ k ≤ (3 : Int))) = true →
 (!decide ((1 : Int) ≤ k ∧ k ≤ (3 : Int))) = true ∧ (!decide ((1 : Int) ≤ k ∧ k ≤ (3 : Int))) = true ∧ ([], (1 : Int)) = applyP k s) ∧
 ((!decide ((1 : Int) ≤ k ∧ k ≤ (3 : Int))) = false →
 (!decide ((1 : Int) ≤ k ∧ k ≤ (3 : Int))) = false ∧
 (!decide ((1 : Int) ≤ k ∧ k ≤ (3 : Int))) = false ∧
 ((1 : Int) ≤ k ∧ k ≤ (3 : Int)) ∧
 (¬(↑s.size : Int) = switchesF k → ¬(↑s.size : Int) = switchesF k ∧ ¬(↑s.size : Int) = switchesF k ∧ ([], (2 : Int)) = applyP k s) ∧
 (¬¬(↑s.size : Int) = switchesF k →
 ¬¬(↑s.size : Int) = switchesF k ∧
 ¬¬(↑s.size : Int) = switchesF k ∧
 (ByteArray.mk #[(48 : UInt8), (49 : UInt8)] = bits01 ∧ s.size ≤ (1000 : Nat)) ∧
 (¬ByteArray.mk (Lib.trimS s.data.toList [(48 : UInt8), (49 : UInt8)]).toArray = ByteArray.mk #[] →
 ¬ByteArray.mk (Lib.trimS s.data.toList [(48 : UInt8), (49 : UInt8)]).toArray = ByteArray.mk #[] ∧
 ¬ByteArray.mk (Lib.trimS s.data.toList [(48 : UInt8), (49 : UInt8)]).toArray = ByteArray.mk #[] ∧
 ¬ByteArray.mk (Lib.trimS s.data.toList [(48 : UInt8), (49 : UInt8)]).toArray = ByteArray.mk #[] ∧ ([], (2 : Int)) = applyP k s) ∧
 (¬¬ByteArray.mk (Lib.trimS s.data.toList [(48 : UInt8), (49 : UInt8)]).toArray = ByteArray.mk #[] →
 ¬¬ByteArray.mk (Lib.trimS s.data.toList [(48 : UInt8), (49 : UInt8)]).toArray = ByteArray.mk #[] ∧
 ¬¬ByteArray.mk (Lib.trimS s.data.toList [(48 : UInt8), (49 : UInt8)]).toArray = ByteArray.mk #[] ∧
 ¬¬ByteArray.mk (Lib.trimS s.data.toList [(48 : UInt8), (49 : UInt8)]).toArray = ByteArray.mk #[] ∧
 (((1 : Int) ≤ k ∧ k ≤ (3 : Int)) ∧ s.size = swN k.toNat ∧ ∀ (i : Nat), i < s.size → bt s i = (48 : Int) ∨ bt s i = (49 : Int)) ∧
 (applyF k.toNat s, (0 : Int)) = applyP k s)))) := by
 kernel_rfl

theorem g60_eq (a : List Int) (b : List Int) : g60 a b = (
 (∃ (x0 : Nat), (x0 ≤ a.length ∧ x0 ≤ b.length ∧ beforeF (List.drop x0 a) (List.drop x0 b) = beforeF a b) ∧ True ∧ (0 : Int) = (↑x0 : Int) ∧ a = a ∧ b = b ∧ True) ∧
 ∀ (x : Nat),
 x ≤ a.length ∧ x ≤ b.length ∧ beforeF (List.drop x a) (List.drop x b) = beforeF a b →
 ((↑x : Int) < (↑a.length : Int) →
 (↑x : Int) < (↑a.length : Int) ∧
 (↑x : Int) < (↑a.length : Int) ∧
 ((↑x : Int) < (↑b.length : Int) →
 (↑x : Int) < (↑b.length : Int) ∧
 (↑x : Int) < (↑b.length : Int) ∧
 ((0 : Int) ≤ (↑x : Int) ∧ (↑x : Int) < (↑a.length : Int)) ∧
 ((0 : Int) ≤ (↑x : Int) ∧ (↑x : Int) < (↑b.length : Int)) ∧
 (¬a.getD (↑x : Int).toNat (0 : Int) = b.getD (↑x : Int).toNat (0 : Int) →
 ¬a.getD (↑x : Int).toNat (0 : Int) = b.getD (↑x : Int).toNat (0 : Int) ∧
 ((0 : Int) ≤ (↑x : Int) ∧ (↑x : Int) < (↑a.length : Int)) ∧
 ((0 : Int) ≤ (↑x : Int) ∧ (↑x : Int) < (↑b.length : Int)) ∧
 decide (a.getD (↑x : Int).toNat (0 : Int) < b.getD (↑x : Int).toNat (0 : Int)) = beforeF a b) ∧
 (¬¬a.getD (↑x : Int).toNat (0 : Int) = b.getD (↑x : Int).toNat (0 : Int) →
 ¬¬a.getD (↑x : Int).toNat (0 : Int) = b.getD (↑x : Int).toNat (0 : Int) ∧
 Fits IntKind.i64 ((↑x : Int) + (1 : Int)) ∧
 ∃ (x' : Nat),
 (x' ≤ a.length ∧ x' ≤ b.length ∧ beforeF (List.drop x' a) (List.drop x' b) = beforeF a b) ∧
 a.length - x' < a.length - x ∧ True ∧ (↑x : Int) + (1 : Int) = (↑x' : Int) ∧ a = a ∧ b = b ∧ True)) ∧
 (¬(↑x : Int) < (↑b.length : Int) →
 ¬(↑x : Int) < (↑b.length : Int) ∧ ¬(↑x : Int) < (↑b.length : Int) ∧ decide ((↑a.length : Int) < (↑b.length : Int)) = beforeF a b)) ∧
 (¬(↑x : Int) < (↑a.length : Int) → ¬(↑x : Int) < (↑a.length : Int) ∧ ¬(↑x : Int) < (↑a.length : Int) ∧ decide ((↑a.length : Int) < (↑b.length : Int)) = beforeF a b)) := by
 kernel_rfl

theorem g28_eq (a : List Int) (b : List Int) : g28 a b = (
 (a.length ≤ (1000 : Nat) ∧ b.length ≤ (1000 : Nat)) ∧
 ((!beforeF a b) = true → (!beforeF a b) = true ∧ (!beforeF a b) = true ∧ (b.length ≤ (1000 : Nat) ∧ a.length ≤ (1000 : Nat)) ∧ (!beforeF b a) = decide (a = b)) ∧
 ((!beforeF a b) = false → (!beforeF a b) = false ∧ (!beforeF a b) = false ∧ false = decide (a = b))) := by
 kernel_rfl

theorem g38_eq (n : Int) (r : Int) (m : Int) (l : List Int) : g38 n r m l = (
 l.length ≤ (1000 : Nat) ∧
 (¬(readF n r m l).snd = (0 : Int) → ¬(readF n r m l).snd = (0 : Int) ∧ ([], (readF n r m l).snd) = routeF n r m l) ∧
 (¬¬(readF n r m l).snd = (0 : Int) →
 ¬¬(readF n r m l).snd = (0 : Int) ∧
 (l.length ≤ (1000 : Nat) ∧ (1 : Int) ≤ (readF n r m l).fst.fst ∧ (readF n r m l).fst.fst ≤ (12 : Int) ∧ ∀ (x : Int), x ∈ l → (0 : Int) ≤ x ∧ x ≤ (1000 : Int)) ∧
 ((edgesF (readF n r m l).fst.fst l).length ≤ (1000 : Nat) ∧ (0 : Int) ≤ m ∧ m ≤ (1000 : Int)) ∧
 (colF (edgesF (readF n r m l).fst.fst l) m = none → ([], (5 : Int)) = routeF n r m l) ∧
 ∀ (ys : List Int), colF (edgesF (readF n r m l).fst.fst l) m = some ys → ys ≠ [] ∧ (ys, (0 : Int)) = routeF n r m l)) := by
 kernel_rfl

theorem g26_eq (a : Int) (c : Int) (es : List Ed) : g26 a c es = (
 ((12 : Int) < (↑es.length : Int) → (12 : Int) < (↑es.length : Int) ∧ (12 : Int) < (↑es.length : Int) ∧ ([], (3 : Int)) = colorsF a c es) ∧
 (¬(12 : Int) < (↑es.length : Int) →
 ¬(12 : Int) < (↑es.length : Int) ∧
 ¬(12 : Int) < (↑es.length : Int) ∧
 (min a c < (1 : Int) → min a c < (1 : Int) ∧ min a c < (1 : Int) ∧ ([], (1 : Int)) = colorsF a c es) ∧
 (¬min a c < (1 : Int) →
 ¬min a c < (1 : Int) ∧
 ¬min a c < (1 : Int) ∧
 ((6 : Int) < max a c → (6 : Int) < max a c ∧ (6 : Int) < max a c ∧ (6 : Int) < max a c ∧ ([], (1 : Int)) = colorsF a c es) ∧
 (¬(6 : Int) < max a c →
 ¬(6 : Int) < max a c ∧
 ¬(6 : Int) < max a c ∧
 ¬(6 : Int) < max a c ∧
 (∃ (x0 : Nat),
 (x0 ≤ es.length ∧ (List.take x0 es).any (badEd a c) = false) ∧
 ((a = a ∧ True) ∧ (c = c ∧ True) ∧ True) ∧ (0 : Int) = (↑x0 : Int) ∧ (↑es.length : Int) = (↑es.length : Int) ∧ es = es ∧ es = es ∧ True ∧ True) ∧
 ∀ (x : Nat),
 x ≤ es.length ∧ (List.take x es).any (badEd a c) = false →
 ((↑x : Int) < (↑es.length : Int) →
 (↑x : Int) < (↑es.length : Int) ∧
 ((0 : Int) ≤ (↑x : Int) ∧ (↑x : Int) < (↑es.length : Int)) ∧
 (min (es.getD (↑x : Int).toNat ((0 : Int), (0 : Int))).fst (es.getD (↑x : Int).toNat ((0 : Int), (0 : Int))).snd < (0 : Int) →
 min (es.getD (↑x : Int).toNat ((0 : Int), (0 : Int))).fst (es.getD (↑x : Int).toNat ((0 : Int), (0 : Int))).snd < (0 : Int) ∧
 min (es.getD (↑x : Int).toNat ((0 : Int), (0 : Int))).fst (es.getD (↑x : Int).toNat ((0 : Int), (0 : Int))).snd < (0 : Int) ∧
 ((0 : Int) ≤ (↑x : Int) →
 (0 : Int) ≤ (↑x : Int) ∧ (0 : Int) ≤ (↑x : Int) ∧ (0 : Int) ≤ (↑x : Int) ∧ ([], (1 : Int)) = colorsF a c es) ∧
 (¬(0 : Int) ≤ (↑x : Int) →
 ¬(0 : Int) ≤ (↑x : Int) ∧
 ¬(0 : Int) ≤ (↑x : Int) ∧
 ¬(0 : Int) ≤ (↑x : Int) ∧
 es.length ≤ (1000 : Nat) ∧
 (es.length ≤ (1000 : Nat) ∧ (0 : Int) ≤ degF es ∧ degF es ≤ (1000 : Int)) ∧
 (colF es (degF es) = none → ([], (0 : Int)) = colorsF a c es) ∧
 ∀ (ys : List Int), colF es (degF es) = some ys → (ys, (0 : Int)) = colorsF a c es)) ∧
 (¬min (es.getD (↑x : Int).toNat ((0 : Int), (0 : Int))).fst (es.getD (↑x : Int).toNat ((0 : Int), (0 : Int))).snd < (0 : Int) →
 ¬min (es.getD (↑x : Int).toNat ((0 : Int), (0 : Int))).fst (es.getD (↑x : Int).toNat ((0 : Int), (0 : Int))).snd < (0 : Int) ∧
 ¬min (es.getD (↑x : Int).toNat ((0 : Int), (0 : Int))).fst (es.getD (↑x : Int).toNat ((0 : Int), (0 : Int))).snd < (0 : Int) ∧
 (a ≤ (es.getD (↑x : Int).toNat ((0 : Int), (0 : Int))).fst →
 a ≤ (es.getD (↑x : Int).toNat ((0 : Int), (0 : Int))).fst ∧
 a ≤ (es.getD (↑x : Int).toNat ((0 : Int), (0 : Int))).fst ∧
 a ≤ (es.getD (↑x : Int).toNat ((0 : Int), (0 : Int))).fst ∧
 ((0 : Int) ≤ (↑x : Int) →
 (0 : Int) ≤ (↑x : Int) ∧ (0 : Int) ≤ (↑x : Int) ∧ (0 : Int) ≤ (↑x : Int) ∧ ([], (1 : Int)) = colorsF a c es) ∧
 (¬(0 : Int) ≤ (↑x : Int) →
 ¬(0 : Int) ≤ (↑x : Int) ∧
 ¬(0 : Int) ≤ (↑x : Int) ∧
 ¬(0 : Int) ≤ (↑x : Int) ∧
 es.length ≤ (1000 : Nat) ∧
 (es.length ≤ (1000 : Nat) ∧ (0 : Int) ≤ degF es ∧ degF es ≤ (1000 : Int)) ∧
 (colF es (degF es) = none → ([], (0 : Int)) = colorsF a c es) ∧
 ∀ (ys : List Int), colF es (degF es) = some ys → (ys, (0 : Int)) = colorsF a c es)) ∧
 (¬a ≤ (es.getD (↑x : Int).toNat ((0 : Int), (0 : Int))).fst →
 ¬a ≤ (es.getD (↑x : Int).toNat ((0 : Int), (0 : Int))).fst ∧
 ¬a ≤ (es.getD (↑x : Int).toNat ((0 : Int), (0 : Int))).fst ∧
 ¬a ≤ (es.getD (↑x : Int).toNat ((0 : Int), (0 : Int))).fst ∧
 (c ≤ (es.getD (↑x : Int).toNat ((0 : Int), (0 : Int))).snd →
 c ≤ (es.getD (↑x : Int).toNat ((0 : Int), (0 : Int))).snd ∧
 ((0 : Int) ≤ (↑x : Int) →
 (0 : Int) ≤ (↑x : Int) ∧ (0 : Int) ≤ (↑x : Int) ∧ (0 : Int) ≤ (↑x : Int) ∧ ([], (1 : Int)) = colorsF a c es) ∧
 (¬(0 : Int) ≤ (↑x : Int) →
 ¬(0 : Int) ≤ (↑x : Int) ∧
 ¬(0 : Int) ≤ (↑x : Int) ∧
 ¬(0 : Int) ≤ (↑x : Int) ∧
 es.length ≤ (1000 : Nat) ∧
 (es.length ≤ (1000 : Nat) ∧ (0 : Int) ≤ degF es ∧ degF es ≤ (1000 : Int)) ∧
 (colF es (degF es) = none → ([], (0 : Int)) = colorsF a c es) ∧
 ∀ (ys : List Int), colF es (degF es) = some ys → (ys, (0 : Int)) = colorsF a c es)) ∧
 (¬c ≤ (es.getD (↑x : Int).toNat ((0 : Int), (0 : Int))).snd →
 ¬c ≤ (es.getD (↑x : Int).toNat ((0 : Int), (0 : Int))).snd ∧
 Fits IntKind.i64 ((↑x : Int) + (1 : Int)) ∧
 ∃ (x' : Nat),
 (x' ≤ es.length ∧ (List.take x' es).any (badEd a c) = false) ∧
 es.length - x' < es.length - x ∧
 ((a = a ∧ True) ∧ (c = c ∧ True) ∧ True) ∧
 (↑x : Int) + (1 : Int) = (↑x' : Int) ∧
 (↑es.length : Int) = (↑es.length : Int) ∧ es = es ∧ es = es ∧ True ∧ True)))) ∧
 (¬(↑x : Int) < (↑es.length : Int) →
 ¬(↑x : Int) < (↑es.length : Int) ∧
 ((0 : Int) ≤ (-1 : Int) → (0 : Int) ≤ (-1 : Int) ∧ (0 : Int) ≤ (-1 : Int) ∧ (0 : Int) ≤ (-1 : Int) ∧ ([], (1 : Int)) = colorsF a c es) ∧
 (¬(0 : Int) ≤ (-1 : Int) →
 ¬(0 : Int) ≤ (-1 : Int) ∧
 ¬(0 : Int) ≤ (-1 : Int) ∧
 ¬(0 : Int) ≤ (-1 : Int) ∧
 es.length ≤ (1000 : Nat) ∧
 (es.length ≤ (1000 : Nat) ∧ (0 : Int) ≤ degF es ∧ degF es ≤ (1000 : Int)) ∧
 (colF es (degF es) = none → ([], (0 : Int)) = colorsF a c es) ∧
 ∀ (ys : List Int), colF es (degF es) = some ys → (ys, (0 : Int)) = colorsF a c es)))))) := by
 kernel_rfl

end Go.SX.Pa
