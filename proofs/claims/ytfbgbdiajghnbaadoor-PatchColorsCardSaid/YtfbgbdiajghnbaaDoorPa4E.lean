/- Printed by VC.lean: what the executor asks. -/
import Derived.Test.YtfbgbdiajghnbaaDoorPa4
namespace Go.SX.Pa
open Go Go.Proofs
theorem g53_eq (k : Int) (s : ByteArray) : g53 k s = (
 (k = (1 : Int) →
 k = (1 : Int) ∧
 ((0 : Int) ≤ (0 : Int) ∧ (0 : Int) < (↑s.size : Int)) ∧
 Fits IntKind.i64 (IntKind.u8.wrap (bt s (Int.toNat (0 : Int)) - (48 : Int))) ∧
 Fits IntKind.i64 ((1 : Int) - IntKind.u8.wrap (bt s (Int.toNat (0 : Int)) - (48 : Int))) ∧
 [IntKind.u8.wrap (bt s (Int.toNat (0 : Int)) - (48 : Int)), (1 : Int) - IntKind.u8.wrap (bt s (Int.toNat (0 : Int)) - (48 : Int))] = applyF k.toNat s) ∧
 (¬k = (1 : Int) →
 ¬k = (1 : Int) ∧
 Fits IntKind.i64 (k - (1 : Int)) ∧
 ((0 : Int) ≤ k - (1 : Int) ∧ k - (1 : Int) < (64 : Int)) ∧
 Fits IntKind.i64 ((1 : Int) * (2 : Int) ^ (k - (1 : Int)).toNat) ∧
 Fits IntKind.i64 (k - (1 : Int)) ∧
 ((1 : Int) ≤ k - (1 : Int) ∧ k - (1 : Int) ≤ (3 : Int)) ∧
 ((0 : Int) ≤ (↑(0 : Nat) : Int) ∧
 (↑(0 : Nat) : Int) ≤ (1 : Int) * (2 : Int) ^ (k - (1 : Int)).toNat ∧ (1 : Int) * (2 : Int) ^ (k - (1 : Int)).toNat ≤ (↑s.size : Int)) ∧
 true = true ∧
 Fits IntKind.i64 ((2 : Int) * switchesF (k - (1 : Int))) ∧
 Fits IntKind.i64 ((1 : Int) * (2 : Int) ^ (k - (1 : Int)).toNat + (2 : Int) * switchesF (k - (1 : Int))) ∧
 ((0 : Int) ≤ (1 : Int) * (2 : Int) ^ (k - (1 : Int)).toNat + (2 : Int) * switchesF (k - (1 : Int)) ∧
 (1 : Int) * (2 : Int) ^ (k - (1 : Int)).toNat + (2 : Int) * switchesF (k - (1 : Int)) ≤ (↑s.size : Int) ∧ (↑s.size : Int) ≤ (↑s.size : Int)) ∧
 true = true ∧
 Fits IntKind.i64 (k - (1 : Int)) ∧
 Fits IntKind.i64 ((1 : Int) * (2 : Int) ^ (k - (1 : Int)).toNat + switchesF (k - (1 : Int))) ∧
 ((0 : Int) ≤ (1 : Int) * (2 : Int) ^ (k - (1 : Int)).toNat ∧
 (1 : Int) * (2 : Int) ^ (k - (1 : Int)).toNat ≤ (1 : Int) * (2 : Int) ^ (k - (1 : Int)).toNat + switchesF (k - (1 : Int)) ∧
 (1 : Int) * (2 : Int) ^ (k - (1 : Int)).toNat + switchesF (k - (1 : Int)) ≤ (↑s.size : Int)) ∧
 true = true ∧
 Fits IntKind.i64 (k - (1 : Int)) ∧
 Fits IntKind.i64 ((1 : Int) * (2 : Int) ^ (k - (1 : Int)).toNat + switchesF (k - (1 : Int))) ∧
 Fits IntKind.i64 ((2 : Int) * switchesF (k - (1 : Int))) ∧
 Fits IntKind.i64 ((1 : Int) * (2 : Int) ^ (k - (1 : Int)).toNat + (2 : Int) * switchesF (k - (1 : Int))) ∧
 ((0 : Int) ≤ (1 : Int) * (2 : Int) ^ (k - (1 : Int)).toNat + switchesF (k - (1 : Int)) ∧
 (1 : Int) * (2 : Int) ^ (k - (1 : Int)).toNat + switchesF (k - (1 : Int)) ≤
 (1 : Int) * (2 : Int) ^ (k - (1 : Int)).toNat + (2 : Int) * switchesF (k - (1 : Int)) ∧
 (1 : Int) * (2 : Int) ^ (k - (1 : Int)).toNat + (2 : Int) * switchesF (k - (1 : Int)) ≤ (↑s.size : Int)) ∧
 true = true ∧
 (((((1 : Int) ≤ k - (1 : Int) ∧ k - (1 : Int) ≤ (3 : Int)) ∧
 (s.extract ((1 : Int) * (2 : Int) ^ (k - (1 : Int)).toNat).toNat
 ((1 : Int) * (2 : Int) ^ (k - (1 : Int)).toNat + switchesF (k - (1 : Int))).toNat).size =
 swN (k - (1 : Int)).toNat ∧
 ∀ (i : Nat),
 i <
 (s.extract ((1 : Int) * (2 : Int) ^ (k - (1 : Int)).toNat).toNat
 ((1 : Int) * (2 : Int) ^ (k - (1 : Int)).toNat + switchesF (k - (1 : Int))).toNat).size →
 bt
 (s.extract ((1 : Int) * (2 : Int) ^ (k - (1 : Int)).toNat).toNat
 ((1 : Int) * (2 : Int) ^ (k - (1 : Int)).toNat + switchesF (k - (1 : Int))).toNat)
 i =
 (48 : Int) ∨
 bt
 (s.extract ((1 : Int) * (2 : Int) ^ (k - (1 : Int)).toNat).toNat
 ((1 : Int) * (2 : Int) ^ (k - (1 : Int)).toNat + switchesF (k - (1 : Int))).toNat)
 i =
 (49 : Int)) ∧
 m53
 (k - (1 : Int),
 s.extract ((1 : Int) * (2 : Int) ^ (k - (1 : Int)).toNat).toNat
 ((1 : Int) * (2 : Int) ^ (k - (1 : Int)).toNat + switchesF (k - (1 : Int))).toNat) <
 m53 (k, s)) ∧
 (((((1 : Int) ≤ k - (1 : Int) ∧ k - (1 : Int) ≤ (3 : Int)) ∧
 (s.extract ((1 : Int) * (2 : Int) ^ (k - (1 : Int)).toNat + switchesF (k - (1 : Int))).toNat
 ((1 : Int) * (2 : Int) ^ (k - (1 : Int)).toNat + (2 : Int) * switchesF (k - (1 : Int))).toNat).size =
 swN (k - (1 : Int)).toNat ∧
 ∀ (i : Nat),
 i <
 (s.extract ((1 : Int) * (2 : Int) ^ (k - (1 : Int)).toNat + switchesF (k - (1 : Int))).toNat
 ((1 : Int) * (2 : Int) ^ (k - (1 : Int)).toNat + (2 : Int) * switchesF (k - (1 : Int))).toNat).size →
 bt
 (s.extract ((1 : Int) * (2 : Int) ^ (k - (1 : Int)).toNat + switchesF (k - (1 : Int))).toNat
 ((1 : Int) * (2 : Int) ^ (k - (1 : Int)).toNat + (2 : Int) * switchesF (k - (1 : Int))).toNat)
 i =
 (48 : Int) ∨
 bt
 (s.extract ((1 : Int) * (2 : Int) ^ (k - (1 : Int)).toNat + switchesF (k - (1 : Int))).toNat
 ((1 : Int) * (2 : Int) ^ (k - (1 : Int)).toNat + (2 : Int) * switchesF (k - (1 : Int))).toNat)
 i =
 (49 : Int)) ∧
 m53
 (k - (1 : Int),
 s.extract ((1 : Int) * (2 : Int) ^ (k - (1 : Int)).toNat + switchesF (k - (1 : Int))).toNat
 ((1 : Int) * (2 : Int) ^ (k - (1 : Int)).toNat + (2 : Int) * switchesF (k - (1 : Int))).toNat) <
 m53 (k, s)) ∧
 Fits IntKind.i64 ((2 : Int) * ((1 : Int) * (2 : Int) ^ (k - (1 : Int)).toNat)) ∧
 ((0 : Int) ≤ (2 : Int) * ((1 : Int) * (2 : Int) ^ (k - (1 : Int)).toNat) ∧
 (2 : Int) * ((1 : Int) * (2 : Int) ^ (k - (1 : Int)).toNat) ≤
 (2 : Int) * ((1 : Int) * (2 : Int) ^ (k - (1 : Int)).toNat) ∧
 Small ((2 : Int) * ((1 : Int) * (2 : Int) ^ (k - (1 : Int)).toNat)).toNat) ∧
 (∃ (x0 : Nat),
 x0 ≤ (2 : Nat) * hN k.toNat ∧
 ((applyF (k - (1 : Int)).toNat
 (s.extract ((1 : Int) * (2 : Int) ^ (k - (1 : Int)).toNat).toNat
 ((1 : Int) * (2 : Int) ^ (k - (1 : Int)).toNat + switchesF (k - (1 : Int))).toNat) =
 applyF (k - (1 : Int)).toNat
 (s.extract ((1 : Int) * (2 : Int) ^ (k - (1 : Int)).toNat).toNat
 ((1 : Int) * (2 : Int) ^ (k - (1 : Int)).toNat + switchesF (k - (1 : Int))).toNat) ∧
 applyF (k - (1 : Int)).toNat
 (s.extract ((1 : Int) * (2 : Int) ^ (k - (1 : Int)).toNat + switchesF (k - (1 : Int))).toNat
 ((1 : Int) * (2 : Int) ^ (k - (1 : Int)).toNat + (2 : Int) * switchesF (k - (1 : Int))).toNat) =
 applyF (k - (1 : Int)).toNat
 (s.extract ((1 : Int) * (2 : Int) ^ (k - (1 : Int)).toNat + switchesF (k - (1 : Int))).toNat
 ((1 : Int) * (2 : Int) ^ (k - (1 : Int)).toNat + (2 : Int) * switchesF (k - (1 : Int))).toNat) ∧
 True) ∧
 List.replicate ((2 : Int) * ((1 : Int) * (2 : Int) ^ (k - (1 : Int)).toNat)).toNat (0 : Int) =
 applyTo k.toNat s x0 ∧
 True) ∧
 (0 : Int) = (↑x0 : Int) ∧
 (↑(List.replicate ((2 : Int) * ((1 : Int) * (2 : Int) ^ (k - (1 : Int)).toNat)).toNat (0 : Int)).length :
 Int) =
 (↑(List.replicate ((2 : Int) * ((1 : Int) * (2 : Int) ^ (k - (1 : Int)).toNat)).toNat (0 : Int)).length :
 Int) ∧
 True ∧
 True ∧
 s.extract ((1 : Int) * (2 : Int) ^ (k - (1 : Int)).toNat + (2 : Int) * switchesF (k - (1 : Int))).toNat
 (↑s.size : Int).toNat =
 s.extract
 ((1 : Int) * (2 : Int) ^ (k - (1 : Int)).toNat + (2 : Int) * switchesF (k - (1 : Int))).toNat
 (↑s.size : Int).toNat ∧
 s.extract (↑(0 : Nat) : Int).toNat ((1 : Int) * (2 : Int) ^ (k - (1 : Int)).toNat).toNat =
 s.extract (↑(0 : Nat) : Int).toNat ((1 : Int) * (2 : Int) ^ (k - (1 : Int)).toNat).toNat ∧
 True) ∧
 ∀ (x : Nat),
 x ≤ (2 : Nat) * hN k.toNat →
 ((↑x : Int) <
 (↑(List.replicate ((2 : Int) * ((1 : Int) * (2 : Int) ^ (k - (1 : Int)).toNat)).toNat (0 : Int)).length :
 Int) →
 (↑x : Int) <
 (↑(List.replicate ((2 : Int) * ((1 : Int) * (2 : Int) ^ (k - (1 : Int)).toNat)).toNat (0 : Int)).length :
 Int) ∧
 ((0 : Int) ≤ (↑x : Int) ∧ (0 : Int) < (2 : Int)) ∧
 ((0 : Int) ≤ (↑x : Int) ∧ (0 : Int) < (2 : Int)) ∧
 Fits IntKind.i64 ((↑x : Int) / (2 : Int)) ∧
 ((0 : Int) ≤ (↑x : Int) / (2 : Int) ∧
 (↑x : Int) / (2 : Int) <
 (↑(s.extract (↑(0 : Nat) : Int).toNat
 ((1 : Int) * (2 : Int) ^ (k - (1 : Int)).toNat).toNat).size :
 Int)) ∧
 Fits IntKind.i64
 (IntKind.u8.wrap
 (bt (s.extract (↑(0 : Nat) : Int).toNat ((1 : Int) * (2 : Int) ^ (k - (1 : Int)).toNat).toNat)
 ((↑x : Int) / (2 : Int)).toNat -
 (48 : Int))) ∧
 ((0 : Int) ≤
 bitsF BinOp.xor IntKind.i64 ((↑x : Int) % (2 : Int))
 (IntKind.u8.wrap
 (bt
 (s.extract (↑(0 : Nat) : Int).toNat
 ((1 : Int) * (2 : Int) ^ (k - (1 : Int)).toNat).toNat)
 ((↑x : Int) / (2 : Int)).toNat -
 (48 : Int))) ∧
 bitsF BinOp.xor IntKind.i64 ((↑x : Int) % (2 : Int))
 (IntKind.u8.wrap
 (bt
 (s.extract (↑(0 : Nat) : Int).toNat
 ((1 : Int) * (2 : Int) ^ (k - (1 : Int)).toNat).toNat)
 ((↑x : Int) / (2 : Int)).toNat -
 (48 : Int))) <
 (↑(2 : Nat) : Int)) ∧
 (True ∧
 (bitsF BinOp.xor IntKind.i64 ((↑x : Int) % (2 : Int))
 (IntKind.u8.wrap
 (bt
 (s.extract (↑(0 : Nat) : Int).toNat
 ((1 : Int) * (2 : Int) ^ (k - (1 : Int)).toNat).toNat)
 ((↑x : Int) / (2 : Int)).toNat -
 (48 : Int))) =
 (↑(0 : Nat) : Int) →
 ((0 : Int) ≤ (↑x : Int) ∧ (0 : Int) < (2 : Int)) ∧
 Fits IntKind.i64 ((↑x : Int) / (2 : Int)) ∧
 ((0 : Int) ≤ (↑x : Int) / (2 : Int) ∧
 (↑x : Int) / (2 : Int) <
 (↑(applyF (k - (1 : Int)).toNat
 (s.extract ((1 : Int) * (2 : Int) ^ (k - (1 : Int)).toNat).toNat
 ((1 : Int) * (2 : Int) ^ (k - (1 : Int)).toNat +
 switchesF (k - (1 : Int))).toNat)).length :
 Int)) ∧
 Fits IntKind.i64
 ((2 : Int) *
 (applyF (k - (1 : Int)).toNat
 (s.extract ((1 : Int) * (2 : Int) ^ (k - (1 : Int)).toNat).toNat
 ((1 : Int) * (2 : Int) ^ (k - (1 : Int)).toNat +
 switchesF (k - (1 : Int))).toNat)).getD
 ((↑x : Int) / (2 : Int)).toNat (0 : Int)) ∧
 Fits IntKind.i64
 ((2 : Int) *
 (applyF (k - (1 : Int)).toNat
 (s.extract ((1 : Int) * (2 : Int) ^ (k - (1 : Int)).toNat).toNat
 ((1 : Int) * (2 : Int) ^ (k - (1 : Int)).toNat +
 switchesF (k - (1 : Int))).toNat)).getD
 ((↑x : Int) / (2 : Int)).toNat (0 : Int) +
 bitsF BinOp.xor IntKind.i64 ((↑x : Int) % (2 : Int))
 (IntKind.u8.wrap
 (bt
 (s.extract (↑(0 : Nat) : Int).toNat
 ((1 : Int) * (2 : Int) ^ (k - (1 : Int)).toNat).toNat)
 ((↑x : Int) / (2 : Int)).toNat -
 (48 : Int)))) ∧
 ((0 : Int) ≤
 (applyF (k - (1 : Int)).toNat
 (s.extract ((1 : Int) * (2 : Int) ^ (k - (1 : Int)).toNat).toNat
 ((1 : Int) * (2 : Int) ^ (k - (1 : Int)).toNat +
 switchesF (k - (1 : Int))).toNat)).getD
 ((↑x : Int) / (2 : Int)).toNat (0 : Int) ∧
 (applyF (k - (1 : Int)).toNat
 (s.extract ((1 : Int) * (2 : Int) ^ (k - (1 : Int)).toNat).toNat
 ((1 : Int) * (2 : Int) ^ (k - (1 : Int)).toNat +
 switchesF (k - (1 : Int))).toNat)).getD
 ((↑x : Int) / (2 : Int)).toNat (0 : Int) <
 (↑(s.extract
 ((1 : Int) * (2 : Int) ^ (k - (1 : Int)).toNat +
 (2 : Int) * switchesF (k - (1 : Int))).toNat
 (↑s.size : Int).toNat).size :
 Int)) ∧
 Fits IntKind.i64
 (IntKind.u8.wrap
 (bt
 (s.extract
 ((1 : Int) * (2 : Int) ^ (k - (1 : Int)).toNat +
 (2 : Int) * switchesF (k - (1 : Int))).toNat
 (↑s.size : Int).toNat)
 ((applyF (k - (1 : Int)).toNat
 (s.extract
 ((1 : Int) * (2 : Int) ^ (k - (1 : Int)).toNat).toNat
 ((1 : Int) * (2 : Int) ^ (k - (1 : Int)).toNat +
 switchesF (k - (1 : Int))).toNat)).getD
 ((↑x : Int) / (2 : Int)).toNat (0 : Int)).toNat -
 (48 : Int))) ∧
 ((0 : Int) ≤ (↑x : Int) ∧
 (↑x : Int) < (↑(applyTo k.toNat s x).length : Int)) ∧
 Fits IntKind.i64 ((↑x : Int) + (1 : Int)) ∧
 ∃ (x' : Nat),
 x' ≤ (2 : Nat) * hN k.toNat ∧
 (2 : Nat) * hN k.toNat - x' < (2 : Nat) * hN k.toNat - x ∧
 ((applyF (k - (1 : Int)).toNat
 (s.extract
 ((1 : Int) * (2 : Int) ^ (k - (1 : Int)).toNat).toNat
 ((1 : Int) * (2 : Int) ^ (k - (1 : Int)).toNat +
 switchesF (k - (1 : Int))).toNat) =
 applyF (k - (1 : Int)).toNat
 (s.extract
 ((1 : Int) * (2 : Int) ^ (k - (1 : Int)).toNat).toNat
 ((1 : Int) * (2 : Int) ^ (k - (1 : Int)).toNat +
 switchesF (k - (1 : Int))).toNat) ∧
 applyF (k - (1 : Int)).toNat
 (s.extract
 ((1 : Int) * (2 : Int) ^ (k - (1 : Int)).toNat +
 switchesF (k - (1 : Int))).toNat
 ((1 : Int) * (2 : Int) ^ (k - (1 : Int)).toNat +
 (2 : Int) * switchesF (k - (1 : Int))).toNat) =
 applyF (k - (1 : Int)).toNat
 (s.extract
 ((1 : Int) * (2 : Int) ^ (k - (1 : Int)).toNat +
 switchesF (k - (1 : Int))).toNat
 ((1 : Int) * (2 : Int) ^ (k - (1 : Int)).toNat +
 (2 : Int) * switchesF (k - (1 : Int))).toNat) ∧
 True) ∧
 (applyTo k.toNat s x).set (↑x : Int).toNat
 (bitsF BinOp.xor IntKind.i64
 ((2 : Int) *
 (applyF (k - (1 : Int)).toNat
 (s.extract
 ((1 : Int) *
 (2 : Int) ^
 (k - (1 : Int)).toNat).toNat
 ((1 : Int) *
 (2 : Int) ^ (k - (1 : Int)).toNat +
 switchesF
 (k - (1 : Int))).toNat)).getD
 ((↑x : Int) / (2 : Int)).toNat (0 : Int) +
 bitsF BinOp.xor IntKind.i64 ((↑x : Int) % (2 : Int))
 (IntKind.u8.wrap
 (bt
 (s.extract (↑(0 : Nat) : Int).toNat
 ((1 : Int) *
 (2 : Int) ^
 (k - (1 : Int)).toNat).toNat)
 ((↑x : Int) / (2 : Int)).toNat -
 (48 : Int))))
 (IntKind.u8.wrap
 (bt
 (s.extract
 ((1 : Int) *
 (2 : Int) ^ (k - (1 : Int)).toNat +
 (2 : Int) *
 switchesF (k - (1 : Int))).toNat
 (↑s.size : Int).toNat)
 ((applyF (k - (1 : Int)).toNat
 (s.extract
 ((1 : Int) *
 (2 : Int) ^
 (k - (1 : Int)).toNat).toNat
 ((1 : Int) *
 (2 : Int) ^
 (k - (1 : Int)).toNat +
 switchesF
 (k - (1 : Int))).toNat)).getD
 ((↑x : Int) / (2 : Int)).toNat
 (0 : Int)).toNat -
 (48 : Int)))) =
 applyTo k.toNat s x' ∧
 True) ∧
 (↑x : Int) + (1 : Int) = (↑x' : Int) ∧
 (↑(List.replicate
 ((2 : Int) *
 ((1 : Int) *
 (2 : Int) ^ (k - (1 : Int)).toNat)).toNat
 (0 : Int)).length :
 Int) =
 (↑(List.replicate
 ((2 : Int) *
 ((1 : Int) *
 (2 : Int) ^ (k - (1 : Int)).toNat)).toNat
 (0 : Int)).length :
 Int) ∧
 True ∧
 True ∧
 s.extract
 ((1 : Int) * (2 : Int) ^ (k - (1 : Int)).toNat +
 (2 : Int) * switchesF (k - (1 : Int))).toNat
 (↑s.size : Int).toNat =
 s.extract
 ((1 : Int) * (2 : Int) ^ (k - (1 : Int)).toNat +
 (2 : Int) * switchesF (k - (1 : Int))).toNat
 (↑s.size : Int).toNat ∧
 s.extract (↑(0 : Nat) : Int).toNat
 ((1 : Int) *
 (2 : Int) ^ (k - (1 : Int)).toNat).toNat =
 s.extract (↑(0 : Nat) : Int).toNat
 ((1 : Int) *
 (2 : Int) ^ (k - (1 : Int)).toNat).toNat ∧
 True)) ∧
 (bitsF BinOp.xor IntKind.i64 ((↑x : Int) % (2 : Int))
 (IntKind.u8.wrap
 (bt
 (s.extract (↑(0 : Nat) : Int).toNat
 ((1 : Int) * (2 : Int) ^ (k - (1 : Int)).toNat).toNat)
 ((↑x : Int) / (2 : Int)).toNat -
 (48 : Int))) =
 (↑(1 : Nat) : Int) →
 ((0 : Int) ≤ (↑x : Int) ∧ (0 : Int) < (2 : Int)) ∧
 Fits IntKind.i64 ((↑x : Int) / (2 : Int)) ∧
 ((0 : Int) ≤ (↑x : Int) / (2 : Int) ∧
 (↑x : Int) / (2 : Int) <
 (↑(applyF (k - (1 : Int)).toNat
 (s.extract
 ((1 : Int) * (2 : Int) ^ (k - (1 : Int)).toNat +
 switchesF (k - (1 : Int))).toNat
 ((1 : Int) * (2 : Int) ^ (k - (1 : Int)).toNat +
 (2 : Int) * switchesF (k - (1 : Int))).toNat)).length :
 Int)) ∧
 Fits IntKind.i64
 ((2 : Int) *
 (applyF (k - (1 : Int)).toNat
 (s.extract
 ((1 : Int) * (2 : Int) ^ (k - (1 : Int)).toNat +
 switchesF (k - (1 : Int))).toNat
 ((1 : Int) * (2 : Int) ^ (k - (1 : Int)).toNat +
 (2 : Int) * switchesF (k - (1 : Int))).toNat)).getD
 ((↑x : Int) / (2 : Int)).toNat (0 : Int)) ∧
 Fits IntKind.i64
 ((2 : Int) *
 (applyF (k - (1 : Int)).toNat
 (s.extract
 ((1 : Int) * (2 : Int) ^ (k - (1 : Int)).toNat +
 switchesF (k - (1 : Int))).toNat
 ((1 : Int) * (2 : Int) ^ (k - (1 : Int)).toNat +
 (2 : Int) * switchesF (k - (1 : Int))).toNat)).getD
 ((↑x : Int) / (2 : Int)).toNat (0 : Int) +
 bitsF BinOp.xor IntKind.i64 ((↑x : Int) % (2 : Int))
 (IntKind.u8.wrap
 (bt
 (s.extract (↑(0 : Nat) : Int).toNat
 ((1 : Int) * (2 : Int) ^ (k - (1 : Int)).toNat).toNat)
 ((↑x : Int) / (2 : Int)).toNat -
 (48 : Int)))) ∧
 ((0 : Int) ≤
 (applyF (k - (1 : Int)).toNat
 (s.extract
 ((1 : Int) * (2 : Int) ^ (k - (1 : Int)).toNat +
 switchesF (k - (1 : Int))).toNat
 ((1 : Int) * (2 : Int) ^ (k - (1 : Int)).toNat +
 (2 : Int) * switchesF (k - (1 : Int))).toNat)).getD
 ((↑x : Int) / (2 : Int)).toNat (0 : Int) ∧
 (applyF (k - (1 : Int)).toNat
 (s.extract
 ((1 : Int) * (2 : Int) ^ (k - (1 : Int)).toNat +
 switchesF (k - (1 : Int))).toNat
 ((1 : Int) * (2 : Int) ^ (k - (1 : Int)).toNat +
 (2 : Int) * switchesF (k - (1 : Int))).toNat)).getD
 ((↑x : Int) / (2 : Int)).toNat (0 : Int) <
 (↑(s.extract
 ((1 : Int) * (2 : Int) ^ (k - (1 : Int)).toNat +
 (2 : Int) * switchesF (k - (1 : Int))).toNat
 (↑s.size : Int).toNat).size :
 Int)) ∧
 Fits IntKind.i64
 (IntKind.u8.wrap
 (bt
 (s.extract
 ((1 : Int) * (2 : Int) ^ (k - (1 : Int)).toNat +
 (2 : Int) * switchesF (k - (1 : Int))).toNat
 (↑s.size : Int).toNat)
 ((applyF (k - (1 : Int)).toNat
 (s.extract
 ((1 : Int) * (2 : Int) ^ (k - (1 : Int)).toNat +
 switchesF (k - (1 : Int))).toNat
 ((1 : Int) * (2 : Int) ^ (k - (1 : Int)).toNat +
 (2 : Int) * switchesF (k - (1 : Int))).toNat)).getD
 ((↑x : Int) / (2 : Int)).toNat (0 : Int)).toNat -
 (48 : Int))) ∧
 ((0 : Int) ≤ (↑x : Int) ∧
 (↑x : Int) < (↑(applyTo k.toNat s x).length : Int)) ∧
 Fits IntKind.i64 ((↑x : Int) + (1 : Int)) ∧
 ∃ (x' : Nat),
 x' ≤ (2 : Nat) * hN k.toNat ∧
 (2 : Nat) * hN k.toNat - x' < (2 : Nat) * hN k.toNat - x ∧
 ((applyF (k - (1 : Int)).toNat
 (s.extract
 ((1 : Int) * (2 : Int) ^ (k - (1 : Int)).toNat).toNat
 ((1 : Int) * (2 : Int) ^ (k - (1 : Int)).toNat +
 switchesF (k - (1 : Int))).toNat) =
 applyF (k - (1 : Int)).toNat
 (s.extract
 ((1 : Int) * (2 : Int) ^ (k - (1 : Int)).toNat).toNat
 ((1 : Int) * (2 : Int) ^ (k - (1 : Int)).toNat +
 switchesF (k - (1 : Int))).toNat) ∧
 applyF (k - (1 : Int)).toNat
 (s.extract
 ((1 : Int) * (2 : Int) ^ (k - (1 : Int)).toNat +
 switchesF (k - (1 : Int))).toNat
 ((1 : Int) * (2 : Int) ^ (k - (1 : Int)).toNat +
 (2 : Int) * switchesF (k - (1 : Int))).toNat) =
 applyF (k - (1 : Int)).toNat
 (s.extract
 ((1 : Int) * (2 : Int) ^ (k - (1 : Int)).toNat +
 switchesF (k - (1 : Int))).toNat
 ((1 : Int) * (2 : Int) ^ (k - (1 : Int)).toNat +
 (2 : Int) * switchesF (k - (1 : Int))).toNat) ∧
 True) ∧
 (applyTo k.toNat s x).set (↑x : Int).toNat
 (bitsF BinOp.xor IntKind.i64
 ((2 : Int) *
 (applyF (k - (1 : Int)).toNat
 (s.extract
 ((1 : Int) *
 (2 : Int) ^ (k - (1 : Int)).toNat +
 switchesF (k - (1 : Int))).toNat
 ((1 : Int) *
 (2 : Int) ^ (k - (1 : Int)).toNat +
 (2 : Int) *
 switchesF
 (k - (1 : Int))).toNat)).getD
 ((↑x : Int) / (2 : Int)).toNat (0 : Int) +
 bitsF BinOp.xor IntKind.i64 ((↑x : Int) % (2 : Int))
 (IntKind.u8.wrap
 (bt
 (s.extract (↑(0 : Nat) : Int).toNat
 ((1 : Int) *
 (2 : Int) ^
 (k - (1 : Int)).toNat).toNat)
 ((↑x : Int) / (2 : Int)).toNat -
 (48 : Int))))
 (IntKind.u8.wrap
 (bt
 (s.extract
 ((1 : Int) * (2 : Int) ^ (k - (1 : Int)).toNat +
 (2 : Int) * switchesF (k - (1 : Int))).toNat
 (↑s.size : Int).toNat)
 ((applyF (k - (1 : Int)).toNat
 (s.extract
 ((1 : Int) *
 (2 : Int) ^
 (k - (1 : Int)).toNat +
 switchesF (k - (1 : Int))).toNat
 ((1 : Int) *
 (2 : Int) ^
 (k - (1 : Int)).toNat +
 (2 : Int) *
 switchesF
 (k - (1 : Int))).toNat)).getD
 ((↑x : Int) / (2 : Int)).toNat
 (0 : Int)).toNat -
 (48 : Int)))) =
 applyTo k.toNat s x' ∧
 True) ∧
 (↑x : Int) + (1 : Int) = (↑x' : Int) ∧
 (↑(List.replicate
 ((2 : Int) *
 ((1 : Int) *
 (2 : Int) ^ (k - (1 : Int)).toNat)).toNat
 (0 : Int)).length :
 Int) =
 (↑(List.replicate
 ((2 : Int) *
 ((1 : Int) *
 (2 : Int) ^ (k - (1 : Int)).toNat)).toNat
 (0 : Int)).length :
 Int) ∧
 True ∧
 True ∧
 s.extract
 ((1 : Int) * (2 : Int) ^ (k - (1 : Int)).toNat +
 (2 : Int) * switchesF (k - (1 : Int))).toNat
 (↑s.size : Int).toNat =
 s.extract
 ((1 : Int) * (2 : Int) ^ (k - (1 : Int)).toNat +
 (2 : Int) * switchesF (k - (1 : Int))).toNat
 (↑s.size : Int).toNat ∧
 s.extract (↑(0 : Nat) : Int).toNat
 ((1 : Int) *
 (2 : Int) ^ (k - (1 : Int)).toNat).toNat =
 s.extract (↑(0 : Nat) : Int).toNat
 ((1 : Int) *
 (2 : Int) ^ (k - (1 : Int)).toNat).toNat ∧
 True)) ∧
 (¬(↑x : Int) <
 (↑(List.replicate ((2 : Int) * ((1 : Int) * (2 : Int) ^ (k - (1 : Int)).toNat)).toNat (0 : Int)).length :
 Int) →
 ¬(↑x : Int) <
 (↑(List.replicate ((2 : Int) * ((1 : Int) * (2 : Int) ^ (k - (1 : Int)).toNat)).toNat
 (0 : Int)).length :
 Int) ∧
 applyTo k.toNat s x = applyF k.toNat s)) ∧
 ((((1 : Int) ≤ k - (1 : Int) ∧ k - (1 : Int) ≤ (3 : Int)) ∧
 (s.extract ((1 : Int) * (2 : Int) ^ (k - (1 : Int)).toNat + switchesF (k - (1 : Int))).toNat
 ((1 : Int) * (2 : Int) ^ (k - (1 : Int)).toNat + (2 : Int) * switchesF (k - (1 : Int))).toNat).size =
 swN (k - (1 : Int)).toNat ∧
 ∀ (i : Nat),
 i <
 (s.extract ((1 : Int) * (2 : Int) ^ (k - (1 : Int)).toNat + switchesF (k - (1 : Int))).toNat
 ((1 : Int) * (2 : Int) ^ (k - (1 : Int)).toNat + (2 : Int) * switchesF (k - (1 : Int))).toNat).size →
 bt
 (s.extract ((1 : Int) * (2 : Int) ^ (k - (1 : Int)).toNat + switchesF (k - (1 : Int))).toNat
 ((1 : Int) * (2 : Int) ^ (k - (1 : Int)).toNat + (2 : Int) * switchesF (k - (1 : Int))).toNat)
 i =
 (48 : Int) ∨
 bt
 (s.extract ((1 : Int) * (2 : Int) ^ (k - (1 : Int)).toNat + switchesF (k - (1 : Int))).toNat
 ((1 : Int) * (2 : Int) ^ (k - (1 : Int)).toNat + (2 : Int) * switchesF (k - (1 : Int))).toNat)
 i =
 (49 : Int)) ∧
 m53
 (k - (1 : Int),
 s.extract ((1 : Int) * (2 : Int) ^ (k - (1 : Int)).toNat + switchesF (k - (1 : Int))).toNat
 ((1 : Int) * (2 : Int) ^ (k - (1 : Int)).toNat + (2 : Int) * switchesF (k - (1 : Int))).toNat) <
 m53 (k, s)) ∧
 Fits IntKind.i64 ((2 : Int) * ((1 : Int) * (2 : Int) ^ (k - (1 : Int)).toNat)) ∧
 ((0 : Int) ≤ (2 : Int) * ((1 : Int) * (2 : Int) ^ (k - (1 : Int)).toNat) ∧
 (2 : Int) * ((1 : Int) * (2 : Int) ^ (k - (1 : Int)).toNat) ≤
 (2 : Int) * ((1 : Int) * (2 : Int) ^ (k - (1 : Int)).toNat) ∧
 Small ((2 : Int) * ((1 : Int) * (2 : Int) ^ (k - (1 : Int)).toNat)).toNat) ∧
 (∃ (x0 : Nat),
 x0 ≤ (2 : Nat) * hN k.toNat ∧
 ((applyF (k - (1 : Int)).toNat
 (s.extract ((1 : Int) * (2 : Int) ^ (k - (1 : Int)).toNat).toNat
 ((1 : Int) * (2 : Int) ^ (k - (1 : Int)).toNat + switchesF (k - (1 : Int))).toNat) =
 applyF (k - (1 : Int)).toNat
 (s.extract ((1 : Int) * (2 : Int) ^ (k - (1 : Int)).toNat).toNat
 ((1 : Int) * (2 : Int) ^ (k - (1 : Int)).toNat + switchesF (k - (1 : Int))).toNat) ∧
 applyF (k - (1 : Int)).toNat
 (s.extract ((1 : Int) * (2 : Int) ^ (k - (1 : Int)).toNat + switchesF (k - (1 : Int))).toNat
 ((1 : Int) * (2 : Int) ^ (k - (1 : Int)).toNat + (2 : Int) * switchesF (k - (1 : Int))).toNat) =
 applyF (k - (1 : Int)).toNat
 (s.extract ((1 : Int) * (2 : Int) ^ (k - (1 : Int)).toNat + switchesF (k - (1 : Int))).toNat
 ((1 : Int) * (2 : Int) ^ (k - (1 : Int)).toNat + (2 : Int) * switchesF (k - (1 : Int))).toNat) ∧
 True) ∧
 List.replicate ((2 : Int) * ((1 : Int) * (2 : Int) ^ (k - (1 : Int)).toNat)).toNat (0 : Int) =
 applyTo k.toNat s x0 ∧
 True) ∧
 (0 : Int) = (↑x0 : Int) ∧
 (↑(List.replicate ((2 : Int) * ((1 : Int) * (2 : Int) ^ (k - (1 : Int)).toNat)).toNat (0 : Int)).length :
 Int) =
 (↑(List.replicate ((2 : Int) * ((1 : Int) * (2 : Int) ^ (k - (1 : Int)).toNat)).toNat (0 : Int)).length :
 Int) ∧
 True ∧
 True ∧
 s.extract ((1 : Int) * (2 : Int) ^ (k - (1 : Int)).toNat + (2 : Int) * switchesF (k - (1 : Int))).toNat
 (↑s.size : Int).toNat =
 s.extract
 ((1 : Int) * (2 : Int) ^ (k - (1 : Int)).toNat + (2 : Int) * switchesF (k - (1 : Int))).toNat
 (↑s.size : Int).toNat ∧
 s.extract (↑(0 : Nat) : Int).toNat ((1 : Int) * (2 : Int) ^ (k - (1 : Int)).toNat).toNat =
 s.extract (↑(0 : Nat) : Int).toNat ((1 : Int) * (2 : Int) ^ (k - (1 : Int)).toNat).toNat ∧
 True) ∧
 ∀ (x : Nat),
 x ≤ (2 : Nat) * hN k.toNat →
 ((↑x : Int) <
 (↑(List.replicate ((2 : Int) * ((1 : Int) * (2 : Int) ^ (k - (1 : Int)).toNat)).toNat (0 : Int)).length :
 Int) →
 (↑x : Int) <
 (↑(List.replicate ((2 : Int) * ((1 : Int) * (2 : Int) ^ (k - (1 : Int)).toNat)).toNat (0 : Int)).length :
 Int) ∧
 ((0 : Int) ≤ (↑x : Int) ∧ (0 : Int) < (2 : Int)) ∧
 ((0 : Int) ≤ (↑x : Int) ∧ (0 : Int) < (2 : Int)) ∧
 Fits IntKind.i64 ((↑x : Int) / (2 : Int)) ∧
 ((0 : Int) ≤ (↑x : Int) / (2 : Int) ∧
 (↑x : Int) / (2 : Int) <
 (↑(s.extract (↑(0 : Nat) : Int).toNat
 ((1 : Int) * (2 : Int) ^ (k - (1 : Int)).toNat).toNat).size :
 Int)) ∧
 Fits IntKind.i64
 (IntKind.u8.wrap
 (bt (s.extract (↑(0 : Nat) : Int).toNat ((1 : Int) * (2 : Int) ^ (k - (1 : Int)).toNat).toNat)
 ((↑x : Int) / (2 : Int)).toNat -
 (48 : Int))) ∧
 ((0 : Int) ≤
 bitsF BinOp.xor IntKind.i64 ((↑x : Int) % (2 : Int))
 (IntKind.u8.wrap
 (bt
 (s.extract (↑(0 : Nat) : Int).toNat
 ((1 : Int) * (2 : Int) ^ (k - (1 : Int)).toNat).toNat)
 ((↑x : Int) / (2 : Int)).toNat -
 (48 : Int))) ∧
 bitsF BinOp.xor IntKind.i64 ((↑x : Int) % (2 : Int))
 (IntKind.u8.wrap
 (bt
 (s.extract (↑(0 : Nat) : Int).toNat
 ((1 : Int) * (2 : Int) ^ (k - (1 : Int)).toNat).toNat)
 ((↑x : Int) / (2 : Int)).toNat -
 (48 : Int))) <
 (↑(2 : Nat) : Int)) ∧
 (True ∧
 (bitsF BinOp.xor IntKind.i64 ((↑x : Int) % (2 : Int))
 (IntKind.u8.wrap
 (bt
 (s.extract (↑(0 : Nat) : Int).toNat
 ((1 : Int) * (2 : Int) ^ (k - (1 : Int)).toNat).toNat)
 ((↑x : Int) / (2 : Int)).toNat -
 (48 : Int))) =
 (↑(0 : Nat) : Int) →
 ((0 : Int) ≤ (↑x : Int) ∧ (0 : Int) < (2 : Int)) ∧
 Fits IntKind.i64 ((↑x : Int) / (2 : Int)) ∧
 ((0 : Int) ≤ (↑x : Int) / (2 : Int) ∧
 (↑x : Int) / (2 : Int) <
 (↑(applyF (k - (1 : Int)).toNat
 (s.extract ((1 : Int) * (2 : Int) ^ (k - (1 : Int)).toNat).toNat
 ((1 : Int) * (2 : Int) ^ (k - (1 : Int)).toNat +
 switchesF (k - (1 : Int))).toNat)).length :
 Int)) ∧
 Fits IntKind.i64
 ((2 : Int) *
 (applyF (k - (1 : Int)).toNat
 (s.extract ((1 : Int) * (2 : Int) ^ (k - (1 : Int)).toNat).toNat
 ((1 : Int) * (2 : Int) ^ (k - (1 : Int)).toNat +
 switchesF (k - (1 : Int))).toNat)).getD
 ((↑x : Int) / (2 : Int)).toNat (0 : Int)) ∧
 Fits IntKind.i64
 ((2 : Int) *
 (applyF (k - (1 : Int)).toNat
 (s.extract ((1 : Int) * (2 : Int) ^ (k - (1 : Int)).toNat).toNat
 ((1 : Int) * (2 : Int) ^ (k - (1 : Int)).toNat +
 switchesF (k - (1 : Int))).toNat)).getD
 ((↑x : Int) / (2 : Int)).toNat (0 : Int) +
 bitsF BinOp.xor IntKind.i64 ((↑x : Int) % (2 : Int))
 (IntKind.u8.wrap
 (bt
 (s.extract (↑(0 : Nat) : Int).toNat
 ((1 : Int) * (2 : Int) ^ (k - (1 : Int)).toNat).toNat)
 ((↑x : Int) / (2 : Int)).toNat -
 (48 : Int)))) ∧
 ((0 : Int) ≤
 (applyF (k - (1 : Int)).toNat
 (s.extract ((1 : Int) * (2 : Int) ^ (k - (1 : Int)).toNat).toNat
 ((1 : Int) * (2 : Int) ^ (k - (1 : Int)).toNat +
 switchesF (k - (1 : Int))).toNat)).getD
 ((↑x : Int) / (2 : Int)).toNat (0 : Int) ∧
 (applyF (k - (1 : Int)).toNat
 (s.extract ((1 : Int) * (2 : Int) ^ (k - (1 : Int)).toNat).toNat
 ((1 : Int) * (2 : Int) ^ (k - (1 : Int)).toNat +
 switchesF (k - (1 : Int))).toNat)).getD
 ((↑x : Int) / (2 : Int)).toNat (0 : Int) <
 (↑(s.extract
 ((1 : Int) * (2 : Int) ^ (k - (1 : Int)).toNat +
 (2 : Int) * switchesF (k - (1 : Int))).toNat
 (↑s.size : Int).toNat).size :
 Int)) ∧
 Fits IntKind.i64
 (IntKind.u8.wrap
 (bt
 (s.extract
 ((1 : Int) * (2 : Int) ^ (k - (1 : Int)).toNat +
 (2 : Int) * switchesF (k - (1 : Int))).toNat
 (↑s.size : Int).toNat)
 ((applyF (k - (1 : Int)).toNat
 (s.extract
 ((1 : Int) * (2 : Int) ^ (k - (1 : Int)).toNat).toNat
 ((1 : Int) * (2 : Int) ^ (k - (1 : Int)).toNat +
 switchesF (k - (1 : Int))).toNat)).getD
 ((↑x : Int) / (2 : Int)).toNat (0 : Int)).toNat -
 (48 : Int))) ∧
 ((0 : Int) ≤ (↑x : Int) ∧
 (↑x : Int) < (↑(applyTo k.toNat s x).length : Int)) ∧
 Fits IntKind.i64 ((↑x : Int) + (1 : Int)) ∧
 ∃ (x' : Nat),
 x' ≤ (2 : Nat) * hN k.toNat ∧
 (2 : Nat) * hN k.toNat - x' < (2 : Nat) * hN k.toNat - x ∧
 ((applyF (k - (1 : Int)).toNat
 (s.extract
 ((1 : Int) * (2 : Int) ^ (k - (1 : Int)).toNat).toNat
 ((1 : Int) * (2 : Int) ^ (k - (1 : Int)).toNat +
 switchesF (k - (1 : Int))).toNat) =
 applyF (k - (1 : Int)).toNat
 (s.extract
 ((1 : Int) * (2 : Int) ^ (k - (1 : Int)).toNat).toNat
 ((1 : Int) * (2 : Int) ^ (k - (1 : Int)).toNat +
 switchesF (k - (1 : Int))).toNat) ∧
 applyF (k - (1 : Int)).toNat
 (s.extract
 ((1 : Int) * (2 : Int) ^ (k - (1 : Int)).toNat +
 switchesF (k - (1 : Int))).toNat
 ((1 : Int) * (2 : Int) ^ (k - (1 : Int)).toNat +
 (2 : Int) * switchesF (k - (1 : Int))).toNat) =
 applyF (k - (1 : Int)).toNat
 (s.extract
 ((1 : Int) * (2 : Int) ^ (k - (1 : Int)).toNat +
 switchesF (k - (1 : Int))).toNat
 ((1 : Int) * (2 : Int) ^ (k - (1 : Int)).toNat +
 (2 : Int) * switchesF (k - (1 : Int))).toNat) ∧
 True) ∧
 (applyTo k.toNat s x).set (↑x : Int).toNat
 (bitsF BinOp.xor IntKind.i64
 ((2 : Int) *
 (applyF (k - (1 : Int)).toNat
 (s.extract
 ((1 : Int) *
 (2 : Int) ^
 (k - (1 : Int)).toNat).toNat
 ((1 : Int) *
 (2 : Int) ^ (k - (1 : Int)).toNat +
 switchesF
 (k - (1 : Int))).toNat)).getD
 ((↑x : Int) / (2 : Int)).toNat (0 : Int) +
 bitsF BinOp.xor IntKind.i64 ((↑x : Int) % (2 : Int))
 (IntKind.u8.wrap
 (bt
 (s.extract (↑(0 : Nat) : Int).toNat
 ((1 : Int) *
 (2 : Int) ^
 (k - (1 : Int)).toNat).toNat)
 ((↑x : Int) / (2 : Int)).toNat -
 (48 : Int))))
 (IntKind.u8.wrap
 (bt
 (s.extract
 ((1 : Int) *
 (2 : Int) ^ (k - (1 : Int)).toNat +
 (2 : Int) *
 switchesF (k - (1 : Int))).toNat
 (↑s.size : Int).toNat)
 ((applyF (k - (1 : Int)).toNat
 (s.extract
 ((1 : Int) *
 (2 : Int) ^
 (k - (1 : Int)).toNat).toNat
 ((1 : Int) *
 (2 : Int) ^
 (k - (1 : Int)).toNat +
 switchesF
 (k - (1 : Int))).toNat)).getD
 ((↑x : Int) / (2 : Int)).toNat
 (0 : Int)).toNat -
 (48 : Int)))) =
 applyTo k.toNat s x' ∧
 True) ∧
 (↑x : Int) + (1 : Int) = (↑x' : Int) ∧
 (↑(List.replicate
 ((2 : Int) *
 ((1 : Int) *
 (2 : Int) ^ (k - (1 : Int)).toNat)).toNat
 (0 : Int)).length :
 Int) =
 (↑(List.replicate
 ((2 : Int) *
 ((1 : Int) *
 (2 : Int) ^ (k - (1 : Int)).toNat)).toNat
 (0 : Int)).length :
 Int) ∧
 True ∧
 True ∧
 s.extract
 ((1 : Int) * (2 : Int) ^ (k - (1 : Int)).toNat +
 (2 : Int) * switchesF (k - (1 : Int))).toNat
 (↑s.size : Int).toNat =
 s.extract
 ((1 : Int) * (2 : Int) ^ (k - (1 : Int)).toNat +
 (2 : Int) * switchesF (k - (1 : Int))).toNat
 (↑s.size : Int).toNat ∧
 s.extract (↑(0 : Nat) : Int).toNat
 ((1 : Int) *
 (2 : Int) ^ (k - (1 : Int)).toNat).toNat =
 s.extract (↑(0 : Nat) : Int).toNat
 ((1 : Int) *
 (2 : Int) ^ (k - (1 : Int)).toNat).toNat ∧
 True)) ∧
 (bitsF BinOp.xor IntKind.i64 ((↑x : Int) % (2 : Int))
 (IntKind.u8.wrap
 (bt
 (s.extract (↑(0 : Nat) : Int).toNat
 ((1 : Int) * (2 : Int) ^ (k - (1 : Int)).toNat).toNat)
 ((↑x : Int) / (2 : Int)).toNat -
 (48 : Int))) =
 (↑(1 : Nat) : Int) →
 ((0 : Int) ≤ (↑x : Int) ∧ (0 : Int) < (2 : Int)) ∧
 Fits IntKind.i64 ((↑x : Int) / (2 : Int)) ∧
 ((0 : Int) ≤ (↑x : Int) / (2 : Int) ∧
 (↑x : Int) / (2 : Int) <
 (↑(applyF (k - (1 : Int)).toNat
 (s.extract
 ((1 : Int) * (2 : Int) ^ (k - (1 : Int)).toNat +
 switchesF (k - (1 : Int))).toNat
 ((1 : Int) * (2 : Int) ^ (k - (1 : Int)).toNat +
 (2 : Int) * switchesF (k - (1 : Int))).toNat)).length :
 Int)) ∧
 Fits IntKind.i64
 ((2 : Int) *
 (applyF (k - (1 : Int)).toNat
 (s.extract
 ((1 : Int) * (2 : Int) ^ (k - (1 : Int)).toNat +
 switchesF (k - (1 : Int))).toNat
 ((1 : Int) * (2 : Int) ^ (k - (1 : Int)).toNat +
 (2 : Int) * switchesF (k - (1 : Int))).toNat)).getD
 ((↑x : Int) / (2 : Int)).toNat (0 : Int)) ∧
 Fits IntKind.i64
 ((2 : Int) *
 (applyF (k - (1 : Int)).toNat
 (s.extract
 ((1 : Int) * (2 : Int) ^ (k - (1 : Int)).toNat +
 switchesF (k - (1 : Int))).toNat
 ((1 : Int) * (2 : Int) ^ (k - (1 : Int)).toNat +
 (2 : Int) * switchesF (k - (1 : Int))).toNat)).getD
 ((↑x : Int) / (2 : Int)).toNat (0 : Int) +
 bitsF BinOp.xor IntKind.i64 ((↑x : Int) % (2 : Int))
 (IntKind.u8.wrap
 (bt
 (s.extract (↑(0 : Nat) : Int).toNat
 ((1 : Int) * (2 : Int) ^ (k - (1 : Int)).toNat).toNat)
 ((↑x : Int) / (2 : Int)).toNat -
 (48 : Int)))) ∧
 ((0 : Int) ≤
 (applyF (k - (1 : Int)).toNat
 (s.extract
 ((1 : Int) * (2 : Int) ^ (k - (1 : Int)).toNat +
 switchesF (k - (1 : Int))).toNat
 ((1 : Int) * (2 : Int) ^ (k - (1 : Int)).toNat +
 (2 : Int) * switchesF (k - (1 : Int))).toNat)).getD
 ((↑x : Int) / (2 : Int)).toNat (0 : Int) ∧
 (applyF (k - (1 : Int)).toNat
 (s.extract
 ((1 : Int) * (2 : Int) ^ (k - (1 : Int)).toNat +
 switchesF (k - (1 : Int))).toNat
 ((1 : Int) * (2 : Int) ^ (k - (1 : Int)).toNat +
 (2 : Int) * switchesF (k - (1 : Int))).toNat)).getD
 ((↑x : Int) / (2 : Int)).toNat (0 : Int) <
 (↑(s.extract
 ((1 : Int) * (2 : Int) ^ (k - (1 : Int)).toNat +
 (2 : Int) * switchesF (k - (1 : Int))).toNat
 (↑s.size : Int).toNat).size :
 Int)) ∧
 Fits IntKind.i64
 (IntKind.u8.wrap
 (bt
 (s.extract
 ((1 : Int) * (2 : Int) ^ (k - (1 : Int)).toNat +
 (2 : Int) * switchesF (k - (1 : Int))).toNat
 (↑s.size : Int).toNat)
 ((applyF (k - (1 : Int)).toNat
 (s.extract
 ((1 : Int) * (2 : Int) ^ (k - (1 : Int)).toNat +
 switchesF (k - (1 : Int))).toNat
 ((1 : Int) * (2 : Int) ^ (k - (1 : Int)).toNat +
 (2 : Int) * switchesF (k - (1 : Int))).toNat)).getD
 ((↑x : Int) / (2 : Int)).toNat (0 : Int)).toNat -
 (48 : Int))) ∧
 ((0 : Int) ≤ (↑x : Int) ∧
 (↑x : Int) < (↑(applyTo k.toNat s x).length : Int)) ∧
 Fits IntKind.i64 ((↑x : Int) + (1 : Int)) ∧
 ∃ (x' : Nat),
 x' ≤ (2 : Nat) * hN k.toNat ∧
 (2 : Nat) * hN k.toNat - x' < (2 : Nat) * hN k.toNat - x ∧
 ((applyF (k - (1 : Int)).toNat
 (s.extract
 ((1 : Int) * (2 : Int) ^ (k - (1 : Int)).toNat).toNat
 ((1 : Int) * (2 : Int) ^ (k - (1 : Int)).toNat +
 switchesF (k - (1 : Int))).toNat) =
 applyF (k - (1 : Int)).toNat
 (s.extract
 ((1 : Int) * (2 : Int) ^ (k - (1 : Int)).toNat).toNat
 ((1 : Int) * (2 : Int) ^ (k - (1 : Int)).toNat +
 switchesF (k - (1 : Int))).toNat) ∧
 applyF (k - (1 : Int)).toNat
 (s.extract
 ((1 : Int) * (2 : Int) ^ (k - (1 : Int)).toNat +
 switchesF (k - (1 : Int))).toNat
 ((1 : Int) * (2 : Int) ^ (k - (1 : Int)).toNat +
 (2 : Int) * switchesF (k - (1 : Int))).toNat) =
 applyF (k - (1 : Int)).toNat
 (s.extract
 ((1 : Int) * (2 : Int) ^ (k - (1 : Int)).toNat +
 switchesF (k - (1 : Int))).toNat
 ((1 : Int) * (2 : Int) ^ (k - (1 : Int)).toNat +
 (2 : Int) * switchesF (k - (1 : Int))).toNat) ∧
 True) ∧
 (applyTo k.toNat s x).set (↑x : Int).toNat
 (bitsF BinOp.xor IntKind.i64
 ((2 : Int) *
 (applyF (k - (1 : Int)).toNat
 (s.extract
 ((1 : Int) *
 (2 : Int) ^ (k - (1 : Int)).toNat +
 switchesF (k - (1 : Int))).toNat
 ((1 : Int) *
 (2 : Int) ^ (k - (1 : Int)).toNat +
 (2 : Int) *
 switchesF
 (k - (1 : Int))).toNat)).getD
 ((↑x : Int) / (2 : Int)).toNat (0 : Int) +
 bitsF BinOp.xor IntKind.i64 ((↑x : Int) % (2 : Int))
 (IntKind.u8.wrap
 (bt
 (s.extract (↑(0 : Nat) : Int).toNat
 ((1 : Int) *
 (2 : Int) ^
 (k - (1 : Int)).toNat).toNat)
 ((↑x : Int) / (2 : Int)).toNat -
 (48 : Int))))
 (IntKind.u8.wrap
 (bt
 (s.extract
 ((1 : Int) * (2 : Int) ^ (k - (1 : Int)).toNat +
 (2 : Int) * switchesF (k - (1 : Int))).toNat
 (↑s.size : Int).toNat)
 ((applyF (k - (1 : Int)).toNat
 (s.extract
 ((1 : Int) *
 (2 : Int) ^
 (k - (1 : Int)).toNat +
 switchesF (k - (1 : Int))).toNat
 ((1 : Int) *
 (2 : Int) ^
 (k - (1 : Int)).toNat +
 (2 : Int) *
 switchesF
 (k - (1 : Int))).toNat)).getD
 ((↑x : Int) / (2 : Int)).toNat
 (0 : Int)).toNat -
 (48 : Int)))) =
 applyTo k.toNat s x' ∧
 True) ∧
 (↑x : Int) + (1 : Int) = (↑x' : Int) ∧
 (↑(List.replicate
 ((2 : Int) *
 ((1 : Int) *
 (2 : Int) ^ (k - (1 : Int)).toNat)).toNat
 (0 : Int)).length :
 Int) =
 (↑(List.replicate
 ((2 : Int) *
 ((1 : Int) *
 (2 : Int) ^ (k - (1 : Int)).toNat)).toNat
 (0 : Int)).length :
 Int) ∧
 True ∧
 True ∧
 s.extract
 ((1 : Int) * (2 : Int) ^ (k - (1 : Int)).toNat +
 (2 : Int) * switchesF (k - (1 : Int))).toNat
 (↑s.size : Int).toNat =
 s.extract
 ((1 : Int) * (2 : Int) ^ (k - (1 : Int)).toNat +
 (2 : Int) * switchesF (k - (1 : Int))).toNat
 (↑s.size : Int).toNat ∧
 s.extract (↑(0 : Nat) : Int).toNat
 ((1 : Int) *
 (2 : Int) ^ (k - (1 : Int)).toNat).toNat =
 s.extract (↑(0 : Nat) : Int).toNat
 ((1 : Int) *
 (2 : Int) ^ (k - (1 : Int)).toNat).toNat ∧
 True)) ∧
 (¬(↑x : Int) <
 (↑(List.replicate ((2 : Int) * ((1 : Int) * (2 : Int) ^ (k - (1 : Int)).toNat)).toNat (0 : Int)).length :
 Int) →
 ¬(↑x : Int) <
 (↑(List.replicate ((2 : Int) * ((1 : Int) * (2 : Int) ^ (k - (1 : Int)).toNat)).toNat
 (0 : Int)).length :
 Int) ∧
 applyTo k.toNat s x = applyF k.toNat s)) ∧
 ((((1 : Int) ≤ k - (1 : Int) ∧ k - (1 : Int) ≤ (3 : Int)) ∧
 (s.extract ((1 : Int) * (2 : Int) ^ (k - (1 : Int)).toNat).toNat
 ((1 : Int) * (2 : Int) ^ (k - (1 : Int)).toNat + switchesF (k - (1 : Int))).toNat).size =
 swN (k - (1 : Int)).toNat ∧
 ∀ (i : Nat),
 i <
 (s.extract ((1 : Int) * (2 : Int) ^ (k - (1 : Int)).toNat).toNat
 ((1 : Int) * (2 : Int) ^ (k - (1 : Int)).toNat + switchesF (k - (1 : Int))).toNat).size →
 bt
 (s.extract ((1 : Int) * (2 : Int) ^ (k - (1 : Int)).toNat).toNat
 ((1 : Int) * (2 : Int) ^ (k - (1 : Int)).toNat + switchesF (k - (1 : Int))).toNat)
 i =
 (48 : Int) ∨
 bt
 (s.extract ((1 : Int) * (2 : Int) ^ (k - (1 : Int)).toNat).toNat
 ((1 : Int) * (2 : Int) ^ (k - (1 : Int)).toNat + switchesF (k - (1 : Int))).toNat)
 i =
 (49 : Int)) ∧
 m53
 (k - (1 : Int),
 s.extract ((1 : Int) * (2 : Int) ^ (k - (1 : Int)).toNat).toNat
 ((1 : Int) * (2 : Int) ^ (k - (1 : Int)).toNat + switchesF (k - (1 : Int))).toNat) <
 m53 (k, s)) ∧
 ((((1 : Int) ≤ k - (1 : Int) ∧ k - (1 : Int) ≤ (3 : Int)) ∧
 (s.extract ((1 : Int) * (2 : Int) ^ (k - (1 : Int)).toNat + switchesF (k - (1 : Int))).toNat
 ((1 : Int) * (2 : Int) ^ (k - (1 : Int)).toNat + (2 : Int) * switchesF (k - (1 : Int))).toNat).size =
 swN (k - (1 : Int)).toNat ∧
 ∀ (i : Nat),
 i <
 (s.extract ((1 : Int) * (2 : Int) ^ (k - (1 : Int)).toNat + switchesF (k - (1 : Int))).toNat
 ((1 : Int) * (2 : Int) ^ (k - (1 : Int)).toNat + (2 : Int) * switchesF (k - (1 : Int))).toNat).size →
 bt
 (s.extract ((1 : Int) * (2 : Int) ^ (k - (1 : Int)).toNat + switchesF (k - (1 : Int))).toNat
 ((1 : Int) * (2 : Int) ^ (k - (1 : Int)).toNat + (2 : Int) * switchesF (k - (1 : Int))).toNat)
 i =
 (48 : Int) ∨
 bt
 (s.extract ((1 : Int) * (2 : Int) ^ (k - (1 : Int)).toNat + switchesF (k - (1 : Int))).toNat
 ((1 : Int) * (2 : Int) ^ (k - (1 : Int)).toNat + (2 : Int) * switchesF (k - (1 : Int))).toNat)
 i =
 (49 : Int)) ∧
 m53
 (k - (1 : Int),
 s.extract ((1 : Int) * (2 : Int) ^ (k - (1 : Int)).toNat + switchesF (k - (1 : Int))).toNat
 ((1 : Int) * (2 : Int) ^ (k - (1 : Int)).toNat + (2 : Int) * switchesF (k - (1 : Int))).toNat) <
 m53 (k, s)) ∧
 Fits IntKind.i64 ((2 : Int) * ((1 : Int) * (2 : Int) ^ (k - (1 : Int)).toNat)) ∧
 ((0 : Int) ≤ (2 : Int) * ((1 : Int) * (2 : Int) ^ (k - (1 : Int)).toNat) ∧
 (2 : Int) * ((1 : Int) * (2 : Int) ^ (k - (1 : Int)).toNat) ≤
 (2 : Int) * ((1 : Int) * (2 : Int) ^ (k - (1 : Int)).toNat) ∧
 Small ((2 : Int) * ((1 : Int) * (2 : Int) ^ (k - (1 : Int)).toNat)).toNat) ∧
 (∃ (x0 : Nat),
 x0 ≤ (2 : Nat) * hN k.toNat ∧
 ((applyF (k - (1 : Int)).toNat
 (s.extract ((1 : Int) * (2 : Int) ^ (k - (1 : Int)).toNat).toNat
 ((1 : Int) * (2 : Int) ^ (k - (1 : Int)).toNat + switchesF (k - (1 : Int))).toNat) =
 applyF (k - (1 : Int)).toNat
 (s.extract ((1 : Int) * (2 : Int) ^ (k - (1 : Int)).toNat).toNat
 ((1 : Int) * (2 : Int) ^ (k - (1 : Int)).toNat + switchesF (k - (1 : Int))).toNat) ∧
 applyF (k - (1 : Int)).toNat
 (s.extract ((1 : Int) * (2 : Int) ^ (k - (1 : Int)).toNat + switchesF (k - (1 : Int))).toNat
 ((1 : Int) * (2 : Int) ^ (k - (1 : Int)).toNat + (2 : Int) * switchesF (k - (1 : Int))).toNat) =
 applyF (k - (1 : Int)).toNat
 (s.extract ((1 : Int) * (2 : Int) ^ (k - (1 : Int)).toNat + switchesF (k - (1 : Int))).toNat
 ((1 : Int) * (2 : Int) ^ (k - (1 : Int)).toNat + (2 : Int) * switchesF (k - (1 : Int))).toNat) ∧
 True) ∧
 List.replicate ((2 : Int) * ((1 : Int) * (2 : Int) ^ (k - (1 : Int)).toNat)).toNat (0 : Int) =
 applyTo k.toNat s x0 ∧
 True) ∧
 (0 : Int) = (↑x0 : Int) ∧
 (↑(List.replicate ((2 : Int) * ((1 : Int) * (2 : Int) ^ (k - (1 : Int)).toNat)).toNat (0 : Int)).length : Int) =
 (↑(List.replicate ((2 : Int) * ((1 : Int) * (2 : Int) ^ (k - (1 : Int)).toNat)).toNat (0 : Int)).length :
 Int) ∧
 True ∧
 True ∧
 s.extract ((1 : Int) * (2 : Int) ^ (k - (1 : Int)).toNat + (2 : Int) * switchesF (k - (1 : Int))).toNat
 (↑s.size : Int).toNat =
 s.extract
 ((1 : Int) * (2 : Int) ^ (k - (1 : Int)).toNat + (2 : Int) * switchesF (k - (1 : Int))).toNat
 (↑s.size : Int).toNat ∧
 s.extract (↑(0 : Nat) : Int).toNat ((1 : Int) * (2 : Int) ^ (k - (1 : Int)).toNat).toNat =
 s.extract (↑(0 : Nat) : Int).toNat ((1 : Int) * (2 : Int) ^ (k - (1 : Int)).toNat).toNat ∧
 True) ∧
 ∀ (x : Nat),
 x ≤ (2 : Nat) * hN k.toNat →
 ((↑x : Int) <
 (↑(List.replicate ((2 : Int) * ((1 : Int) * (2 : Int) ^ (k - (1 : Int)).toNat)).toNat (0 : Int)).length :
 Int) →
 (↑x : Int) <
 (↑(List.replicate ((2 : Int) * ((1 : Int) * (2 : Int) ^ (k - (1 : Int)).toNat)).toNat (0 : Int)).length :
 Int) ∧
 ((0 : Int) ≤ (↑x : Int) ∧ (0 : Int) < (2 : Int)) ∧
 ((0 : Int) ≤ (↑x : Int) ∧ (0 : Int) < (2 : Int)) ∧
 Fits IntKind.i64 ((↑x : Int) / (2 : Int)) ∧
 ((0 : Int) ≤ (↑x : Int) / (2 : Int) ∧
 (↑x : Int) / (2 : Int) <
 (↑(s.extract (↑(0 : Nat) : Int).toNat
 ((1 : Int) * (2 : Int) ^ (k - (1 : Int)).toNat).toNat).size :
 Int)) ∧
 Fits IntKind.i64
 (IntKind.u8.wrap
 (bt (s.extract (↑(0 : Nat) : Int).toNat ((1 : Int) * (2 : Int) ^ (k - (1 : Int)).toNat).toNat)
 ((↑x : Int) / (2 : Int)).toNat -
 (48 : Int))) ∧
 ((0 : Int) ≤
 bitsF BinOp.xor IntKind.i64 ((↑x : Int) % (2 : Int))
 (IntKind.u8.wrap
 (bt
 (s.extract (↑(0 : Nat) : Int).toNat
 ((1 : Int) * (2 : Int) ^ (k - (1 : Int)).toNat).toNat)
 ((↑x : Int) / (2 : Int)).toNat -
 (48 : Int))) ∧
 bitsF BinOp.xor IntKind.i64 ((↑x : Int) % (2 : Int))
 (IntKind.u8.wrap
 (bt
 (s.extract (↑(0 : Nat) : Int).toNat
 ((1 : Int) * (2 : Int) ^ (k - (1 : Int)).toNat).toNat)
 ((↑x : Int) / (2 : Int)).toNat -
 (48 : Int))) <
 (↑(2 : Nat) : Int)) ∧
 (True ∧
 (bitsF BinOp.xor IntKind.i64 ((↑x : Int) % (2 : Int))
 (IntKind.u8.wrap
 (bt
 (s.extract (↑(0 : Nat) : Int).toNat
 ((1 : Int) * (2 : Int) ^ (k - (1 : Int)).toNat).toNat)
 ((↑x : Int) / (2 : Int)).toNat -
 (48 : Int))) =
 (↑(0 : Nat) : Int) →
 ((0 : Int) ≤ (↑x : Int) ∧ (0 : Int) < (2 : Int)) ∧
 Fits IntKind.i64 ((↑x : Int) / (2 : Int)) ∧
 ((0 : Int) ≤ (↑x : Int) / (2 : Int) ∧
 (↑x : Int) / (2 : Int) <
 (↑(applyF (k - (1 : Int)).toNat
 (s.extract ((1 : Int) * (2 : Int) ^ (k - (1 : Int)).toNat).toNat
 ((1 : Int) * (2 : Int) ^ (k - (1 : Int)).toNat +
 switchesF (k - (1 : Int))).toNat)).length :
 Int)) ∧
 Fits IntKind.i64
 ((2 : Int) *
 (applyF (k - (1 : Int)).toNat
 (s.extract ((1 : Int) * (2 : Int) ^ (k - (1 : Int)).toNat).toNat
 ((1 : Int) * (2 : Int) ^ (k - (1 : Int)).toNat +
 switchesF (k - (1 : Int))).toNat)).getD
 ((↑x : Int) / (2 : Int)).toNat (0 : Int)) ∧
 Fits IntKind.i64
 ((2 : Int) *
 (applyF (k - (1 : Int)).toNat
 (s.extract ((1 : Int) * (2 : Int) ^ (k - (1 : Int)).toNat).toNat
 ((1 : Int) * (2 : Int) ^ (k - (1 : Int)).toNat +
 switchesF (k - (1 : Int))).toNat)).getD
 ((↑x : Int) / (2 : Int)).toNat (0 : Int) +
 bitsF BinOp.xor IntKind.i64 ((↑x : Int) % (2 : Int))
 (IntKind.u8.wrap
 (bt
 (s.extract (↑(0 : Nat) : Int).toNat
 ((1 : Int) * (2 : Int) ^ (k - (1 : Int)).toNat).toNat)
 ((↑x : Int) / (2 : Int)).toNat -
 (48 : Int)))) ∧
 ((0 : Int) ≤
 (applyF (k - (1 : Int)).toNat
 (s.extract ((1 : Int) * (2 : Int) ^ (k - (1 : Int)).toNat).toNat
 ((1 : Int) * (2 : Int) ^ (k - (1 : Int)).toNat +
 switchesF (k - (1 : Int))).toNat)).getD
 ((↑x : Int) / (2 : Int)).toNat (0 : Int) ∧
 (applyF (k - (1 : Int)).toNat
 (s.extract ((1 : Int) * (2 : Int) ^ (k - (1 : Int)).toNat).toNat
 ((1 : Int) * (2 : Int) ^ (k - (1 : Int)).toNat +
 switchesF (k - (1 : Int))).toNat)).getD
 ((↑x : Int) / (2 : Int)).toNat (0 : Int) <
 (↑(s.extract
 ((1 : Int) * (2 : Int) ^ (k - (1 : Int)).toNat +
 (2 : Int) * switchesF (k - (1 : Int))).toNat
 (↑s.size : Int).toNat).size :
 Int)) ∧
 Fits IntKind.i64
 (IntKind.u8.wrap
 (bt
 (s.extract
 ((1 : Int) * (2 : Int) ^ (k - (1 : Int)).toNat +
 (2 : Int) * switchesF (k - (1 : Int))).toNat
 (↑s.size : Int).toNat)
 ((applyF (k - (1 : Int)).toNat
 (s.extract
 ((1 : Int) * (2 : Int) ^ (k - (1 : Int)).toNat).toNat
 ((1 : Int) * (2 : Int) ^ (k - (1 : Int)).toNat +
 switchesF (k - (1 : Int))).toNat)).getD
 ((↑x : Int) / (2 : Int)).toNat (0 : Int)).toNat -
 (48 : Int))) ∧
 ((0 : Int) ≤ (↑x : Int) ∧
 (↑x : Int) < (↑(applyTo k.toNat s x).length : Int)) ∧
 Fits IntKind.i64 ((↑x : Int) + (1 : Int)) ∧
 ∃ (x' : Nat),
 x' ≤ (2 : Nat) * hN k.toNat ∧
 (2 : Nat) * hN k.toNat - x' < (2 : Nat) * hN k.toNat - x ∧
 ((applyF (k - (1 : Int)).toNat
 (s.extract
 ((1 : Int) * (2 : Int) ^ (k - (1 : Int)).toNat).toNat
 ((1 : Int) * (2 : Int) ^ (k - (1 : Int)).toNat +
 switchesF (k - (1 : Int))).toNat) =
 applyF (k - (1 : Int)).toNat
 (s.extract
 ((1 : Int) * (2 : Int) ^ (k - (1 : Int)).toNat).toNat
 ((1 : Int) * (2 : Int) ^ (k - (1 : Int)).toNat +
 switchesF (k - (1 : Int))).toNat) ∧
 applyF (k - (1 : Int)).toNat
 (s.extract
 ((1 : Int) * (2 : Int) ^ (k - (1 : Int)).toNat +
 switchesF (k - (1 : Int))).toNat
 ((1 : Int) * (2 : Int) ^ (k - (1 : Int)).toNat +
 (2 : Int) * switchesF (k - (1 : Int))).toNat) =
 applyF (k - (1 : Int)).toNat
 (s.extract
 ((1 : Int) * (2 : Int) ^ (k - (1 : Int)).toNat +
 switchesF (k - (1 : Int))).toNat
 ((1 : Int) * (2 : Int) ^ (k - (1 : Int)).toNat +
 (2 : Int) * switchesF (k - (1 : Int))).toNat) ∧
 True) ∧
 (applyTo k.toNat s x).set (↑x : Int).toNat
 (bitsF BinOp.xor IntKind.i64
 ((2 : Int) *
 (applyF (k - (1 : Int)).toNat
 (s.extract
 ((1 : Int) *
 (2 : Int) ^ (k - (1 : Int)).toNat).toNat
 ((1 : Int) *
 (2 : Int) ^ (k - (1 : Int)).toNat +
 switchesF (k - (1 : Int))).toNat)).getD
 ((↑x : Int) / (2 : Int)).toNat (0 : Int) +
 bitsF BinOp.xor IntKind.i64 ((↑x : Int) % (2 : Int))
 (IntKind.u8.wrap
 (bt
 (s.extract (↑(0 : Nat) : Int).toNat
 ((1 : Int) *
 (2 : Int) ^
 (k - (1 : Int)).toNat).toNat)
 ((↑x : Int) / (2 : Int)).toNat -
 (48 : Int))))
 (IntKind.u8.wrap
 (bt
 (s.extract
 ((1 : Int) * (2 : Int) ^ (k - (1 : Int)).toNat +
 (2 : Int) * switchesF (k - (1 : Int))).toNat
 (↑s.size : Int).toNat)
 ((applyF (k - (1 : Int)).toNat
 (s.extract
 ((1 : Int) *
 (2 : Int) ^
 (k - (1 : Int)).toNat).toNat
 ((1 : Int) *
 (2 : Int) ^
 (k - (1 : Int)).toNat +
 switchesF
 (k - (1 : Int))).toNat)).getD
 ((↑x : Int) / (2 : Int)).toNat
 (0 : Int)).toNat -
 (48 : Int)))) =
 applyTo k.toNat s x' ∧
 True) ∧
 (↑x : Int) + (1 : Int) = (↑x' : Int) ∧
 (↑(List.replicate
 ((2 : Int) *
 ((1 : Int) *
 (2 : Int) ^ (k - (1 : Int)).toNat)).toNat
 (0 : Int)).length :
 Int) =
 (↑(List.replicate
 ((2 : Int) *
 ((1 : Int) *
 (2 : Int) ^ (k - (1 : Int)).toNat)).toNat
 (0 : Int)).length :
 Int) ∧
 True ∧
 True ∧
 s.extract
 ((1 : Int) * (2 : Int) ^ (k - (1 : Int)).toNat +
 (2 : Int) * switchesF (k - (1 : Int))).toNat
 (↑s.size : Int).toNat =
 s.extract
 ((1 : Int) * (2 : Int) ^ (k - (1 : Int)).toNat +
 (2 : Int) * switchesF (k - (1 : Int))).toNat
 (↑s.size : Int).toNat ∧
 s.extract (↑(0 : Nat) : Int).toNat
 ((1 : Int) *
 (2 : Int) ^ (k - (1 : Int)).toNat).toNat =
 s.extract (↑(0 : Nat) : Int).toNat
 ((1 : Int) *
 (2 : Int) ^ (k - (1 : Int)).toNat).toNat ∧
 True)) ∧
 (bitsF BinOp.xor IntKind.i64 ((↑x : Int) % (2 : Int))
 (IntKind.u8.wrap
 (bt
 (s.extract (↑(0 : Nat) : Int).toNat
 ((1 : Int) * (2 : Int) ^ (k - (1 : Int)).toNat).toNat)
 ((↑x : Int) / (2 : Int)).toNat -
 (48 : Int))) =
 (↑(1 : Nat) : Int) →
 ((0 : Int) ≤ (↑x : Int) ∧ (0 : Int) < (2 : Int)) ∧
 Fits IntKind.i64 ((↑x : Int) / (2 : Int)) ∧
 ((0 : Int) ≤ (↑x : Int) / (2 : Int) ∧
 (↑x : Int) / (2 : Int) <
 (↑(applyF (k - (1 : Int)).toNat
 (s.extract
 ((1 : Int) * (2 : Int) ^ (k - (1 : Int)).toNat +
 switchesF (k - (1 : Int))).toNat
 ((1 : Int) * (2 : Int) ^ (k - (1 : Int)).toNat +
 (2 : Int) * switchesF (k - (1 : Int))).toNat)).length :
 Int)) ∧
 Fits IntKind.i64
 ((2 : Int) *
 (applyF (k - (1 : Int)).toNat
 (s.extract
 ((1 : Int) * (2 : Int) ^ (k - (1 : Int)).toNat +
 switchesF (k - (1 : Int))).toNat
 ((1 : Int) * (2 : Int) ^ (k - (1 : Int)).toNat +
 (2 : Int) * switchesF (k - (1 : Int))).toNat)).getD
 ((↑x : Int) / (2 : Int)).toNat (0 : Int)) ∧
 Fits IntKind.i64
 ((2 : Int) *
 (applyF (k - (1 : Int)).toNat
 (s.extract
 ((1 : Int) * (2 : Int) ^ (k - (1 : Int)).toNat +
 switchesF (k - (1 : Int))).toNat
 ((1 : Int) * (2 : Int) ^ (k - (1 : Int)).toNat +
 (2 : Int) * switchesF (k - (1 : Int))).toNat)).getD
 ((↑x : Int) / (2 : Int)).toNat (0 : Int) +
 bitsF BinOp.xor IntKind.i64 ((↑x : Int) % (2 : Int))
 (IntKind.u8.wrap
 (bt
 (s.extract (↑(0 : Nat) : Int).toNat
 ((1 : Int) * (2 : Int) ^ (k - (1 : Int)).toNat).toNat)
 ((↑x : Int) / (2 : Int)).toNat -
 (48 : Int)))) ∧
 ((0 : Int) ≤
 (applyF (k - (1 : Int)).toNat
 (s.extract
 ((1 : Int) * (2 : Int) ^ (k - (1 : Int)).toNat +
 switchesF (k - (1 : Int))).toNat
 ((1 : Int) * (2 : Int) ^ (k - (1 : Int)).toNat +
 (2 : Int) * switchesF (k - (1 : Int))).toNat)).getD
 ((↑x : Int) / (2 : Int)).toNat (0 : Int) ∧
 (applyF (k - (1 : Int)).toNat
 (s.extract
 ((1 : Int) * (2 : Int) ^ (k - (1 : Int)).toNat +
 switchesF (k - (1 : Int))).toNat
 ((1 : Int) * (2 : Int) ^ (k - (1 : Int)).toNat +
 (2 : Int) * switchesF (k - (1 : Int))).toNat)).getD
 ((↑x : Int) / (2 : Int)).toNat (0 : Int) <
 (↑(s.extract
 ((1 : Int) * (2 : Int) ^ (k - (1 : Int)).toNat +
 (2 : Int) * switchesF (k - (1 : Int))).toNat
 (↑s.size : Int).toNat).size :
 Int)) ∧
 Fits IntKind.i64
 (IntKind.u8.wrap
 (bt
 (s.extract
 ((1 : Int) * (2 : Int) ^ (k - (1 : Int)).toNat +
 (2 : Int) * switchesF (k - (1 : Int))).toNat
 (↑s.size : Int).toNat)
 ((applyF (k - (1 : Int)).toNat
 (s.extract
 ((1 : Int) * (2 : Int) ^ (k - (1 : Int)).toNat +
 switchesF (k - (1 : Int))).toNat
 ((1 : Int) * (2 : Int) ^ (k - (1 : Int)).toNat +
 (2 : Int) * switchesF (k - (1 : Int))).toNat)).getD
 ((↑x : Int) / (2 : Int)).toNat (0 : Int)).toNat -
 (48 : Int))) ∧
 ((0 : Int) ≤ (↑x : Int) ∧ (↑x : Int) < (↑(applyTo k.toNat s x).length : Int)) ∧
 Fits IntKind.i64 ((↑x : Int) + (1 : Int)) ∧
 ∃ (x' : Nat),
 x' ≤ (2 : Nat) * hN k.toNat ∧
 (2 : Nat) * hN k.toNat - x' < (2 : Nat) * hN k.toNat - x ∧
 ((applyF (k - (1 : Int)).toNat
 (s.extract
 ((1 : Int) * (2 : Int) ^ (k - (1 : Int)).toNat).toNat
 ((1 : Int) * (2 : Int) ^ (k - (1 : Int)).toNat +
 switchesF (k - (1 : Int))).toNat) =
 applyF (k - (1 : Int)).toNat
 (s.extract
 ((1 : Int) * (2 : Int) ^ (k - (1 : Int)).toNat).toNat
 ((1 : Int) * (2 : Int) ^ (k - (1 : Int)).toNat +
 switchesF (k - (1 : Int))).toNat) ∧
 applyF (k - (1 : Int)).toNat
 (s.extract
 ((1 : Int) * (2 : Int) ^ (k - (1 : Int)).toNat +
 switchesF (k - (1 : Int))).toNat
 ((1 : Int) * (2 : Int) ^ (k - (1 : Int)).toNat +
 (2 : Int) * switchesF (k - (1 : Int))).toNat) =
 applyF (k - (1 : Int)).toNat
 (s.extract
 ((1 : Int) * (2 : Int) ^ (k - (1 : Int)).toNat +
 switchesF (k - (1 : Int))).toNat
 ((1 : Int) * (2 : Int) ^ (k - (1 : Int)).toNat +
 (2 : Int) * switchesF (k - (1 : Int))).toNat) ∧
 True) ∧
 (applyTo k.toNat s x).set (↑x : Int).toNat
 (bitsF BinOp.xor IntKind.i64
 ((2 : Int) *
 (applyF (k - (1 : Int)).toNat
 (s.extract
 ((1 : Int) *
 (2 : Int) ^ (k - (1 : Int)).toNat +
 switchesF (k - (1 : Int))).toNat
 ((1 : Int) *
 (2 : Int) ^ (k - (1 : Int)).toNat +
 (2 : Int) *
 switchesF (k - (1 : Int))).toNat)).getD
 ((↑x : Int) / (2 : Int)).toNat (0 : Int) +
 bitsF BinOp.xor IntKind.i64 ((↑x : Int) % (2 : Int))
 (IntKind.u8.wrap
 (bt
 (s.extract (↑(0 : Nat) : Int).toNat
 ((1 : Int) *
 (2 : Int) ^ (k - (1 : Int)).toNat).toNat)
 ((↑x : Int) / (2 : Int)).toNat -
 (48 : Int))))
 (IntKind.u8.wrap
 (bt
 (s.extract
 ((1 : Int) * (2 : Int) ^ (k - (1 : Int)).toNat +
 (2 : Int) * switchesF (k - (1 : Int))).toNat
 (↑s.size : Int).toNat)
 ((applyF (k - (1 : Int)).toNat
 (s.extract
 ((1 : Int) *
 (2 : Int) ^ (k - (1 : Int)).toNat +
 switchesF (k - (1 : Int))).toNat
 ((1 : Int) *
 (2 : Int) ^ (k - (1 : Int)).toNat +
 (2 : Int) *
 switchesF
 (k - (1 : Int))).toNat)).getD
 ((↑x : Int) / (2 : Int)).toNat
 (0 : Int)).toNat -
 (48 : Int)))) =
 applyTo k.toNat s x' ∧
 True) ∧
 (↑x : Int) + (1 : Int) = (↑x' : Int) ∧
 (↑(List.replicate
 ((2 : Int) *
 ((1 : Int) *
 (2 : Int) ^ (k - (1 : Int)).toNat)).toNat
 (0 : Int)).length :
 Int) =
 (↑(List.replicate
 ((2 : Int) *
 ((1 : Int) *
 (2 : Int) ^ (k - (1 : Int)).toNat)).toNat
 (0 : Int)).length :
 Int) ∧
 True ∧
 True ∧
 s.extract
 ((1 : Int) * (2 : Int) ^ (k - (1 : Int)).toNat +
 (2 : Int) * switchesF (k - (1 : Int))).toNat
 (↑s.size : Int).toNat =
 s.extract
 ((1 : Int) * (2 : Int) ^ (k - (1 : Int)).toNat +
 (2 : Int) * switchesF (k - (1 : Int))).toNat
 (↑s.size : Int).toNat ∧
 s.extract (↑(0 : Nat) : Int).toNat
 ((1 : Int) *
 (2 : Int) ^ (k - (1 : Int)).toNat).toNat =
 s.extract (↑(0 : Nat) : Int).toNat
 ((1 : Int) *
 (2 : Int) ^ (k - (1 : Int)).toNat).toNat ∧
 True)) ∧
 (¬(↑x : Int) <
 (↑(List.replicate ((2 : Int) * ((1 : Int) * (2 : Int) ^ (k - (1 : Int)).toNat)).toNat (0 : Int)).length :
 Int) →
 ¬(↑x : Int) <
 (↑(List.replicate ((2 : Int) * ((1 : Int) * (2 : Int) ^ (k - (1 : Int)).toNat)).toNat (0 : Int)).length :
 Int) ∧
 applyTo k.toNat s x = applyF k.toNat s))) := by
 kernel_rfl

end Go.SX.Pa
