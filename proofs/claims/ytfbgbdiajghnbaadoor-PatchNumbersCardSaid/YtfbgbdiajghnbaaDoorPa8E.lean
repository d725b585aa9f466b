/- Printed by VC.lean: what the executor asks. -/
import Derived.Test.YtfbgbdiajghnbaaDoorPa8
namespace Go.SX.Pa
open Go Go.Proofs
theorem g48_eq (k : Int) (s : ByteArray) : g48 k s = (
 (k = (1 : Int) →
 k = (1 : Int) ∧
 (s = ByteArray.mk #[(49 : UInt8)] → s = ByteArray.mk #[(49 : UInt8)] ∧ [(1 : Int), (0 : Int)] = applyF k.toNat s) ∧
 (¬s = ByteArray.mk #[(49 : UInt8)] → ¬s = ByteArray.mk #[(49 : UInt8)] ∧ [(0 : Int), (1 : Int)] = applyF k.toNat s)) ∧
 (¬k = (1 : Int) →
 ¬k = (1 : Int) ∧
 Fits IntKind.i64 (k - (1 : Int)) ∧
 ((0 : Int) ≤ k - (1 : Int) ∧ k - (1 : Int) < (64 : Int)) ∧
 Fits IntKind.i64 ((1 : Int) * (2 : Int) ^ (k - (1 : Int)).toNat) ∧
 Fits IntKind.i64 (k - (1 : Int)) ∧
 ((1 : Int) ≤ k - (1 : Int) ∧ k - (1 : Int) ≤ (3 : Int)) ∧
 ((0 : Int) ≤ (↑(0 : Nat) : Int) ∧
 (↑(0 : Nat) : Int) ≤ (1 : Int) * (2 : Int) ^ (k - (1 : Int)).toNat ∧ (1 : Int) * (2 : Int) ^ (k - (1 : Int)).toNat ≤ (↑s.size : Int)) ∧
 true = true ∧
 Fits IntKind.i64 ((↑s.size : Int) - (1 : Int) * (2 : Int) ^ (k - (1 : Int)).toNat) ∧
 ((0 : Int) ≤ (↑s.size : Int) - (1 : Int) * (2 : Int) ^ (k - (1 : Int)).toNat ∧
 (↑s.size : Int) - (1 : Int) * (2 : Int) ^ (k - (1 : Int)).toNat ≤ (↑s.size : Int) ∧ (↑s.size : Int) ≤ (↑s.size : Int)) ∧
 true = true ∧
 Fits IntKind.i64 (k - (1 : Int)) ∧
 Fits IntKind.i64 ((1 : Int) * (2 : Int) ^ (k - (1 : Int)).toNat + switchesF (k - (1 : Int))) ∧
 ((0 : Int) ≤ (1 : Int) * (2 : Int) ^ (k - (1 : Int)).toNat ∧
 (1 : Int) * (2 : Int) ^ (k - (1 : Int)).toNat ≤ (1 : Int) * (2 : Int) ^ (k - (1 : Int)).toNat + switchesF (k - (1 : Int)) ∧
 (1 : Int) * (2 : Int) ^ (k - (1 : Int)).toNat + switchesF (k - (1 : Int)) ≤ (↑s.size : Int)) ∧
 true = true ∧
 Fits IntKind.i64 (k - (1 : Int)) ∧
 Fits IntKind.i64 ((1 : Int) * (2 : Int) ^ (k - (1 : Int)).toNat + switchesF (k - (1 : Int))) ∧
 Fits IntKind.i64 ((2 : Int) * switchesF (k - (1 : Int))) ∧
 Fits IntKind.i64 ((1 : Int) * (2 : Int) ^ (k - (1 : Int)).toNat + (2 : Int) * switchesF (k - (1 : Int))) ∧
 ((0 : Int) ≤ (1 : Int) * (2 : Int) ^ (k - (1 : Int)).toNat + switchesF (k - (1 : Int)) ∧
 (1 : Int) * (2 : Int) ^ (k - (1 : Int)).toNat + switchesF (k - (1 : Int)) ≤
 (1 : Int) * (2 : Int) ^ (k - (1 : Int)).toNat + (2 : Int) * switchesF (k - (1 : Int)) ∧
 (1 : Int) * (2 : Int) ^ (k - (1 : Int)).toNat + (2 : Int) * switchesF (k - (1 : Int)) ≤ (↑s.size : Int)) ∧
 true = true ∧
 ((((1 : Int) ≤ k - (1 : Int) ∧ k - (1 : Int) ≤ (3 : Int)) ∧
 (s.extract ((1 : Int) * (2 : Int) ^ (k - (1 : Int)).toNat).toNat
 ((1 : Int) * (2 : Int) ^ (k - (1 : Int)).toNat + switchesF (k - (1 : Int))).toNat).size =
 swN (k - (1 : Int)).toNat ∧
 ∀ (i : Nat),
 i <
 (s.extract ((1 : Int) * (2 : Int) ^ (k - (1 : Int)).toNat).toNat
 ((1 : Int) * (2 : Int) ^ (k - (1 : Int)).toNat + switchesF (k - (1 : Int))).toNat).size →
 bt
 (s.extract ((1 : Int) * (2 : Int) ^ (k - (1 : Int)).toNat).toNat
 ((1 : Int) * (2 : Int) ^ (k - (1 : Int)).toNat + switchesF (k - (1 : Int))).toNat)
 i =
 (48 : Int) ∨
 bt
 (s.extract ((1 : Int) * (2 : Int) ^ (k - (1 : Int)).toNat).toNat
 ((1 : Int) * (2 : Int) ^ (k - (1 : Int)).toNat + switchesF (k - (1 : Int))).toNat)
 i =
 (49 : Int)) ∧
 m53
 (k - (1 : Int),
 s.extract ((1 : Int) * (2 : Int) ^ (k - (1 : Int)).toNat).toNat
 ((1 : Int) * (2 : Int) ^ (k - (1 : Int)).toNat + switchesF (k - (1 : Int))).toNat) <
 m53 (k, s)) ∧
 ((((1 : Int) ≤ k - (1 : Int) ∧ k - (1 : Int) ≤ (3 : Int)) ∧
 (s.extract ((1 : Int) * (2 : Int) ^ (k - (1 : Int)).toNat + switchesF (k - (1 : Int))).toNat
 ((1 : Int) * (2 : Int) ^ (k - (1 : Int)).toNat + (2 : Int) * switchesF (k - (1 : Int))).toNat).size =
 swN (k - (1 : Int)).toNat ∧
 ∀ (i : Nat),
 i <
 (s.extract ((1 : Int) * (2 : Int) ^ (k - (1 : Int)).toNat + switchesF (k - (1 : Int))).toNat
 ((1 : Int) * (2 : Int) ^ (k - (1 : Int)).toNat + (2 : Int) * switchesF (k - (1 : Int))).toNat).size →
 bt
 (s.extract ((1 : Int) * (2 : Int) ^ (k - (1 : Int)).toNat + switchesF (k - (1 : Int))).toNat
 ((1 : Int) * (2 : Int) ^ (k - (1 : Int)).toNat + (2 : Int) * switchesF (k - (1 : Int))).toNat)
 i =
 (48 : Int) ∨
 bt
 (s.extract ((1 : Int) * (2 : Int) ^ (k - (1 : Int)).toNat + switchesF (k - (1 : Int))).toNat
 ((1 : Int) * (2 : Int) ^ (k - (1 : Int)).toNat + (2 : Int) * switchesF (k - (1 : Int))).toNat)
 i =
 (49 : Int)) ∧
 m53
 (k - (1 : Int),
 s.extract ((1 : Int) * (2 : Int) ^ (k - (1 : Int)).toNat + switchesF (k - (1 : Int))).toNat
 ((1 : Int) * (2 : Int) ^ (k - (1 : Int)).toNat + (2 : Int) * switchesF (k - (1 : Int))).toNat) <
 m53 (k, s)) ∧
 (∃ (x0 : Nat),
 x0 ≤ (2 : Nat) * hN k.toNat ∧
 ([applyF (k - (1 : Int)).toNat
 (s.extract ((1 : Int) * (2 : Int) ^ (k - (1 : Int)).toNat).toNat
 ((1 : Int) * (2 : Int) ^ (k - (1 : Int)).toNat + switchesF (k - (1 : Int))).toNat),
 applyF (k - (1 : Int)).toNat
 (s.extract ((1 : Int) * (2 : Int) ^ (k - (1 : Int)).toNat + switchesF (k - (1 : Int))).toNat
 ((1 : Int) * (2 : Int) ^ (k - (1 : Int)).toNat + (2 : Int) * switchesF (k - (1 : Int))).toNat)] =
 [applyF (k - (1 : Int)).toNat
 (s.extract ((1 : Int) * (2 : Int) ^ (k - (1 : Int)).toNat).toNat
 ((1 : Int) * (2 : Int) ^ (k - (1 : Int)).toNat + switchesF (k - (1 : Int))).toNat),
 applyF (k - (1 : Int)).toNat
 (s.extract ((1 : Int) * (2 : Int) ^ (k - (1 : Int)).toNat + switchesF (k - (1 : Int))).toNat
 ((1 : Int) * (2 : Int) ^ (k - (1 : Int)).toNat + (2 : Int) * switchesF (k - (1 : Int))).toNat)] ∧
 [] = List.map (applyEl k.toNat s) (List.range x0) ∧ True) ∧
 (0 : Int) = (↑x0 : Int) ∧
 True ∧
 True ∧
 s.extract ((↑s.size : Int) - (1 : Int) * (2 : Int) ^ (k - (1 : Int)).toNat).toNat (↑s.size : Int).toNat =
 s.extract ((↑s.size : Int) - (1 : Int) * (2 : Int) ^ (k - (1 : Int)).toNat).toNat (↑s.size : Int).toNat ∧
 s.extract (↑(0 : Nat) : Int).toNat ((1 : Int) * (2 : Int) ^ (k - (1 : Int)).toNat).toNat =
 s.extract (↑(0 : Nat) : Int).toNat ((1 : Int) * (2 : Int) ^ (k - (1 : Int)).toNat).toNat ∧
 (1 : Int) * (2 : Int) ^ (k - (1 : Int)).toNat = (1 : Int) * (2 : Int) ^ (k - (1 : Int)).toNat ∧ True) ∧
 ∀ (x : Nat),
 x ≤ (2 : Nat) * hN k.toNat →
 Fits IntKind.i64 ((2 : Int) * ((1 : Int) * (2 : Int) ^ (k - (1 : Int)).toNat)) ∧
 ((↑x : Int) < (2 : Int) * ((1 : Int) * (2 : Int) ^ (k - (1 : Int)).toNat) →
 (↑x : Int) < (2 : Int) * ((1 : Int) * (2 : Int) ^ (k - (1 : Int)).toNat) ∧
 ((0 : Int) ≤ (↑x : Int) ∧ (0 : Int) < (2 : Int)) ∧
 Fits IntKind.i64 ((↑x : Int) / (2 : Int)) ∧
 ((0 : Int) ≤ (↑x : Int) / (2 : Int) ∧
 (↑x : Int) / (2 : Int) <
 (↑(s.extract (↑(0 : Nat) : Int).toNat ((1 : Int) * (2 : Int) ^ (k - (1 : Int)).toNat).toNat).size :
 Int)) ∧
 Fits IntKind.i64
 (IntKind.u8.wrap
 (bt (s.extract (↑(0 : Nat) : Int).toNat ((1 : Int) * (2 : Int) ^ (k - (1 : Int)).toNat).toNat)
 ((↑x : Int) / (2 : Int)).toNat -
 (48 : Int))) ∧
 ((0 : Int) ≤
 bitsF BinOp.xor IntKind.i64 (bitsF BinOp.and IntKind.i64 (↑x : Int) (1 : Int))
 (IntKind.u8.wrap
 (bt (s.extract (↑(0 : Nat) : Int).toNat ((1 : Int) * (2 : Int) ^ (k - (1 : Int)).toNat).toNat)
 ((↑x : Int) / (2 : Int)).toNat -
 (48 : Int))) ∧
 bitsF BinOp.xor IntKind.i64 (bitsF BinOp.and IntKind.i64 (↑x : Int) (1 : Int))
 (IntKind.u8.wrap
 (bt (s.extract (↑(0 : Nat) : Int).toNat ((1 : Int) * (2 : Int) ^ (k - (1 : Int)).toNat).toNat)
 ((↑x : Int) / (2 : Int)).toNat -
 (48 : Int))) <
 (↑((0 : Nat) + (1 : Nat) + (1 : Nat)) : Int)) ∧
 ((0 : Int) ≤ (↑x : Int) ∧ (0 : Int) < (2 : Int)) ∧
 Fits IntKind.i64 ((↑x : Int) / (2 : Int)) ∧
 ((0 : Int) ≤ (↑x : Int) / (2 : Int) ∧
 (↑x : Int) / (2 : Int) <
 (↑([applyF (k - (1 : Int)).toNat
 (s.extract ((1 : Int) * (2 : Int) ^ (k - (1 : Int)).toNat).toNat
 ((1 : Int) * (2 : Int) ^ (k - (1 : Int)).toNat +
 switchesF (k - (1 : Int))).toNat),
 applyF (k - (1 : Int)).toNat
 (s.extract
 ((1 : Int) * (2 : Int) ^ (k - (1 : Int)).toNat +
 switchesF (k - (1 : Int))).toNat
 ((1 : Int) * (2 : Int) ^ (k - (1 : Int)).toNat +
 (2 : Int) * switchesF (k - (1 : Int))).toNat)].getD
 (bitsF BinOp.xor IntKind.i64 (bitsF BinOp.and IntKind.i64 (↑x : Int) (1 : Int))
 (IntKind.u8.wrap
 (bt
 (s.extract (↑(0 : Nat) : Int).toNat
 ((1 : Int) * (2 : Int) ^ (k - (1 : Int)).toNat).toNat)
 ((↑x : Int) / (2 : Int)).toNat -
 (48 : Int)))).toNat
 []).length :
 Int)) ∧
 Fits IntKind.i64
 ((2 : Int) *
 ([applyF (k - (1 : Int)).toNat
 (s.extract ((1 : Int) * (2 : Int) ^ (k - (1 : Int)).toNat).toNat
 ((1 : Int) * (2 : Int) ^ (k - (1 : Int)).toNat +
 switchesF (k - (1 : Int))).toNat),
 applyF (k - (1 : Int)).toNat
 (s.extract
 ((1 : Int) * (2 : Int) ^ (k - (1 : Int)).toNat +
 switchesF (k - (1 : Int))).toNat
 ((1 : Int) * (2 : Int) ^ (k - (1 : Int)).toNat +
 (2 : Int) * switchesF (k - (1 : Int))).toNat)].getD
 (bitsF BinOp.xor IntKind.i64 (bitsF BinOp.and IntKind.i64 (↑x : Int) (1 : Int))
 (IntKind.u8.wrap
 (bt
 (s.extract (↑(0 : Nat) : Int).toNat
 ((1 : Int) * (2 : Int) ^ (k - (1 : Int)).toNat).toNat)
 ((↑x : Int) / (2 : Int)).toNat -
 (48 : Int)))).toNat
 []).getD
 ((↑x : Int) / (2 : Int)).toNat (0 : Int)) ∧
 ((0 : Int) ≤
 ([applyF (k - (1 : Int)).toNat
 (s.extract ((1 : Int) * (2 : Int) ^ (k - (1 : Int)).toNat).toNat
 ((1 : Int) * (2 : Int) ^ (k - (1 : Int)).toNat +
 switchesF (k - (1 : Int))).toNat),
 applyF (k - (1 : Int)).toNat
 (s.extract
 ((1 : Int) * (2 : Int) ^ (k - (1 : Int)).toNat +
 switchesF (k - (1 : Int))).toNat
 ((1 : Int) * (2 : Int) ^ (k - (1 : Int)).toNat +
 (2 : Int) * switchesF (k - (1 : Int))).toNat)].getD
 (bitsF BinOp.xor IntKind.i64 (bitsF BinOp.and IntKind.i64 (↑x : Int) (1 : Int))
 (IntKind.u8.wrap
 (bt
 (s.extract (↑(0 : Nat) : Int).toNat
 ((1 : Int) * (2 : Int) ^ (k - (1 : Int)).toNat).toNat)
 ((↑x : Int) / (2 : Int)).toNat -
 (48 : Int)))).toNat
 []).getD
 ((↑x : Int) / (2 : Int)).toNat (0 : Int) ∧
 ([applyF (k - (1 : Int)).toNat
 (s.extract ((1 : Int) * (2 : Int) ^ (k - (1 : Int)).toNat).toNat
 ((1 : Int) * (2 : Int) ^ (k - (1 : Int)).toNat +
 switchesF (k - (1 : Int))).toNat),
 applyF (k - (1 : Int)).toNat
 (s.extract
 ((1 : Int) * (2 : Int) ^ (k - (1 : Int)).toNat +
 switchesF (k - (1 : Int))).toNat
 ((1 : Int) * (2 : Int) ^ (k - (1 : Int)).toNat +
 (2 : Int) * switchesF (k - (1 : Int))).toNat)].getD
 (bitsF BinOp.xor IntKind.i64 (bitsF BinOp.and IntKind.i64 (↑x : Int) (1 : Int))
 (IntKind.u8.wrap
 (bt
 (s.extract (↑(0 : Nat) : Int).toNat
 ((1 : Int) * (2 : Int) ^ (k - (1 : Int)).toNat).toNat)
 ((↑x : Int) / (2 : Int)).toNat -
 (48 : Int)))).toNat
 []).getD
 ((↑x : Int) / (2 : Int)).toNat (0 : Int) <
 (↑(s.extract ((↑s.size : Int) - (1 : Int) * (2 : Int) ^ (k - (1 : Int)).toNat).toNat
 (↑s.size : Int).toNat).size :
 Int)) ∧
 Fits IntKind.i64
 (IntKind.u8.wrap
 (bt
 (s.extract ((↑s.size : Int) - (1 : Int) * (2 : Int) ^ (k - (1 : Int)).toNat).toNat
 (↑s.size : Int).toNat)
 (([applyF (k - (1 : Int)).toNat
 (s.extract ((1 : Int) * (2 : Int) ^ (k - (1 : Int)).toNat).toNat
 ((1 : Int) * (2 : Int) ^ (k - (1 : Int)).toNat +
 switchesF (k - (1 : Int))).toNat),
 applyF (k - (1 : Int)).toNat
 (s.extract
 ((1 : Int) * (2 : Int) ^ (k - (1 : Int)).toNat +
 switchesF (k - (1 : Int))).toNat
 ((1 : Int) * (2 : Int) ^ (k - (1 : Int)).toNat +
 (2 : Int) * switchesF (k - (1 : Int))).toNat)].getD
 (bitsF BinOp.xor IntKind.i64
 (bitsF BinOp.and IntKind.i64 (↑x : Int) (1 : Int))
 (IntKind.u8.wrap
 (bt
 (s.extract (↑(0 : Nat) : Int).toNat
 ((1 : Int) * (2 : Int) ^ (k - (1 : Int)).toNat).toNat)
 ((↑x : Int) / (2 : Int)).toNat -
 (48 : Int)))).toNat
 []).getD
 ((↑x : Int) / (2 : Int)).toNat (0 : Int)).toNat -
 (48 : Int))) ∧
 Fits IntKind.i64
 ((2 : Int) *
 ([applyF (k - (1 : Int)).toNat
 (s.extract ((1 : Int) * (2 : Int) ^ (k - (1 : Int)).toNat).toNat
 ((1 : Int) * (2 : Int) ^ (k - (1 : Int)).toNat +
 switchesF (k - (1 : Int))).toNat),
 applyF (k - (1 : Int)).toNat
 (s.extract
 ((1 : Int) * (2 : Int) ^ (k - (1 : Int)).toNat +
 switchesF (k - (1 : Int))).toNat
 ((1 : Int) * (2 : Int) ^ (k - (1 : Int)).toNat +
 (2 : Int) * switchesF (k - (1 : Int))).toNat)].getD
 (bitsF BinOp.xor IntKind.i64 (bitsF BinOp.and IntKind.i64 (↑x : Int) (1 : Int))
 (IntKind.u8.wrap
 (bt
 (s.extract (↑(0 : Nat) : Int).toNat
 ((1 : Int) * (2 : Int) ^ (k - (1 : Int)).toNat).toNat)
 ((↑x : Int) / (2 : Int)).toNat -
 (48 : Int)))).toNat
 []).getD
 ((↑x : Int) / (2 : Int)).toNat (0 : Int) +
 bitsF BinOp.xor IntKind.i64
 (bitsF BinOp.xor IntKind.i64 (bitsF BinOp.and IntKind.i64 (↑x : Int) (1 : Int))
 (IntKind.u8.wrap
 (bt
 (s.extract (↑(0 : Nat) : Int).toNat
 ((1 : Int) * (2 : Int) ^ (k - (1 : Int)).toNat).toNat)
 ((↑x : Int) / (2 : Int)).toNat -
 (48 : Int))))
 (IntKind.u8.wrap
 (bt
 (s.extract
 ((↑s.size : Int) - (1 : Int) * (2 : Int) ^ (k - (1 : Int)).toNat).toNat
 (↑s.size : Int).toNat)
 (([applyF (k - (1 : Int)).toNat
 (s.extract ((1 : Int) * (2 : Int) ^ (k - (1 : Int)).toNat).toNat
 ((1 : Int) * (2 : Int) ^ (k - (1 : Int)).toNat +
 switchesF (k - (1 : Int))).toNat),
 applyF (k - (1 : Int)).toNat
 (s.extract
 ((1 : Int) * (2 : Int) ^ (k - (1 : Int)).toNat +
 switchesF (k - (1 : Int))).toNat
 ((1 : Int) * (2 : Int) ^ (k - (1 : Int)).toNat +
 (2 : Int) * switchesF (k - (1 : Int))).toNat)].getD
 (bitsF BinOp.xor IntKind.i64
 (bitsF BinOp.and IntKind.i64 (↑x : Int) (1 : Int))
 (IntKind.u8.wrap
 (bt
 (s.extract (↑(0 : Nat) : Int).toNat
 ((1 : Int) * (2 : Int) ^ (k - (1 : Int)).toNat).toNat)
 ((↑x : Int) / (2 : Int)).toNat -
 (48 : Int)))).toNat
 []).getD
 ((↑x : Int) / (2 : Int)).toNat (0 : Int)).toNat -
 (48 : Int)))) ∧
 Small ((List.map (applyEl k.toNat s) (List.range x)).length + ((0 : Nat) + (1 : Nat))) ∧
 Fits IntKind.i64 ((↑x : Int) + (1 : Int)) ∧
 ∃ (x' : Nat),
 x' ≤ (2 : Nat) * hN k.toNat ∧
 (2 : Nat) * hN k.toNat - x' < (2 : Nat) * hN k.toNat - x ∧
 ([applyF (k - (1 : Int)).toNat
 (s.extract ((1 : Int) * (2 : Int) ^ (k - (1 : Int)).toNat).toNat
 ((1 : Int) * (2 : Int) ^ (k - (1 : Int)).toNat +
 switchesF (k - (1 : Int))).toNat),
 applyF (k - (1 : Int)).toNat
 (s.extract
 ((1 : Int) * (2 : Int) ^ (k - (1 : Int)).toNat +
 switchesF (k - (1 : Int))).toNat
 ((1 : Int) * (2 : Int) ^ (k - (1 : Int)).toNat +
 (2 : Int) * switchesF (k - (1 : Int))).toNat)] =
 [applyF (k - (1 : Int)).toNat
 (s.extract ((1 : Int) * (2 : Int) ^ (k - (1 : Int)).toNat).toNat
 ((1 : Int) * (2 : Int) ^ (k - (1 : Int)).toNat +
 switchesF (k - (1 : Int))).toNat),
 applyF (k - (1 : Int)).toNat
 (s.extract
 ((1 : Int) * (2 : Int) ^ (k - (1 : Int)).toNat +
 switchesF (k - (1 : Int))).toNat
 ((1 : Int) * (2 : Int) ^ (k - (1 : Int)).toNat +
 (2 : Int) * switchesF (k - (1 : Int))).toNat)] ∧
 List.map (applyEl k.toNat s) (List.range x) ++
 [(2 : Int) *
 ([applyF (k - (1 : Int)).toNat
 (s.extract
 ((1 : Int) *
 (2 : Int) ^ (k - (1 : Int)).toNat).toNat
 ((1 : Int) * (2 : Int) ^ (k - (1 : Int)).toNat +
 switchesF (k - (1 : Int))).toNat),
 applyF (k - (1 : Int)).toNat
 (s.extract
 ((1 : Int) * (2 : Int) ^ (k - (1 : Int)).toNat +
 switchesF (k - (1 : Int))).toNat
 ((1 : Int) * (2 : Int) ^ (k - (1 : Int)).toNat +
 (2 : Int) *
 switchesF (k - (1 : Int))).toNat)].getD
 (bitsF BinOp.xor IntKind.i64
 (bitsF BinOp.and IntKind.i64 (↑x : Int) (1 : Int))
 (IntKind.u8.wrap
 (bt
 (s.extract (↑(0 : Nat) : Int).toNat
 ((1 : Int) *
 (2 : Int) ^ (k - (1 : Int)).toNat).toNat)
 ((↑x : Int) / (2 : Int)).toNat -
 (48 : Int)))).toNat
 []).getD
 ((↑x : Int) / (2 : Int)).toNat (0 : Int) +
 bitsF BinOp.xor IntKind.i64
 (bitsF BinOp.xor IntKind.i64
 (bitsF BinOp.and IntKind.i64 (↑x : Int) (1 : Int))
 (IntKind.u8.wrap
 (bt
 (s.extract (↑(0 : Nat) : Int).toNat
 ((1 : Int) * (2 : Int) ^ (k - (1 : Int)).toNat).toNat)
 ((↑x : Int) / (2 : Int)).toNat -
 (48 : Int))))
 (IntKind.u8.wrap
 (bt
 (s.extract
 ((↑s.size : Int) -
 (1 : Int) * (2 : Int) ^ (k - (1 : Int)).toNat).toNat
 (↑s.size : Int).toNat)
 (([applyF (k - (1 : Int)).toNat
 (s.extract
 ((1 : Int) *
 (2 : Int) ^ (k - (1 : Int)).toNat).toNat
 ((1 : Int) *
 (2 : Int) ^ (k - (1 : Int)).toNat +
 switchesF (k - (1 : Int))).toNat),
 applyF (k - (1 : Int)).toNat
 (s.extract
 ((1 : Int) *
 (2 : Int) ^ (k - (1 : Int)).toNat +
 switchesF (k - (1 : Int))).toNat
 ((1 : Int) *
 (2 : Int) ^ (k - (1 : Int)).toNat +
 (2 : Int) *
 switchesF
 (k - (1 : Int))).toNat)].getD
 (bitsF BinOp.xor IntKind.i64
 (bitsF BinOp.and IntKind.i64 (↑x : Int)
 (1 : Int))
 (IntKind.u8.wrap
 (bt
 (s.extract (↑(0 : Nat) : Int).toNat
 ((1 : Int) *
 (2 : Int) ^
 (k - (1 : Int)).toNat).toNat)
 ((↑x : Int) / (2 : Int)).toNat -
 (48 : Int)))).toNat
 []).getD
 ((↑x : Int) / (2 : Int)).toNat (0 : Int)).toNat -
 (48 : Int)))] =
 List.map (applyEl k.toNat s) (List.range x') ∧
 True) ∧
 (↑x : Int) + (1 : Int) = (↑x' : Int) ∧
 True ∧
 True ∧
 s.extract
 ((↑s.size : Int) -
 (1 : Int) * (2 : Int) ^ (k - (1 : Int)).toNat).toNat
 (↑s.size : Int).toNat =
 s.extract
 ((↑s.size : Int) -
 (1 : Int) * (2 : Int) ^ (k - (1 : Int)).toNat).toNat
 (↑s.size : Int).toNat ∧
 s.extract (↑(0 : Nat) : Int).toNat
 ((1 : Int) * (2 : Int) ^ (k - (1 : Int)).toNat).toNat =
 s.extract (↑(0 : Nat) : Int).toNat
 ((1 : Int) * (2 : Int) ^ (k - (1 : Int)).toNat).toNat ∧
 (1 : Int) * (2 : Int) ^ (k - (1 : Int)).toNat =
 (1 : Int) * (2 : Int) ^ (k - (1 : Int)).toNat ∧
 True) ∧
 (¬(↑x : Int) < (2 : Int) * ((1 : Int) * (2 : Int) ^ (k - (1 : Int)).toNat) →
 ¬(↑x : Int) < (2 : Int) * ((1 : Int) * (2 : Int) ^ (k - (1 : Int)).toNat) ∧
 List.map (applyEl k.toNat s) (List.range x) = applyF k.toNat s))) := by
 kernel_rfl

theorem g3_eq (k : Int) (l : List Int) (c : Cl) : g3 k l c = (
 True ∧
 (List.take (13 : Nat) l).length ≤ (1000 : Nat) ∧
 True ∧
 True ∧
 True ∧
 ((!decide ((1 : Int) ≤ k ∧ k ≤ (2 : Int))) = true →
 (!decide ((1 : Int) ≤ k ∧ k ≤ (2 : Int))) = true ∧
 (!decide ((1 : Int) ≤ k ∧ k ≤ (2 : Int))) = true ∧
 (¬(waysF k (List.take (13 : Nat) l)).fst = (0 : Int) →
 ¬(waysF k (List.take (13 : Nat) l)).fst = (0 : Int) ∧ ¬(waysF k (List.take (13 : Nat) l)).fst = (0 : Int) ∧ false = true) ∧
 (¬¬(waysF k (List.take (13 : Nat) l)).fst = (0 : Int) →
 ¬¬(waysF k (List.take (13 : Nat) l)).fst = (0 : Int) ∧
 ¬¬(waysF k (List.take (13 : Nat) l)).fst = (0 : Int) ∧
 (¬(waysF k (List.take (13 : Nat) l)).snd = (1 : Int) →
 ¬(waysF k (List.take (13 : Nat) l)).snd = (1 : Int) ∧ ¬(waysF k (List.take (13 : Nat) l)).snd = (1 : Int) ∧ false = true) ∧
 (¬¬(waysF k (List.take (13 : Nat) l)).snd = (1 : Int) →
 ¬¬(waysF k (List.take (13 : Nat) l)).snd = (1 : Int) ∧
 ¬¬(waysF k (List.take (13 : Nat) l)).snd = (1 : Int) ∧
 True ∧
 (¬decide ((1 : Int) ≤ k ∧ k ≤ (20 : Int)) = decide ((waksF k).snd = (0 : Int)) →
 ¬decide ((1 : Int) ≤ k ∧ k ≤ (20 : Int)) = decide ((waksF k).snd = (0 : Int)) ∧
 ¬decide ((1 : Int) ≤ k ∧ k ≤ (20 : Int)) = decide ((waksF k).snd = (0 : Int)) ∧ false = true) ∧
 (¬¬decide ((1 : Int) ≤ k ∧ k ≤ (20 : Int)) = decide ((waksF k).snd = (0 : Int)) →
 ¬¬decide ((1 : Int) ≤ k ∧ k ≤ (20 : Int)) = decide ((waksF k).snd = (0 : Int)) ∧
 ¬¬decide ((1 : Int) ≤ k ∧ k ≤ (20 : Int)) = decide ((waksF k).snd = (0 : Int)) ∧
 (¬(waksF k).snd = (0 : Int) →
 ¬(waksF k).snd = (0 : Int) ∧
 ¬(waksF k).snd = (0 : Int) ∧
 (¬(waksF k).fst = (0 : Int) → ¬(waksF k).fst = (0 : Int) ∧ ¬(waksF k).fst = (0 : Int) ∧ false = true) ∧
 (¬¬(waksF k).fst = (0 : Int) →
 ¬¬(waksF k).fst = (0 : Int) ∧
 ¬¬(waksF k).fst = (0 : Int) ∧
 (¬(waksF k).snd = (1 : Int) →
 ¬(waksF k).snd = (1 : Int) ∧
 ¬(waksF k).snd = (1 : Int) ∧
 ¬(waksF k).snd = (1 : Int) ∧ ¬(waksF k).snd = (1 : Int) ∧ ¬(waksF k).snd = (1 : Int) ∧ false = true) ∧
 (¬¬(waksF k).snd = (1 : Int) →
 ¬¬(waksF k).snd = (1 : Int) ∧
 ¬¬(waksF k).snd = (1 : Int) ∧
 ¬¬(waksF k).snd = (1 : Int) ∧
 ¬¬(waksF k).snd = (1 : Int) ∧
 ¬¬(waksF k).snd = (1 : Int) ∧
 ((waksF k).snd = (0 : Int) →
 (waksF k).snd = (0 : Int) ∧
 (waksF k).snd = (0 : Int) ∧
 ((0 : Int) ≤ k ∧ k < (64 : Int)) ∧
 Fits IntKind.i64 (k * (2 : Int) ^ k.toNat) ∧
 ((0 : Int) ≤ k ∧ k < (64 : Int)) ∧
 Fits IntKind.i64 ((1 : Int) * (2 : Int) ^ k.toNat) ∧
 Fits IntKind.i64 (k * (2 : Int) ^ k.toNat - (1 : Int) * (2 : Int) ^ k.toNat) ∧
 Fits IntKind.i64
 (k * (2 : Int) ^ k.toNat - (1 : Int) * (2 : Int) ^ k.toNat + (1 : Int)) ∧
 (¬(waksF k).fst =
 k * (2 : Int) ^ k.toNat - (1 : Int) * (2 : Int) ^ k.toNat + (1 : Int) →
 ¬(waksF k).fst =
 k * (2 : Int) ^ k.toNat - (1 : Int) * (2 : Int) ^ k.toNat + (1 : Int) ∧
 ¬(waksF k).fst =
 k * (2 : Int) ^ k.toNat - (1 : Int) * (2 : Int) ^ k.toNat + (1 : Int) ∧
 ¬(waksF k).fst =
 k * (2 : Int) ^ k.toNat - (1 : Int) * (2 : Int) ^ k.toNat + (1 : Int) ∧
 false = true) ∧
 (¬¬(waksF k).fst =
 k * (2 : Int) ^ k.toNat - (1 : Int) * (2 : Int) ^ k.toNat + (1 : Int) →
 ¬¬(waksF k).fst =
 k * (2 : Int) ^ k.toNat - (1 : Int) * (2 : Int) ^ k.toNat + (1 : Int) ∧
 ¬¬(waksF k).fst =
 k * (2 : Int) ^ k.toNat - (1 : Int) * (2 : Int) ^ k.toNat + (1 : Int) ∧
 ¬¬(waksF k).fst =
 k * (2 : Int) ^ k.toNat - (1 : Int) * (2 : Int) ^ k.toNat +
 (1 : Int) ∧
 True ∧
 ((!decide (ClosP c.fst c.snd.fst c.snd.snd)) = true →
 (!decide (ClosP c.fst c.snd.fst c.snd.snd)) = true ∧
 ((!(strictF c.fst c.snd.fst c.snd.snd).fst) = true →
 (!(strictF c.fst c.snd.fst c.snd.snd).fst) = true ∧
 (!(strictF c.fst c.snd.fst c.snd.snd).fst) = true ∧
 ((strictF c.fst c.snd.fst c.snd.snd).snd = (1 : Int) →
 (strictF c.fst c.snd.fst c.snd.snd).snd = (1 : Int) ∧
 (strictF c.fst c.snd.fst c.snd.snd).snd = (1 : Int) ∧
 (strictF c.fst c.snd.fst c.snd.snd).snd =
 (1 : Int) ∧
 True ∧ true = true) ∧
 (¬(strictF c.fst c.snd.fst c.snd.snd).snd = (1 : Int) →
 ¬(strictF c.fst c.snd.fst c.snd.snd).snd = (1 : Int) ∧
 ¬(strictF c.fst c.snd.fst c.snd.snd).snd = (1 : Int) ∧
 ¬(strictF c.fst c.snd.fst c.snd.snd).snd =
 (1 : Int) ∧
 false = true)) ∧
 ((!(strictF c.fst c.snd.fst c.snd.snd).fst) = false →
 (!(strictF c.fst c.snd.fst c.snd.snd).fst) = false ∧
 (!(strictF c.fst c.snd.fst c.snd.snd).fst) = false ∧
 false = true)) ∧
 ((!decide (ClosP c.fst c.snd.fst c.snd.snd)) = false →
 (!decide (ClosP c.fst c.snd.fst c.snd.snd)) = false ∧
 Fits IntKind.i64 ((2 : Int) * c.fst) ∧
 Fits IntKind.i64 ((2 : Int) * c.fst - (1 : Int)) ∧
 ((2 : Int) * c.fst - (1 : Int) ≤ c.snd.snd →
 (2 : Int) * c.fst - (1 : Int) ≤ c.snd.snd ∧
 (2 : Int) * c.fst - (1 : Int) ≤ c.snd.snd ∧
 ((strictF c.fst c.snd.fst c.snd.snd).fst = true →
 (strictF c.fst c.snd.fst c.snd.snd).fst = true ∧
 (strictF c.fst c.snd.fst c.snd.snd).fst = true ∧
 ((strictF c.fst c.snd.fst c.snd.snd).snd =
 (0 : Int) →
 (strictF c.fst c.snd.fst c.snd.snd).snd =
 (0 : Int) ∧
 (strictF c.fst c.snd.fst c.snd.snd).snd =
 (0 : Int) ∧
 (strictF c.fst c.snd.fst
 c.snd.snd).snd =
 (0 : Int) ∧
 True ∧ true = true) ∧
 (¬(strictF c.fst c.snd.fst c.snd.snd).snd =
 (0 : Int) →
 ¬(strictF c.fst c.snd.fst c.snd.snd).snd =
 (0 : Int) ∧
 ¬(strictF c.fst c.snd.fst c.snd.snd).snd =
 (0 : Int) ∧
 ¬(strictF c.fst c.snd.fst
 c.snd.snd).snd =
 (0 : Int) ∧
 false = true)) ∧
 (¬(strictF c.fst c.snd.fst c.snd.snd).fst = true →
 ¬(strictF c.fst c.snd.fst c.snd.snd).fst = true ∧
 ¬(strictF c.fst c.snd.fst c.snd.snd).fst = true ∧
 false = true)) ∧
 (¬(2 : Int) * c.fst - (1 : Int) ≤ c.snd.snd →
 ¬(2 : Int) * c.fst - (1 : Int) ≤ c.snd.snd ∧
 ¬(2 : Int) * c.fst - (1 : Int) ≤ c.snd.snd ∧
 (c.snd.fst = (1 : Int) →
 c.snd.fst = (1 : Int) ∧
 c.snd.fst = (1 : Int) ∧
 ((strictF c.fst c.snd.fst c.snd.snd).fst =
 decide (c.fst ≤ c.snd.snd) →
 (strictF c.fst c.snd.fst c.snd.snd).fst =
 decide (c.fst ≤ c.snd.snd) ∧
 (strictF c.fst c.snd.fst c.snd.snd).fst =
 decide (c.fst ≤ c.snd.snd) ∧
 ((strictF c.fst c.snd.fst
 c.snd.snd).snd =
 (0 : Int) →
 (strictF c.fst c.snd.fst
 c.snd.snd).snd =
 (0 : Int) ∧
 (strictF c.fst c.snd.fst
 c.snd.snd).snd =
 (0 : Int) ∧
 (strictF c.fst c.snd.fst
 c.snd.snd).snd =
 (0 : Int) ∧
 True ∧ true = true) ∧
 (¬(strictF c.fst c.snd.fst
 c.snd.snd).snd =
 (0 : Int) →
 ¬(strictF c.fst c.snd.fst
 c.snd.snd).snd =
 (0 : Int) ∧
 ¬(strictF c.fst c.snd.fst
 c.snd.snd).snd =
 (0 : Int) ∧
 ¬(strictF c.fst c.snd.fst
 c.snd.snd).snd =
 (0 : Int) ∧
 false = true)) ∧
 (¬(strictF c.fst c.snd.fst c.snd.snd).fst =
 decide (c.fst ≤ c.snd.snd) →
 ¬(strictF c.fst c.snd.fst c.snd.snd).fst =
 decide (c.fst ≤ c.snd.snd) ∧
 ¬(strictF c.fst c.snd.fst c.snd.snd).fst =
 decide (c.fst ≤ c.snd.snd) ∧
 false = true)) ∧
 (¬c.snd.fst = (1 : Int) →
 ¬c.snd.fst = (1 : Int) ∧
 ¬c.snd.fst = (1 : Int) ∧
 ((strictF c.fst c.snd.fst c.snd.snd).fst =
 false →
 (strictF c.fst c.snd.fst c.snd.snd).fst =
 false ∧
 (strictF c.fst c.snd.fst c.snd.snd).fst =
 false ∧
 ((strictF c.fst c.snd.fst
 c.snd.snd).snd =
 (0 : Int) →
 (strictF c.fst c.snd.fst
 c.snd.snd).snd =
 (0 : Int) ∧
 (strictF c.fst c.snd.fst
 c.snd.snd).snd =
 (0 : Int) ∧
 (strictF c.fst c.snd.fst
 c.snd.snd).snd =
 (0 : Int) ∧
 True ∧ true = true) ∧
 (¬(strictF c.fst c.snd.fst
 c.snd.snd).snd =
 (0 : Int) →
 ¬(strictF c.fst c.snd.fst
 c.snd.snd).snd =
 (0 : Int) ∧
 ¬(strictF c.fst c.snd.fst
 c.snd.snd).snd =
 (0 : Int) ∧
 ¬(strictF c.fst c.snd.fst
 c.snd.snd).snd =
 (0 : Int) ∧
 false = true)) ∧
 (¬(strictF c.fst c.snd.fst c.snd.snd).fst =
 false →
 ¬(strictF c.fst c.snd.fst c.snd.snd).fst =
 false ∧
 ¬(strictF c.fst c.snd.fst c.snd.snd).fst =
 false ∧
 false = true)))))) ∧
 (¬(waksF k).snd = (0 : Int) →
 ¬(waksF k).snd = (0 : Int) ∧
 ¬(waksF k).snd = (0 : Int) ∧
 True ∧
 ((!decide (ClosP c.fst c.snd.fst c.snd.snd)) = true →
 (!decide (ClosP c.fst c.snd.fst c.snd.snd)) = true ∧
 ((!(strictF c.fst c.snd.fst c.snd.snd).fst) = true →
 (!(strictF c.fst c.snd.fst c.snd.snd).fst) = true ∧
 (!(strictF c.fst c.snd.fst c.snd.snd).fst) = true ∧
 ((strictF c.fst c.snd.fst c.snd.snd).snd = (1 : Int) →
 (strictF c.fst c.snd.fst c.snd.snd).snd = (1 : Int) ∧
 (strictF c.fst c.snd.fst c.snd.snd).snd = (1 : Int) ∧
 (strictF c.fst c.snd.fst c.snd.snd).snd = (1 : Int) ∧
 True ∧ true = true) ∧
 (¬(strictF c.fst c.snd.fst c.snd.snd).snd = (1 : Int) →
 ¬(strictF c.fst c.snd.fst c.snd.snd).snd = (1 : Int) ∧
 ¬(strictF c.fst c.snd.fst c.snd.snd).snd = (1 : Int) ∧
 ¬(strictF c.fst c.snd.fst c.snd.snd).snd = (1 : Int) ∧ false = true)) ∧
 ((!(strictF c.fst c.snd.fst c.snd.snd).fst) = false →
 (!(strictF c.fst c.snd.fst c.snd.snd).fst) = false ∧
 (!(strictF c.fst c.snd.fst c.snd.snd).fst) = false ∧ false = true)) ∧
 ((!decide (ClosP c.fst c.snd.fst c.snd.snd)) = false →
 (!decide (ClosP c.fst c.snd.fst c.snd.snd)) = false ∧
 Fits IntKind.i64 ((2 : Int) * c.fst) ∧
 Fits IntKind.i64 ((2 : Int) * c.fst - (1 : Int)) ∧
 ((2 : Int) * c.fst - (1 : Int) ≤ c.snd.snd →
 (2 : Int) * c.fst - (1 : Int) ≤ c.snd.snd ∧
 (2 : Int) * c.fst - (1 : Int) ≤ c.snd.snd ∧
 ((strictF c.fst c.snd.fst c.snd.snd).fst = true →
 (strictF c.fst c.snd.fst c.snd.snd).fst = true ∧
 (strictF c.fst c.snd.fst c.snd.snd).fst = true ∧
 ((strictF c.fst c.snd.fst c.snd.snd).snd = (0 : Int) →
 (strictF c.fst c.snd.fst c.snd.snd).snd = (0 : Int) ∧
 (strictF c.fst c.snd.fst c.snd.snd).snd = (0 : Int) ∧
 (strictF c.fst c.snd.fst c.snd.snd).snd = (0 : Int) ∧
 True ∧ true = true) ∧
 (¬(strictF c.fst c.snd.fst c.snd.snd).snd = (0 : Int) →
 ¬(strictF c.fst c.snd.fst c.snd.snd).snd = (0 : Int) ∧
 ¬(strictF c.fst c.snd.fst c.snd.snd).snd = (0 : Int) ∧
 ¬(strictF c.fst c.snd.fst c.snd.snd).snd = (0 : Int) ∧
 false = true)) ∧
 (¬(strictF c.fst c.snd.fst c.snd.snd).fst = true →
 ¬(strictF c.fst c.snd.fst c.snd.snd).fst = true ∧
 ¬(strictF c.fst c.snd.fst c.snd.snd).fst = true ∧ false = true)) ∧
 (¬(2 : Int) * c.fst - (1 : Int) ≤ c.snd.snd →
 ¬(2 : Int) * c.fst - (1 : Int) ≤ c.snd.snd ∧
 ¬(2 : Int) * c.fst - (1 : Int) ≤ c.snd.snd ∧
 (c.snd.fst = (1 : Int) →
 c.snd.fst = (1 : Int) ∧
 c.snd.fst = (1 : Int) ∧
 ((strictF c.fst c.snd.fst c.snd.snd).fst =
 decide (c.fst ≤ c.snd.snd) →
 (strictF c.fst c.snd.fst c.snd.snd).fst =
 decide (c.fst ≤ c.snd.snd) ∧
 (strictF c.fst c.snd.fst c.snd.snd).fst =
 decide (c.fst ≤ c.snd.snd) ∧
 ((strictF c.fst c.snd.fst c.snd.snd).snd = (0 : Int) →
 (strictF c.fst c.snd.fst c.snd.snd).snd = (0 : Int) ∧
 (strictF c.fst c.snd.fst c.snd.snd).snd = (0 : Int) ∧
 (strictF c.fst c.snd.fst c.snd.snd).snd = (0 : Int) ∧
 True ∧ true = true) ∧
 (¬(strictF c.fst c.snd.fst c.snd.snd).snd = (0 : Int) →
 ¬(strictF c.fst c.snd.fst c.snd.snd).snd = (0 : Int) ∧
 ¬(strictF c.fst c.snd.fst c.snd.snd).snd = (0 : Int) ∧
 ¬(strictF c.fst c.snd.fst c.snd.snd).snd = (0 : Int) ∧
 false = true)) ∧
 (¬(strictF c.fst c.snd.fst c.snd.snd).fst =
 decide (c.fst ≤ c.snd.snd) →
 ¬(strictF c.fst c.snd.fst c.snd.snd).fst =
 decide (c.fst ≤ c.snd.snd) ∧
 ¬(strictF c.fst c.snd.fst c.snd.snd).fst =
 decide (c.fst ≤ c.snd.snd) ∧
 false = true)) ∧
 (¬c.snd.fst = (1 : Int) →
 ¬c.snd.fst = (1 : Int) ∧
 ¬c.snd.fst = (1 : Int) ∧
 ((strictF c.fst c.snd.fst c.snd.snd).fst = false →
 (strictF c.fst c.snd.fst c.snd.snd).fst = false ∧
 (strictF c.fst c.snd.fst c.snd.snd).fst = false ∧
 ((strictF c.fst c.snd.fst c.snd.snd).snd = (0 : Int) →
 (strictF c.fst c.snd.fst c.snd.snd).snd = (0 : Int) ∧
 (strictF c.fst c.snd.fst c.snd.snd).snd = (0 : Int) ∧
 (strictF c.fst c.snd.fst c.snd.snd).snd = (0 : Int) ∧
 True ∧ true = true) ∧
 (¬(strictF c.fst c.snd.fst c.snd.snd).snd = (0 : Int) →
 ¬(strictF c.fst c.snd.fst c.snd.snd).snd = (0 : Int) ∧
 ¬(strictF c.fst c.snd.fst c.snd.snd).snd = (0 : Int) ∧
 ¬(strictF c.fst c.snd.fst c.snd.snd).snd = (0 : Int) ∧
 false = true)) ∧
 (¬(strictF c.fst c.snd.fst c.snd.snd).fst = false →
 ¬(strictF c.fst c.snd.fst c.snd.snd).fst = false ∧
 ¬(strictF c.fst c.snd.fst c.snd.snd).fst = false ∧
 false = true)))))))) ∧
 (¬¬(waksF k).snd = (0 : Int) →
 ¬¬(waksF k).snd = (0 : Int) ∧
 ¬¬(waksF k).snd = (0 : Int) ∧
 ((waksF k).snd = (0 : Int) →
 (waksF k).snd = (0 : Int) ∧
 (waksF k).snd = (0 : Int) ∧
 ((0 : Int) ≤ k ∧ k < (64 : Int)) ∧
 Fits IntKind.i64 (k * (2 : Int) ^ k.toNat) ∧
 ((0 : Int) ≤ k ∧ k < (64 : Int)) ∧
 Fits IntKind.i64 ((1 : Int) * (2 : Int) ^ k.toNat) ∧
 Fits IntKind.i64 (k * (2 : Int) ^ k.toNat - (1 : Int) * (2 : Int) ^ k.toNat) ∧
 Fits IntKind.i64 (k * (2 : Int) ^ k.toNat - (1 : Int) * (2 : Int) ^ k.toNat + (1 : Int)) ∧
 (¬(waksF k).fst = k * (2 : Int) ^ k.toNat - (1 : Int) * (2 : Int) ^ k.toNat + (1 : Int) →
 ¬(waksF k).fst = k * (2 : Int) ^ k.toNat - (1 : Int) * (2 : Int) ^ k.toNat + (1 : Int) ∧
 ¬(waksF k).fst = k * (2 : Int) ^ k.toNat - (1 : Int) * (2 : Int) ^ k.toNat + (1 : Int) ∧
 ¬(waksF k).fst = k * (2 : Int) ^ k.toNat - (1 : Int) * (2 : Int) ^ k.toNat + (1 : Int) ∧
 false = true) ∧
 (¬¬(waksF k).fst = k * (2 : Int) ^ k.toNat - (1 : Int) * (2 : Int) ^ k.toNat + (1 : Int) →
 ¬¬(waksF k).fst = k * (2 : Int) ^ k.toNat - (1 : Int) * (2 : Int) ^ k.toNat + (1 : Int) ∧
 ¬¬(waksF k).fst = k * (2 : Int) ^ k.toNat - (1 : Int) * (2 : Int) ^ k.toNat + (1 : Int) ∧
 ¬¬(waksF k).fst = k * (2 : Int) ^ k.toNat - (1 : Int) * (2 : Int) ^ k.toNat + (1 : Int) ∧
 True ∧
 ((!decide (ClosP c.fst c.snd.fst c.snd.snd)) = true →
 (!decide (ClosP c.fst c.snd.fst c.snd.snd)) = true ∧
 ((!(strictF c.fst c.snd.fst c.snd.snd).fst) = true →
 (!(strictF c.fst c.snd.fst c.snd.snd).fst) = true ∧
 (!(strictF c.fst c.snd.fst c.snd.snd).fst) = true ∧
 ((strictF c.fst c.snd.fst c.snd.snd).snd = (1 : Int) →
 (strictF c.fst c.snd.fst c.snd.snd).snd = (1 : Int) ∧
 (strictF c.fst c.snd.fst c.snd.snd).snd = (1 : Int) ∧
 (strictF c.fst c.snd.fst c.snd.snd).snd = (1 : Int) ∧
 True ∧ true = true) ∧
 (¬(strictF c.fst c.snd.fst c.snd.snd).snd = (1 : Int) →
 ¬(strictF c.fst c.snd.fst c.snd.snd).snd = (1 : Int) ∧
 ¬(strictF c.fst c.snd.fst c.snd.snd).snd = (1 : Int) ∧
 ¬(strictF c.fst c.snd.fst c.snd.snd).snd = (1 : Int) ∧ false = true)) ∧
 ((!(strictF c.fst c.snd.fst c.snd.snd).fst) = false →
 (!(strictF c.fst c.snd.fst c.snd.snd).fst) = false ∧
 (!(strictF c.fst c.snd.fst c.snd.snd).fst) = false ∧ false = true)) ∧
 ((!decide (ClosP c.fst c.snd.fst c.snd.snd)) = false →
 (!decide (ClosP c.fst c.snd.fst c.snd.snd)) = false ∧
 Fits IntKind.i64 ((2 : Int) * c.fst) ∧
 Fits IntKind.i64 ((2 : Int) * c.fst - (1 : Int)) ∧
 ((2 : Int) * c.fst - (1 : Int) ≤ c.snd.snd →
 (2 : Int) * c.fst - (1 : Int) ≤ c.snd.snd ∧
 (2 : Int) * c.fst - (1 : Int) ≤ c.snd.snd ∧
 ((strictF c.fst c.snd.fst c.snd.snd).fst = true →
 (strictF c.fst c.snd.fst c.snd.snd).fst = true ∧
 (strictF c.fst c.snd.fst c.snd.snd).fst = true ∧
 ((strictF c.fst c.snd.fst c.snd.snd).snd = (0 : Int) →
 (strictF c.fst c.snd.fst c.snd.snd).snd = (0 : Int) ∧
 (strictF c.fst c.snd.fst c.snd.snd).snd = (0 : Int) ∧
 (strictF c.fst c.snd.fst c.snd.snd).snd = (0 : Int) ∧
 True ∧ true = true) ∧
 (¬(strictF c.fst c.snd.fst c.snd.snd).snd = (0 : Int) →
 ¬(strictF c.fst c.snd.fst c.snd.snd).snd = (0 : Int) ∧
 ¬(strictF c.fst c.snd.fst c.snd.snd).snd = (0 : Int) ∧
 ¬(strictF c.fst c.snd.fst c.snd.snd).snd = (0 : Int) ∧
 false = true)) ∧
 (¬(strictF c.fst c.snd.fst c.snd.snd).fst = true →
 ¬(strictF c.fst c.snd.fst c.snd.snd).fst = true ∧
 ¬(strictF c.fst c.snd.fst c.snd.snd).fst = true ∧ false = true)) ∧
 (¬(2 : Int) * c.fst - (1 : Int) ≤ c.snd.snd →
 ¬(2 : Int) * c.fst - (1 : Int) ≤ c.snd.snd ∧
 ¬(2 : Int) * c.fst - (1 : Int) ≤ c.snd.snd ∧
 (c.snd.fst = (1 : Int) →
 c.snd.fst = (1 : Int) ∧
 c.snd.fst = (1 : Int) ∧
 ((strictF c.fst c.snd.fst c.snd.snd).fst =
 decide (c.fst ≤ c.snd.snd) →
 (strictF c.fst c.snd.fst c.snd.snd).fst =
 decide (c.fst ≤ c.snd.snd) ∧
 (strictF c.fst c.snd.fst c.snd.snd).fst =
 decide (c.fst ≤ c.snd.snd) ∧
 ((strictF c.fst c.snd.fst c.snd.snd).snd = (0 : Int) →
 (strictF c.fst c.snd.fst c.snd.snd).snd = (0 : Int) ∧
 (strictF c.fst c.snd.fst c.snd.snd).snd = (0 : Int) ∧
 (strictF c.fst c.snd.fst c.snd.snd).snd = (0 : Int) ∧
 True ∧ true = true) ∧
 (¬(strictF c.fst c.snd.fst c.snd.snd).snd = (0 : Int) →
 ¬(strictF c.fst c.snd.fst c.snd.snd).snd = (0 : Int) ∧
 ¬(strictF c.fst c.snd.fst c.snd.snd).snd = (0 : Int) ∧
 ¬(strictF c.fst c.snd.fst c.snd.snd).snd = (0 : Int) ∧
 false = true)) ∧
 (¬(strictF c.fst c.snd.fst c.snd.snd).fst =
 decide (c.fst ≤ c.snd.snd) →
 ¬(strictF c.fst c.snd.fst c.snd.snd).fst =
 decide (c.fst ≤ c.snd.snd) ∧
 ¬(strictF c.fst c.snd.fst c.snd.snd).fst =
 decide (c.fst ≤ c.snd.snd) ∧
 false = true)) ∧
 (¬c.snd.fst = (1 : Int) →
 ¬c.snd.fst = (1 : Int) ∧
 ¬c.snd.fst = (1 : Int) ∧
 ((strictF c.fst c.snd.fst c.snd.snd).fst = false →
 (strictF c.fst c.snd.fst c.snd.snd).fst = false ∧
 (strictF c.fst c.snd.fst c.snd.snd).fst = false ∧
 ((strictF c.fst c.snd.fst c.snd.snd).snd = (0 : Int) →
 (strictF c.fst c.snd.fst c.snd.snd).snd = (0 : Int) ∧
 (strictF c.fst c.snd.fst c.snd.snd).snd = (0 : Int) ∧
 (strictF c.fst c.snd.fst c.snd.snd).snd = (0 : Int) ∧
 True ∧ true = true) ∧
 (¬(strictF c.fst c.snd.fst c.snd.snd).snd = (0 : Int) →
 ¬(strictF c.fst c.snd.fst c.snd.snd).snd = (0 : Int) ∧
 ¬(strictF c.fst c.snd.fst c.snd.snd).snd = (0 : Int) ∧
 ¬(strictF c.fst c.snd.fst c.snd.snd).snd = (0 : Int) ∧
 false = true)) ∧
 (¬(strictF c.fst c.snd.fst c.snd.snd).fst = false →
 ¬(strictF c.fst c.snd.fst c.snd.snd).fst = false ∧
 ¬(strictF c.fst c.snd.fst c.snd.snd).fst = false ∧
 false = true)))))) ∧
 (¬(waksF k).snd = (0 : Int) →
 ¬(waksF k).snd = (0 : Int) ∧
 ¬(waksF k).snd = (0 : Int) ∧
 True ∧
 ((!decide (ClosP c.fst c.snd.fst c.snd.snd)) = true →
 (!decide (ClosP c.fst c.snd.fst c.snd.snd)) = true ∧
 ((!(strictF c.fst c.snd.fst c.snd.snd).fst) = true →
 (!(strictF c.fst c.snd.fst c.snd.snd).fst) = true ∧
 (!(strictF c.fst c.snd.fst c.snd.snd).fst) = true ∧
 ((strictF c.fst c.snd.fst c.snd.snd).snd = (1 : Int) →
 (strictF c.fst c.snd.fst c.snd.snd).snd = (1 : Int) ∧
 (strictF c.fst c.snd.fst c.snd.snd).snd = (1 : Int) ∧
 (strictF c.fst c.snd.fst c.snd.snd).snd = (1 : Int) ∧ True ∧ true = true) ∧
 (¬(strictF c.fst c.snd.fst c.snd.snd).snd = (1 : Int) →
 ¬(strictF c.fst c.snd.fst c.snd.snd).snd = (1 : Int) ∧
 ¬(strictF c.fst c.snd.fst c.snd.snd).snd = (1 : Int) ∧
 ¬(strictF c.fst c.snd.fst c.snd.snd).snd = (1 : Int) ∧ false = true)) ∧
 ((!(strictF c.fst c.snd.fst c.snd.snd).fst) = false →
 (!(strictF c.fst c.snd.fst c.snd.snd).fst) = false ∧
 (!(strictF c.fst c.snd.fst c.snd.snd).fst) = false ∧ false = true)) ∧
 ((!decide (ClosP c.fst c.snd.fst c.snd.snd)) = false →
 (!decide (ClosP c.fst c.snd.fst c.snd.snd)) = false ∧
 Fits IntKind.i64 ((2 : Int) * c.fst) ∧
 Fits IntKind.i64 ((2 : Int) * c.fst - (1 : Int)) ∧
 ((2 : Int) * c.fst - (1 : Int) ≤ c.snd.snd →
 (2 : Int) * c.fst - (1 : Int) ≤ c.snd.snd ∧
 (2 : Int) * c.fst - (1 : Int) ≤ c.snd.snd ∧
 ((strictF c.fst c.snd.fst c.snd.snd).fst = true →
 (strictF c.fst c.snd.fst c.snd.snd).fst = true ∧
 (strictF c.fst c.snd.fst c.snd.snd).fst = true ∧
 ((strictF c.fst c.snd.fst c.snd.snd).snd = (0 : Int) →
 (strictF c.fst c.snd.fst c.snd.snd).snd = (0 : Int) ∧
 (strictF c.fst c.snd.fst c.snd.snd).snd = (0 : Int) ∧
 (strictF c.fst c.snd.fst c.snd.snd).snd = (0 : Int) ∧ True ∧ true = true) ∧
 (¬(strictF c.fst c.snd.fst c.snd.snd).snd = (0 : Int) →
 ¬(strictF c.fst c.snd.fst c.snd.snd).snd = (0 : Int) ∧
 ¬(strictF c.fst c.snd.fst c.snd.snd).snd = (0 : Int) ∧
 ¬(strictF c.fst c.snd.fst c.snd.snd).snd = (0 : Int) ∧ false = true)) ∧
 (¬(strictF c.fst c.snd.fst c.snd.snd).fst = true →
 ¬(strictF c.fst c.snd.fst c.snd.snd).fst = true ∧
 ¬(strictF c.fst c.snd.fst c.snd.snd).fst = true ∧ false = true)) ∧
 (¬(2 : Int) * c.fst - (1 : Int) ≤ c.snd.snd →
 ¬(2 : Int) * c.fst - (1 : Int) ≤ c.snd.snd ∧
 ¬(2 : Int) * c.fst - (1 : Int) ≤ c.snd.snd ∧
 (c.snd.fst = (1 : Int) →
 c.snd.fst = (1 : Int) ∧
 c.snd.fst = (1 : Int) ∧
 ((strictF c.fst c.snd.fst c.snd.snd).fst = decide (c.fst ≤ c.snd.snd) →
 (strictF c.fst c.snd.fst c.snd.snd).fst = decide (c.fst ≤ c.snd.snd) ∧
 (strictF c.fst c.snd.fst c.snd.snd).fst = decide (c.fst ≤ c.snd.snd) ∧
 ((strictF c.fst c.snd.fst c.snd.snd).snd = (0 : Int) →
 (strictF c.fst c.snd.fst c.snd.snd).snd = (0 : Int) ∧
 (strictF c.fst c.snd.fst c.snd.snd).snd = (0 : Int) ∧
 (strictF c.fst c.snd.fst c.snd.snd).snd = (0 : Int) ∧ True ∧ true = true) ∧
 (¬(strictF c.fst c.snd.fst c.snd.snd).snd = (0 : Int) →
 ¬(strictF c.fst c.snd.fst c.snd.snd).snd = (0 : Int) ∧
 ¬(strictF c.fst c.snd.fst c.snd.snd).snd = (0 : Int) ∧
 ¬(strictF c.fst c.snd.fst c.snd.snd).snd = (0 : Int) ∧ false = true)) ∧
 (¬(strictF c.fst c.snd.fst c.snd.snd).fst = decide (c.fst ≤ c.snd.snd) →
 ¬(strictF c.fst c.snd.fst c.snd.snd).fst = decide (c.fst ≤ c.snd.snd) ∧
 ¬(strictF c.fst c.snd.fst c.snd.snd).fst = decide (c.fst ≤ c.snd.snd) ∧
 false = true)) ∧
 (¬c.snd.fst = (1 : Int) →
 ¬c.snd.fst = (1 : Int) ∧
 ¬c.snd.fst = (1 : Int) ∧
 ((strictF c.fst c.snd.fst c.snd.snd).fst = false →
 (strictF c.fst c.snd.fst c.snd.snd).fst = false ∧
 (strictF c.fst c.snd.fst c.snd.snd).fst = false ∧
 ((strictF c.fst c.snd.fst c.snd.snd).snd = (0 : Int) →
 (strictF c.fst c.snd.fst c.snd.snd).snd = (0 : Int) ∧
 (strictF c.fst c.snd.fst c.snd.snd).snd = (0 : Int) ∧
 (strictF c.fst c.snd.fst c.snd.snd).snd = (0 : Int) ∧ True ∧ true = true) ∧
 (¬(strictF c.fst c.snd.fst c.snd.snd).snd = (0 : Int) →
 ¬(strictF c.fst c.snd.fst c.snd.snd).snd = (0 : Int) ∧
 ¬(strictF c.fst c.snd.fst c.snd.snd).snd = (0 : Int) ∧
 ¬(strictF c.fst c.snd.fst c.snd.snd).snd = (0 : Int) ∧ false = true)) ∧
 (¬(strictF c.fst c.snd.fst c.snd.snd).fst = false →
 ¬(strictF c.fst c.snd.fst c.snd.snd).fst = false ∧
 ¬(strictF c.fst c.snd.fst c.snd.snd).fst = false ∧ false = true)))))))))) ∧
 ((!decide ((1 : Int) ≤ k ∧ k ≤ (2 : Int))) = false →
 (!decide ((1 : Int) ≤ k ∧ k ≤ (2 : Int))) = false ∧
 (!decide ((1 : Int) ≤ k ∧ k ≤ (2 : Int))) = false ∧
 ((0 : Int) ≤ k ∧ k < (64 : Int)) ∧
 Fits IntKind.i64 ((1 : Int) * (2 : Int) ^ k.toNat) ∧
 ((List.take (13 : Nat) l).length ≤ (1000 : Nat) ∧ (0 : Int) ≤ (1 : Int) * (2 : Int) ^ k.toNat ∧ (1 : Int) * (2 : Int) ^ k.toNat ≤ (1000000 : Int)) ∧
 ((!decide (PermP (List.take (13 : Nat) l) ((1 : Int) * (2 : Int) ^ k.toNat))) = true →
 (!decide (PermP (List.take (13 : Nat) l) ((1 : Int) * (2 : Int) ^ k.toNat))) = true ∧
 (!decide (PermP (List.take (13 : Nat) l) ((1 : Int) * (2 : Int) ^ k.toNat))) = true ∧
 (¬(waysF k (List.take (13 : Nat) l)).fst = (0 : Int) →
 ¬(waysF k (List.take (13 : Nat) l)).fst = (0 : Int) ∧ ¬(waysF k (List.take (13 : Nat) l)).fst = (0 : Int) ∧ false = true) ∧
 (¬¬(waysF k (List.take (13 : Nat) l)).fst = (0 : Int) →
 ¬¬(waysF k (List.take (13 : Nat) l)).fst = (0 : Int) ∧
 ¬¬(waysF k (List.take (13 : Nat) l)).fst = (0 : Int) ∧
 (¬(waysF k (List.take (13 : Nat) l)).snd = (2 : Int) →
 ¬(waysF k (List.take (13 : Nat) l)).snd = (2 : Int) ∧ ¬(waysF k (List.take (13 : Nat) l)).snd = (2 : Int) ∧ false = true) ∧
 (¬¬(waysF k (List.take (13 : Nat) l)).snd = (2 : Int) →
 ¬¬(waysF k (List.take (13 : Nat) l)).snd = (2 : Int) ∧
 ¬¬(waysF k (List.take (13 : Nat) l)).snd = (2 : Int) ∧
 True ∧
 (¬decide ((1 : Int) ≤ k ∧ k ≤ (20 : Int)) = decide ((waksF k).snd = (0 : Int)) →
 ¬decide ((1 : Int) ≤ k ∧ k ≤ (20 : Int)) = decide ((waksF k).snd = (0 : Int)) ∧
 ¬decide ((1 : Int) ≤ k ∧ k ≤ (20 : Int)) = decide ((waksF k).snd = (0 : Int)) ∧ false = true) ∧
 (¬¬decide ((1 : Int) ≤ k ∧ k ≤ (20 : Int)) = decide ((waksF k).snd = (0 : Int)) →
 ¬¬decide ((1 : Int) ≤ k ∧ k ≤ (20 : Int)) = decide ((waksF k).snd = (0 : Int)) ∧
 ¬¬decide ((1 : Int) ≤ k ∧ k ≤ (20 : Int)) = decide ((waksF k).snd = (0 : Int)) ∧
 (¬(waksF k).snd = (0 : Int) →
 ¬(waksF k).snd = (0 : Int) ∧
 ¬(waksF k).snd = (0 : Int) ∧
 (¬(waksF k).fst = (0 : Int) → ¬(waksF k).fst = (0 : Int) ∧ ¬(waksF k).fst = (0 : Int) ∧ false = true) ∧
 (¬¬(waksF k).fst = (0 : Int) →
 ¬¬(waksF k).fst = (0 : Int) ∧
 ¬¬(waksF k).fst = (0 : Int) ∧
 (¬(waksF k).snd = (1 : Int) →
 ¬(waksF k).snd = (1 : Int) ∧
 ¬(waksF k).snd = (1 : Int) ∧
 ¬(waksF k).snd = (1 : Int) ∧
 ¬(waksF k).snd = (1 : Int) ∧ ¬(waksF k).snd = (1 : Int) ∧ false = true) ∧
 (¬¬(waksF k).snd = (1 : Int) →
 ¬¬(waksF k).snd = (1 : Int) ∧
 ¬¬(waksF k).snd = (1 : Int) ∧
 ¬¬(waksF k).snd = (1 : Int) ∧
 ¬¬(waksF k).snd = (1 : Int) ∧
 ¬¬(waksF k).snd = (1 : Int) ∧
 ((waksF k).snd = (0 : Int) →
 (waksF k).snd = (0 : Int) ∧
 (waksF k).snd = (0 : Int) ∧
 ((0 : Int) ≤ k ∧ k < (64 : Int)) ∧
 Fits IntKind.i64 (k * (2 : Int) ^ k.toNat) ∧
 ((0 : Int) ≤ k ∧ k < (64 : Int)) ∧
 Fits IntKind.i64 ((1 : Int) * (2 : Int) ^ k.toNat) ∧
 Fits IntKind.i64
 (k * (2 : Int) ^ k.toNat - (1 : Int) * (2 : Int) ^ k.toNat) ∧
 Fits IntKind.i64
 (k * (2 : Int) ^ k.toNat - (1 : Int) * (2 : Int) ^ k.toNat +
 (1 : Int)) ∧
 (¬(waksF k).fst =
 k * (2 : Int) ^ k.toNat - (1 : Int) * (2 : Int) ^ k.toNat +
 (1 : Int) →
 ¬(waksF k).fst =
 k * (2 : Int) ^ k.toNat - (1 : Int) * (2 : Int) ^ k.toNat +
 (1 : Int) ∧
 ¬(waksF k).fst =
 k * (2 : Int) ^ k.toNat - (1 : Int) * (2 : Int) ^ k.toNat +
 (1 : Int) ∧
 ¬(waksF k).fst =
 k * (2 : Int) ^ k.toNat -
 (1 : Int) * (2 : Int) ^ k.toNat +
 (1 : Int) ∧
 false = true) ∧
 (¬¬(waksF k).fst =
 k * (2 : Int) ^ k.toNat - (1 : Int) * (2 : Int) ^ k.toNat +
 (1 : Int) →
 ¬¬(waksF k).fst =
 k * (2 : Int) ^ k.toNat - (1 : Int) * (2 : Int) ^ k.toNat +
 (1 : Int) ∧
 ¬¬(waksF k).fst =
 k * (2 : Int) ^ k.toNat -
 (1 : Int) * (2 : Int) ^ k.toNat +
 (1 : Int) ∧
 ¬¬(waksF k).fst =
 k * (2 : Int) ^ k.toNat -
 (1 : Int) * (2 : Int) ^ k.toNat +
 (1 : Int) ∧
 True ∧
 ((!decide (ClosP c.fst c.snd.fst c.snd.snd)) = true →
 (!decide (ClosP c.fst c.snd.fst c.snd.snd)) = true ∧
 ((!(strictF c.fst c.snd.fst c.snd.snd).fst) = true →
 (!(strictF c.fst c.snd.fst c.snd.snd).fst) =
 true ∧
 (!(strictF c.fst c.snd.fst c.snd.snd).fst) =
 true ∧
 ((strictF c.fst c.snd.fst c.snd.snd).snd =
 (1 : Int) →
 (strictF c.fst c.snd.fst c.snd.snd).snd =
 (1 : Int) ∧
 (strictF c.fst c.snd.fst
 c.snd.snd).snd =
 (1 : Int) ∧
 (strictF c.fst c.snd.fst
 c.snd.snd).snd =
 (1 : Int) ∧
 True ∧ true = true) ∧
 (¬(strictF c.fst c.snd.fst c.snd.snd).snd =
 (1 : Int) →
 ¬(strictF c.fst c.snd.fst c.snd.snd).snd =
 (1 : Int) ∧
 ¬(strictF c.fst c.snd.fst
 c.snd.snd).snd =
 (1 : Int) ∧
 ¬(strictF c.fst c.snd.fst
 c.snd.snd).snd =
 (1 : Int) ∧
 false = true)) ∧
 ((!(strictF c.fst c.snd.fst c.snd.snd).fst) =
 false →
 (!(strictF c.fst c.snd.fst c.snd.snd).fst) =
 false ∧
 (!(strictF c.fst c.snd.fst c.snd.snd).fst) =
 false ∧
 false = true)) ∧
 ((!decide (ClosP c.fst c.snd.fst c.snd.snd)) = false →
 (!decide (ClosP c.fst c.snd.fst c.snd.snd)) = false ∧
 Fits IntKind.i64 ((2 : Int) * c.fst) ∧
 Fits IntKind.i64 ((2 : Int) * c.fst - (1 : Int)) ∧
 ((2 : Int) * c.fst - (1 : Int) ≤ c.snd.snd →
 (2 : Int) * c.fst - (1 : Int) ≤ c.snd.snd ∧
 (2 : Int) * c.fst - (1 : Int) ≤ c.snd.snd ∧
 ((strictF c.fst c.snd.fst c.snd.snd).fst =
 true →
 (strictF c.fst c.snd.fst
 c.snd.snd).fst =
 true ∧
 (strictF c.fst c.snd.fst
 c.snd.snd).fst =
 true ∧
 ((strictF c.fst c.snd.fst
 c.snd.snd).snd =
 (0 : Int) →
 (strictF c.fst c.snd.fst
 c.snd.snd).snd =
 (0 : Int) ∧
 (strictF c.fst c.snd.fst
 c.snd.snd).snd =
 (0 : Int) ∧
 (strictF c.fst c.snd.fst
 c.snd.snd).snd =
 (0 : Int) ∧
 True ∧ true = true) ∧
 (¬(strictF c.fst c.snd.fst
 c.snd.snd).snd =
 (0 : Int) →
 ¬(strictF c.fst c.snd.fst
 c.snd.snd).snd =
 (0 : Int) ∧
 ¬(strictF c.fst c.snd.fst
 c.snd.snd).snd =
 (0 : Int) ∧
 ¬(strictF c.fst c.snd.fst
 c.snd.snd).snd =
 (0 : Int) ∧
 false = true)) ∧
 (¬(strictF c.fst c.snd.fst
 c.snd.snd).fst =
 true →
 ¬(strictF c.fst c.snd.fst
 c.snd.snd).fst =
 true ∧
 ¬(strictF c.fst c.snd.fst
 c.snd.snd).fst =
 true ∧
 false = true)) ∧
 (¬(2 : Int) * c.fst - (1 : Int) ≤ c.snd.snd →
 ¬(2 : Int) * c.fst - (1 : Int) ≤ c.snd.snd ∧
 ¬(2 : Int) * c.fst - (1 : Int) ≤ c.snd.snd ∧
 (c.snd.fst = (1 : Int) →
 c.snd.fst = (1 : Int) ∧
 c.snd.fst = (1 : Int) ∧
 ((strictF c.fst c.snd.fst
 c.snd.snd).fst =
 decide (c.fst ≤ c.snd.snd) →
 (strictF c.fst c.snd.fst
 c.snd.snd).fst =
 decide
 (c.fst ≤ c.snd.snd) ∧
 (strictF c.fst c.snd.fst
 c.snd.snd).fst =
 decide
 (c.fst ≤ c.snd.snd) ∧
 ((strictF c.fst c.snd.fst
 c.snd.snd).snd =
 (0 : Int) →
 (strictF c.fst
 c.snd.fst
 c.snd.snd).snd =
 (0 : Int) ∧
 (strictF c.fst
 c.snd.fst
 c.snd.snd).snd =
 (0 : Int) ∧
 (strictF c.fst
 c.snd.fst
 c.snd.snd).snd =
 (0 : Int) ∧
 True ∧
 true = true) ∧
 (¬(strictF c.fst
 c.snd.fst
 c.snd.snd).snd =
 (0 : Int) →
 ¬(strictF c.fst
 c.snd.fst
 c.snd.snd).snd =
 (0 : Int) ∧
 ¬(strictF c.fst
 c.snd.fst
 c.snd.snd).snd =
 (0 : Int) ∧
 ¬(strictF c.fst
 c.snd.fst
 c.snd.snd).snd =
 (0 : Int) ∧
 false = true)) ∧
 (¬(strictF c.fst c.snd.fst
 c.snd.snd).fst =
 decide
 (c.fst ≤ c.snd.snd) →
 ¬(strictF c.fst c.snd.fst
 c.snd.snd).fst =
 decide
 (c.fst ≤ c.snd.snd) ∧
 ¬(strictF c.fst c.snd.fst
 c.snd.snd).fst =
 decide
 (c.fst ≤
 c.snd.snd) ∧
 false = true)) ∧
 (¬c.snd.fst = (1 : Int) →
 ¬c.snd.fst = (1 : Int) ∧
 ¬c.snd.fst = (1 : Int) ∧
 ((strictF c.fst c.snd.fst
 c.snd.snd).fst =
 false →
 (strictF c.fst c.snd.fst
 c.snd.snd).fst =
 false ∧
 (strictF c.fst c.snd.fst
 c.snd.snd).fst =
 false ∧
 ((strictF c.fst c.snd.fst
 c.snd.snd).snd =
 (0 : Int) →
 (strictF c.fst
 c.snd.fst
 c.snd.snd).snd =
 (0 : Int) ∧
 (strictF c.fst
 c.snd.fst
 c.snd.snd).snd =
 (0 : Int) ∧
 (strictF c.fst
 c.snd.fst
 c.snd.snd).snd =
 (0 : Int) ∧
 True ∧
 true = true) ∧
 (¬(strictF c.fst
 c.snd.fst
 c.snd.snd).snd =
 (0 : Int) →
 ¬(strictF c.fst
 c.snd.fst
 c.snd.snd).snd =
 (0 : Int) ∧
 ¬(strictF c.fst
 c.snd.fst
 c.snd.snd).snd =
 (0 : Int) ∧
 ¬(strictF c.fst
 c.snd.fst
 c.snd.snd).snd =
 (0 : Int) ∧
 false = true)) ∧
 (¬(strictF c.fst c.snd.fst
 c.snd.snd).fst =
 false →
 ¬(strictF c.fst c.snd.fst
 c.snd.snd).fst =
 false ∧
 ¬(strictF c.fst c.snd.fst
 c.snd.snd).fst =
 false ∧
 false = true)))))) ∧
 (¬(waksF k).snd = (0 : Int) →
 ¬(waksF k).snd = (0 : Int) ∧
 ¬(waksF k).snd = (0 : Int) ∧
 True ∧
 ((!decide (ClosP c.fst c.snd.fst c.snd.snd)) = true →
 (!decide (ClosP c.fst c.snd.fst c.snd.snd)) = true ∧
 ((!(strictF c.fst c.snd.fst c.snd.snd).fst) = true →
 (!(strictF c.fst c.snd.fst c.snd.snd).fst) = true ∧
 (!(strictF c.fst c.snd.fst c.snd.snd).fst) = true ∧
 ((strictF c.fst c.snd.fst c.snd.snd).snd = (1 : Int) →
 (strictF c.fst c.snd.fst c.snd.snd).snd = (1 : Int) ∧
 (strictF c.fst c.snd.fst c.snd.snd).snd = (1 : Int) ∧
 (strictF c.fst c.snd.fst c.snd.snd).snd = (1 : Int) ∧
 True ∧ true = true) ∧
 (¬(strictF c.fst c.snd.fst c.snd.snd).snd = (1 : Int) →
 ¬(strictF c.fst c.snd.fst c.snd.snd).snd = (1 : Int) ∧
 ¬(strictF c.fst c.snd.fst c.snd.snd).snd = (1 : Int) ∧
 ¬(strictF c.fst c.snd.fst c.snd.snd).snd = (1 : Int) ∧
 false = true)) ∧
 ((!(strictF c.fst c.snd.fst c.snd.snd).fst) = false →
 (!(strictF c.fst c.snd.fst c.snd.snd).fst) = false ∧
 (!(strictF c.fst c.snd.fst c.snd.snd).fst) = false ∧ false = true)) ∧
 ((!decide (ClosP c.fst c.snd.fst c.snd.snd)) = false →
 (!decide (ClosP c.fst c.snd.fst c.snd.snd)) = false ∧
 Fits IntKind.i64 ((2 : Int) * c.fst) ∧
 Fits IntKind.i64 ((2 : Int) * c.fst - (1 : Int)) ∧
 ((2 : Int) * c.fst - (1 : Int) ≤ c.snd.snd →
 (2 : Int) * c.fst - (1 : Int) ≤ c.snd.snd ∧
 (2 : Int) * c.fst - (1 : Int) ≤ c.snd.snd ∧
 ((strictF c.fst c.snd.fst c.snd.snd).fst = true →
 (strictF c.fst c.snd.fst c.snd.snd).fst = true ∧
 (strictF c.fst c.snd.fst c.snd.snd).fst = true ∧
 ((strictF c.fst c.snd.fst c.snd.snd).snd = (0 : Int) →
 (strictF c.fst c.snd.fst c.snd.snd).snd =
 (0 : Int) ∧
 (strictF c.fst c.snd.fst c.snd.snd).snd =
 (0 : Int) ∧
 (strictF c.fst c.snd.fst c.snd.snd).snd =
 (0 : Int) ∧
 True ∧ true = true) ∧
 (¬(strictF c.fst c.snd.fst c.snd.snd).snd =
 (0 : Int) →
 ¬(strictF c.fst c.snd.fst c.snd.snd).snd =
 (0 : Int) ∧
 ¬(strictF c.fst c.snd.fst c.snd.snd).snd =
 (0 : Int) ∧
 ¬(strictF c.fst c.snd.fst c.snd.snd).snd =
 (0 : Int) ∧
 false = true)) ∧
 (¬(strictF c.fst c.snd.fst c.snd.snd).fst = true →
 ¬(strictF c.fst c.snd.fst c.snd.snd).fst = true ∧
 ¬(strictF c.fst c.snd.fst c.snd.snd).fst = true ∧
 false = true)) ∧
 (¬(2 : Int) * c.fst - (1 : Int) ≤ c.snd.snd →
 ¬(2 : Int) * c.fst - (1 : Int) ≤ c.snd.snd ∧
 ¬(2 : Int) * c.fst - (1 : Int) ≤ c.snd.snd ∧
 (c.snd.fst = (1 : Int) →
 c.snd.fst = (1 : Int) ∧
 c.snd.fst = (1 : Int) ∧
 ((strictF c.fst c.snd.fst c.snd.snd).fst =
 decide (c.fst ≤ c.snd.snd) →
 (strictF c.fst c.snd.fst c.snd.snd).fst =
 decide (c.fst ≤ c.snd.snd) ∧
 (strictF c.fst c.snd.fst c.snd.snd).fst =
 decide (c.fst ≤ c.snd.snd) ∧
 ((strictF c.fst c.snd.fst c.snd.snd).snd =
 (0 : Int) →
 (strictF c.fst c.snd.fst c.snd.snd).snd =
 (0 : Int) ∧
 (strictF c.fst c.snd.fst c.snd.snd).snd =
 (0 : Int) ∧
 (strictF c.fst c.snd.fst
 c.snd.snd).snd =
 (0 : Int) ∧
 True ∧ true = true) ∧
 (¬(strictF c.fst c.snd.fst c.snd.snd).snd =
 (0 : Int) →
 ¬(strictF c.fst c.snd.fst c.snd.snd).snd =
 (0 : Int) ∧
 ¬(strictF c.fst c.snd.fst c.snd.snd).snd =
 (0 : Int) ∧
 ¬(strictF c.fst c.snd.fst
 c.snd.snd).snd =
 (0 : Int) ∧
 false = true)) ∧
 (¬(strictF c.fst c.snd.fst c.snd.snd).fst =
 decide (c.fst ≤ c.snd.snd) →
 ¬(strictF c.fst c.snd.fst c.snd.snd).fst =
 decide (c.fst ≤ c.snd.snd) ∧
 ¬(strictF c.fst c.snd.fst c.snd.snd).fst =
 decide (c.fst ≤ c.snd.snd) ∧
 false = true)) ∧
 (¬c.snd.fst = (1 : Int) →
 ¬c.snd.fst = (1 : Int) ∧
 ¬c.snd.fst = (1 : Int) ∧
 ((strictF c.fst c.snd.fst c.snd.snd).fst = false →
 (strictF c.fst c.snd.fst c.snd.snd).fst = false ∧
 (strictF c.fst c.snd.fst c.snd.snd).fst = false ∧
 ((strictF c.fst c.snd.fst c.snd.snd).snd =
 (0 : Int) →
 (strictF c.fst c.snd.fst c.snd.snd).snd =
 (0 : Int) ∧
 (strictF c.fst c.snd.fst c.snd.snd).snd =
 (0 : Int) ∧
 (strictF c.fst c.snd.fst
 c.snd.snd).snd =
 (0 : Int) ∧
 True ∧ true = true) ∧
 (¬(strictF c.fst c.snd.fst c.snd.snd).snd =
 (0 : Int) →
 ¬(strictF c.fst c.snd.fst c.snd.snd).snd =
 (0 : Int) ∧
 ¬(strictF c.fst c.snd.fst c.snd.snd).snd =
 (0 : Int) ∧
 ¬(strictF c.fst c.snd.fst
 c.snd.snd).snd =
 (0 : Int) ∧
 false = true)) ∧
 (¬(strictF c.fst c.snd.fst c.snd.snd).fst = false →
 ¬(strictF c.fst c.snd.fst c.snd.snd).fst = false ∧
 ¬(strictF c.fst c.snd.fst c.snd.snd).fst = false ∧
 false = true)))))))) ∧
 (¬¬(waksF k).snd = (0 : Int) →
 ¬¬(waksF k).snd = (0 : Int) ∧
 ¬¬(waksF k).snd = (0 : Int) ∧
 ((waksF k).snd = (0 : Int) →
 (waksF k).snd = (0 : Int) ∧
 (waksF k).snd = (0 : Int) ∧
 ((0 : Int) ≤ k ∧ k < (64 : Int)) ∧
 Fits IntKind.i64 (k * (2 : Int) ^ k.toNat) ∧
 ((0 : Int) ≤ k ∧ k < (64 : Int)) ∧
 Fits IntKind.i64 ((1 : Int) * (2 : Int) ^ k.toNat) ∧
 Fits IntKind.i64 (k * (2 : Int) ^ k.toNat - (1 : Int) * (2 : Int) ^ k.toNat) ∧
 Fits IntKind.i64 (k * (2 : Int) ^ k.toNat - (1 : Int) * (2 : Int) ^ k.toNat + (1 : Int)) ∧
 (¬(waksF k).fst = k * (2 : Int) ^ k.toNat - (1 : Int) * (2 : Int) ^ k.toNat + (1 : Int) →
 ¬(waksF k).fst = k * (2 : Int) ^ k.toNat - (1 : Int) * (2 : Int) ^ k.toNat + (1 : Int) ∧
 ¬(waksF k).fst = k * (2 : Int) ^ k.toNat - (1 : Int) * (2 : Int) ^ k.toNat + (1 : Int) ∧
 ¬(waksF k).fst =
 k * (2 : Int) ^ k.toNat - (1 : Int) * (2 : Int) ^ k.toNat + (1 : Int) ∧
 false = true) ∧
 (¬¬(waksF k).fst = k * (2 : Int) ^ k.toNat - (1 : Int) * (2 : Int) ^ k.toNat + (1 : Int) →
 ¬¬(waksF k).fst = k * (2 : Int) ^ k.toNat - (1 : Int) * (2 : Int) ^ k.toNat + (1 : Int) ∧
 ¬¬(waksF k).fst =
 k * (2 : Int) ^ k.toNat - (1 : Int) * (2 : Int) ^ k.toNat + (1 : Int) ∧
 ¬¬(waksF k).fst =
 k * (2 : Int) ^ k.toNat - (1 : Int) * (2 : Int) ^ k.toNat + (1 : Int) ∧
 True ∧
 ((!decide (ClosP c.fst c.snd.fst c.snd.snd)) = true →
 (!decide (ClosP c.fst c.snd.fst c.snd.snd)) = true ∧
 ((!(strictF c.fst c.snd.fst c.snd.snd).fst) = true →
 (!(strictF c.fst c.snd.fst c.snd.snd).fst) = true ∧
 (!(strictF c.fst c.snd.fst c.snd.snd).fst) = true ∧
 ((strictF c.fst c.snd.fst c.snd.snd).snd = (1 : Int) →
 (strictF c.fst c.snd.fst c.snd.snd).snd = (1 : Int) ∧
 (strictF c.fst c.snd.fst c.snd.snd).snd = (1 : Int) ∧
 (strictF c.fst c.snd.fst c.snd.snd).snd = (1 : Int) ∧
 True ∧ true = true) ∧
 (¬(strictF c.fst c.snd.fst c.snd.snd).snd = (1 : Int) →
 ¬(strictF c.fst c.snd.fst c.snd.snd).snd = (1 : Int) ∧
 ¬(strictF c.fst c.snd.fst c.snd.snd).snd = (1 : Int) ∧
 ¬(strictF c.fst c.snd.fst c.snd.snd).snd = (1 : Int) ∧
 false = true)) ∧
 ((!(strictF c.fst c.snd.fst c.snd.snd).fst) = false →
 (!(strictF c.fst c.snd.fst c.snd.snd).fst) = false ∧
 (!(strictF c.fst c.snd.fst c.snd.snd).fst) = false ∧ false = true)) ∧
 ((!decide (ClosP c.fst c.snd.fst c.snd.snd)) = false →
 (!decide (ClosP c.fst c.snd.fst c.snd.snd)) = false ∧
 Fits IntKind.i64 ((2 : Int) * c.fst) ∧
 Fits IntKind.i64 ((2 : Int) * c.fst - (1 : Int)) ∧
 ((2 : Int) * c.fst - (1 : Int) ≤ c.snd.snd →
 (2 : Int) * c.fst - (1 : Int) ≤ c.snd.snd ∧
 (2 : Int) * c.fst - (1 : Int) ≤ c.snd.snd ∧
 ((strictF c.fst c.snd.fst c.snd.snd).fst = true →
 (strictF c.fst c.snd.fst c.snd.snd).fst = true ∧
 (strictF c.fst c.snd.fst c.snd.snd).fst = true ∧
 ((strictF c.fst c.snd.fst c.snd.snd).snd = (0 : Int) →
 (strictF c.fst c.snd.fst c.snd.snd).snd =
 (0 : Int) ∧
 (strictF c.fst c.snd.fst c.snd.snd).snd =
 (0 : Int) ∧
 (strictF c.fst c.snd.fst c.snd.snd).snd =
 (0 : Int) ∧
 True ∧ true = true) ∧
 (¬(strictF c.fst c.snd.fst c.snd.snd).snd =
 (0 : Int) →
 ¬(strictF c.fst c.snd.fst c.snd.snd).snd =
 (0 : Int) ∧
 ¬(strictF c.fst c.snd.fst c.snd.snd).snd =
 (0 : Int) ∧
 ¬(strictF c.fst c.snd.fst c.snd.snd).snd =
 (0 : Int) ∧
 false = true)) ∧
 (¬(strictF c.fst c.snd.fst c.snd.snd).fst = true →
 ¬(strictF c.fst c.snd.fst c.snd.snd).fst = true ∧
 ¬(strictF c.fst c.snd.fst c.snd.snd).fst = true ∧
 false = true)) ∧
 (¬(2 : Int) * c.fst - (1 : Int) ≤ c.snd.snd →
 ¬(2 : Int) * c.fst - (1 : Int) ≤ c.snd.snd ∧
 ¬(2 : Int) * c.fst - (1 : Int) ≤ c.snd.snd ∧
 (c.snd.fst = (1 : Int) →
 c.snd.fst = (1 : Int) ∧
 c.snd.fst = (1 : Int) ∧
 ((strictF c.fst c.snd.fst c.snd.snd).fst =
 decide (c.fst ≤ c.snd.snd) →
 (strictF c.fst c.snd.fst c.snd.snd).fst =
 decide (c.fst ≤ c.snd.snd) ∧
 (strictF c.fst c.snd.fst c.snd.snd).fst =
 decide (c.fst ≤ c.snd.snd) ∧
 ((strictF c.fst c.snd.fst c.snd.snd).snd =
 (0 : Int) →
 (strictF c.fst c.snd.fst c.snd.snd).snd =
 (0 : Int) ∧
 (strictF c.fst c.snd.fst c.snd.snd).snd =
 (0 : Int) ∧
 (strictF c.fst c.snd.fst
 c.snd.snd).snd =
 (0 : Int) ∧
 True ∧ true = true) ∧
 (¬(strictF c.fst c.snd.fst c.snd.snd).snd =
 (0 : Int) →
 ¬(strictF c.fst c.snd.fst c.snd.snd).snd =
 (0 : Int) ∧
 ¬(strictF c.fst c.snd.fst c.snd.snd).snd =
 (0 : Int) ∧
 ¬(strictF c.fst c.snd.fst
 c.snd.snd).snd =
 (0 : Int) ∧
 false = true)) ∧
 (¬(strictF c.fst c.snd.fst c.snd.snd).fst =
 decide (c.fst ≤ c.snd.snd) →
 ¬(strictF c.fst c.snd.fst c.snd.snd).fst =
 decide (c.fst ≤ c.snd.snd) ∧
 ¬(strictF c.fst c.snd.fst c.snd.snd).fst =
 decide (c.fst ≤ c.snd.snd) ∧
 false = true)) ∧
 (¬c.snd.fst = (1 : Int) →
 ¬c.snd.fst = (1 : Int) ∧
 ¬c.snd.fst = (1 : Int) ∧
 ((strictF c.fst c.snd.fst c.snd.snd).fst = false →
 (strictF c.fst c.snd.fst c.snd.snd).fst = false ∧
 (strictF c.fst c.snd.fst c.snd.snd).fst = false ∧
 ((strictF c.fst c.snd.fst c.snd.snd).snd =
 (0 : Int) →
 (strictF c.fst c.snd.fst c.snd.snd).snd =
 (0 : Int) ∧
 (strictF c.fst c.snd.fst c.snd.snd).snd =
 (0 : Int) ∧
 (strictF c.fst c.snd.fst
 c.snd.snd).snd =
 (0 : Int) ∧
 True ∧ true = true) ∧
 (¬(strictF c.fst c.snd.fst c.snd.snd).snd =
 (0 : Int) →
 ¬(strictF c.fst c.snd.fst c.snd.snd).snd =
 (0 : Int) ∧
 ¬(strictF c.fst c.snd.fst c.snd.snd).snd =
 (0 : Int) ∧
 ¬(strictF c.fst c.snd.fst
 c.snd.snd).snd =
 (0 : Int) ∧
 false = true)) ∧
 (¬(strictF c.fst c.snd.fst c.snd.snd).fst = false →
 ¬(strictF c.fst c.snd.fst c.snd.snd).fst = false ∧
 ¬(strictF c.fst c.snd.fst c.snd.snd).fst = false ∧
 false = true)))))) ∧
 (¬(waksF k).snd = (0 : Int) →
 ¬(waksF k).snd = (0 : Int) ∧
 ¬(waksF k).snd = (0 : Int) ∧
 True ∧
 ((!decide (ClosP c.fst c.snd.fst c.snd.snd)) = true →
 (!decide (ClosP c.fst c.snd.fst c.snd.snd)) = true ∧
 ((!(strictF c.fst c.snd.fst c.snd.snd).fst) = true →
 (!(strictF c.fst c.snd.fst c.snd.snd).fst) = true ∧
 (!(strictF c.fst c.snd.fst c.snd.snd).fst) = true ∧
 ((strictF c.fst c.snd.fst c.snd.snd).snd = (1 : Int) →
 (strictF c.fst c.snd.fst c.snd.snd).snd = (1 : Int) ∧
 (strictF c.fst c.snd.fst c.snd.snd).snd = (1 : Int) ∧
 (strictF c.fst c.snd.fst c.snd.snd).snd = (1 : Int) ∧ True ∧ true = true) ∧
 (¬(strictF c.fst c.snd.fst c.snd.snd).snd = (1 : Int) →
 ¬(strictF c.fst c.snd.fst c.snd.snd).snd = (1 : Int) ∧
 ¬(strictF c.fst c.snd.fst c.snd.snd).snd = (1 : Int) ∧
 ¬(strictF c.fst c.snd.fst c.snd.snd).snd = (1 : Int) ∧ false = true)) ∧
 ((!(strictF c.fst c.snd.fst c.snd.snd).fst) = false →
 (!(strictF c.fst c.snd.fst c.snd.snd).fst) = false ∧
 (!(strictF c.fst c.snd.fst c.snd.snd).fst) = false ∧ false = true)) ∧
 ((!decide (ClosP c.fst c.snd.fst c.snd.snd)) = false →
 (!decide (ClosP c.fst c.snd.fst c.snd.snd)) = false ∧
 Fits IntKind.i64 ((2 : Int) * c.fst) ∧
 Fits IntKind.i64 ((2 : Int) * c.fst - (1 : Int)) ∧
 ((2 : Int) * c.fst - (1 : Int) ≤ c.snd.snd →
 (2 : Int) * c.fst - (1 : Int) ≤ c.snd.snd ∧
 (2 : Int) * c.fst - (1 : Int) ≤ c.snd.snd ∧
 ((strictF c.fst c.snd.fst c.snd.snd).fst = true →
 (strictF c.fst c.snd.fst c.snd.snd).fst = true ∧
 (strictF c.fst c.snd.fst c.snd.snd).fst = true ∧
 ((strictF c.fst c.snd.fst c.snd.snd).snd = (0 : Int) →
 (strictF c.fst c.snd.fst c.snd.snd).snd = (0 : Int) ∧
 (strictF c.fst c.snd.fst c.snd.snd).snd = (0 : Int) ∧
 (strictF c.fst c.snd.fst c.snd.snd).snd = (0 : Int) ∧
 True ∧ true = true) ∧
 (¬(strictF c.fst c.snd.fst c.snd.snd).snd = (0 : Int) →
 ¬(strictF c.fst c.snd.fst c.snd.snd).snd = (0 : Int) ∧
 ¬(strictF c.fst c.snd.fst c.snd.snd).snd = (0 : Int) ∧
 ¬(strictF c.fst c.snd.fst c.snd.snd).snd = (0 : Int) ∧
 false = true)) ∧
 (¬(strictF c.fst c.snd.fst c.snd.snd).fst = true →
 ¬(strictF c.fst c.snd.fst c.snd.snd).fst = true ∧
 ¬(strictF c.fst c.snd.fst c.snd.snd).fst = true ∧ false = true)) ∧
 (¬(2 : Int) * c.fst - (1 : Int) ≤ c.snd.snd →
 ¬(2 : Int) * c.fst - (1 : Int) ≤ c.snd.snd ∧
 ¬(2 : Int) * c.fst - (1 : Int) ≤ c.snd.snd ∧
 (c.snd.fst = (1 : Int) →
 c.snd.fst = (1 : Int) ∧
 c.snd.fst = (1 : Int) ∧
 ((strictF c.fst c.snd.fst c.snd.snd).fst = decide (c.fst ≤ c.snd.snd) →
 (strictF c.fst c.snd.fst c.snd.snd).fst = decide (c.fst ≤ c.snd.snd) ∧
 (strictF c.fst c.snd.fst c.snd.snd).fst = decide (c.fst ≤ c.snd.snd) ∧
 ((strictF c.fst c.snd.fst c.snd.snd).snd = (0 : Int) →
 (strictF c.fst c.snd.fst c.snd.snd).snd = (0 : Int) ∧
 (strictF c.fst c.snd.fst c.snd.snd).snd = (0 : Int) ∧
 (strictF c.fst c.snd.fst c.snd.snd).snd = (0 : Int) ∧
 True ∧ true = true) ∧
 (¬(strictF c.fst c.snd.fst c.snd.snd).snd = (0 : Int) →
 ¬(strictF c.fst c.snd.fst c.snd.snd).snd = (0 : Int) ∧
 ¬(strictF c.fst c.snd.fst c.snd.snd).snd = (0 : Int) ∧
 ¬(strictF c.fst c.snd.fst c.snd.snd).snd = (0 : Int) ∧
 false = true)) ∧
 (¬(strictF c.fst c.snd.fst c.snd.snd).fst = decide (c.fst ≤ c.snd.snd) →
 ¬(strictF c.fst c.snd.fst c.snd.snd).fst = decide (c.fst ≤ c.snd.snd) ∧
 ¬(strictF c.fst c.snd.fst c.snd.snd).fst = decide (c.fst ≤ c.snd.snd) ∧
 false = true)) ∧
 (¬c.snd.fst = (1 : Int) →
 ¬c.snd.fst = (1 : Int) ∧
 ¬c.snd.fst = (1 : Int) ∧
 ((strictF c.fst c.snd.fst c.snd.snd).fst = false →
 (strictF c.fst c.snd.fst c.snd.snd).fst = false ∧
 (strictF c.fst c.snd.fst c.snd.snd).fst = false ∧
 ((strictF c.fst c.snd.fst c.snd.snd).snd = (0 : Int) →
 (strictF c.fst c.snd.fst c.snd.snd).snd = (0 : Int) ∧
 (strictF c.fst c.snd.fst c.snd.snd).snd = (0 : Int) ∧
 (strictF c.fst c.snd.fst c.snd.snd).snd = (0 : Int) ∧
 True ∧ true = true) ∧
 (¬(strictF c.fst c.snd.fst c.snd.snd).snd = (0 : Int) →
 ¬(strictF c.fst c.snd.fst c.snd.snd).snd = (0 : Int) ∧
 ¬(strictF c.fst c.snd.fst c.snd.snd).snd = (0 : Int) ∧
 ¬(strictF c.fst c.snd.fst c.snd.snd).snd = (0 : Int) ∧
 false = true)) ∧
 (¬(strictF c.fst c.snd.fst c.snd.snd).fst = false →
 ¬(strictF c.fst c.snd.fst c.snd.snd).fst = false ∧
 ¬(strictF c.fst c.snd.fst c.snd.snd).fst = false ∧
 false = true)))))))))) ∧
 ((!decide (PermP (List.take (13 : Nat) l) ((1 : Int) * (2 : Int) ^ k.toNat))) = false →
 (!decide (PermP (List.take (13 : Nat) l) ((1 : Int) * (2 : Int) ^ k.toNat))) = false ∧
 (!decide (PermP (List.take (13 : Nat) l) ((1 : Int) * (2 : Int) ^ k.toNat))) = false ∧
 ((1 : Int) ≤ k ∧ k ≤ (2 : Int) ∧ (List.take (13 : Nat) l).length ≤ (1000 : Nat)) ∧
 (¬(waysF k (List.take (13 : Nat) l)).fst = (↑(waysTo k.toNat (List.take (13 : Nat) l) ((2 : Nat) ^ swN k.toNat)) : Int) →
 ¬(waysF k (List.take (13 : Nat) l)).fst = (↑(waysTo k.toNat (List.take (13 : Nat) l) ((2 : Nat) ^ swN k.toNat)) : Int) ∧
 ¬(waysF k (List.take (13 : Nat) l)).fst = (↑(waysTo k.toNat (List.take (13 : Nat) l) ((2 : Nat) ^ swN k.toNat)) : Int) ∧ false = true) ∧
 (¬¬(waysF k (List.take (13 : Nat) l)).fst = (↑(waysTo k.toNat (List.take (13 : Nat) l) ((2 : Nat) ^ swN k.toNat)) : Int) →
 ¬¬(waysF k (List.take (13 : Nat) l)).fst = (↑(waysTo k.toNat (List.take (13 : Nat) l) ((2 : Nat) ^ swN k.toNat)) : Int) ∧
 ¬¬(waysF k (List.take (13 : Nat) l)).fst = (↑(waysTo k.toNat (List.take (13 : Nat) l) ((2 : Nat) ^ swN k.toNat)) : Int) ∧
 (¬(waysF k (List.take (13 : Nat) l)).snd = (0 : Int) →
 ¬(waysF k (List.take (13 : Nat) l)).snd = (0 : Int) ∧
 ¬(waysF k (List.take (13 : Nat) l)).snd = (0 : Int) ∧ ¬(waysF k (List.take (13 : Nat) l)).snd = (0 : Int) ∧ false = true) ∧
 (¬¬(waysF k (List.take (13 : Nat) l)).snd = (0 : Int) →
 ¬¬(waysF k (List.take (13 : Nat) l)).snd = (0 : Int) ∧
 ¬¬(waysF k (List.take (13 : Nat) l)).snd = (0 : Int) ∧
 ¬¬(waysF k (List.take (13 : Nat) l)).snd = (0 : Int) ∧
 True ∧
 (¬decide ((1 : Int) ≤ k ∧ k ≤ (20 : Int)) = decide ((waksF k).snd = (0 : Int)) →
 ¬decide ((1 : Int) ≤ k ∧ k ≤ (20 : Int)) = decide ((waksF k).snd = (0 : Int)) ∧
 ¬decide ((1 : Int) ≤ k ∧ k ≤ (20 : Int)) = decide ((waksF k).snd = (0 : Int)) ∧ false = true) ∧
 (¬¬decide ((1 : Int) ≤ k ∧ k ≤ (20 : Int)) = decide ((waksF k).snd = (0 : Int)) →
 ¬¬decide ((1 : Int) ≤ k ∧ k ≤ (20 : Int)) = decide ((waksF k).snd = (0 : Int)) ∧
 ¬¬decide ((1 : Int) ≤ k ∧ k ≤ (20 : Int)) = decide ((waksF k).snd = (0 : Int)) ∧
 (¬(waksF k).snd = (0 : Int) →
 ¬(waksF k).snd = (0 : Int) ∧
 ¬(waksF k).snd = (0 : Int) ∧
 (¬(waksF k).fst = (0 : Int) → ¬(waksF k).fst = (0 : Int) ∧ ¬(waksF k).fst = (0 : Int) ∧ false = true) ∧
 (¬¬(waksF k).fst = (0 : Int) →
 ¬¬(waksF k).fst = (0 : Int) ∧
 ¬¬(waksF k).fst = (0 : Int) ∧
 (¬(waksF k).snd = (1 : Int) →
 ¬(waksF k).snd = (1 : Int) ∧
 ¬(waksF k).snd = (1 : Int) ∧
 ¬(waksF k).snd = (1 : Int) ∧
 ¬(waksF k).snd = (1 : Int) ∧ ¬(waksF k).snd = (1 : Int) ∧ false = true) ∧
 (¬¬(waksF k).snd = (1 : Int) →
 ¬¬(waksF k).snd = (1 : Int) ∧
 ¬¬(waksF k).snd = (1 : Int) ∧
 ¬¬(waksF k).snd = (1 : Int) ∧
 ¬¬(waksF k).snd = (1 : Int) ∧
 ¬¬(waksF k).snd = (1 : Int) ∧
 ((waksF k).snd = (0 : Int) →
 (waksF k).snd = (0 : Int) ∧
 (waksF k).snd = (0 : Int) ∧
 ((0 : Int) ≤ k ∧ k < (64 : Int)) ∧
 Fits IntKind.i64 (k * (2 : Int) ^ k.toNat) ∧
 ((0 : Int) ≤ k ∧ k < (64 : Int)) ∧
 Fits IntKind.i64 ((1 : Int) * (2 : Int) ^ k.toNat) ∧
 Fits IntKind.i64
 (k * (2 : Int) ^ k.toNat - (1 : Int) * (2 : Int) ^ k.toNat) ∧
 Fits IntKind.i64
 (k * (2 : Int) ^ k.toNat - (1 : Int) * (2 : Int) ^ k.toNat +
 (1 : Int)) ∧
 (¬(waksF k).fst =
 k * (2 : Int) ^ k.toNat - (1 : Int) * (2 : Int) ^ k.toNat +
 (1 : Int) →
 ¬(waksF k).fst =
 k * (2 : Int) ^ k.toNat -
 (1 : Int) * (2 : Int) ^ k.toNat +
 (1 : Int) ∧
 ¬(waksF k).fst =
 k * (2 : Int) ^ k.toNat -
 (1 : Int) * (2 : Int) ^ k.toNat +
 (1 : Int) ∧
 ¬(waksF k).fst =
 k * (2 : Int) ^ k.toNat -
 (1 : Int) * (2 : Int) ^ k.toNat +
 (1 : Int) ∧
 false = true) ∧
 (¬¬(waksF k).fst =
 k * (2 : Int) ^ k.toNat -
 (1 : Int) * (2 : Int) ^ k.toNat +
 (1 : Int) →
 ¬¬(waksF k).fst =
 k * (2 : Int) ^ k.toNat -
 (1 : Int) * (2 : Int) ^ k.toNat +
 (1 : Int) ∧
 ¬¬(waksF k).fst =
 k * (2 : Int) ^ k.toNat -
 (1 : Int) * (2 : Int) ^ k.toNat +
 (1 : Int) ∧
 ¬¬(waksF k).fst =
 k * (2 : Int) ^ k.toNat -
 (1 : Int) * (2 : Int) ^ k.toNat +
 (1 : Int) ∧
 True ∧
 ((!decide (ClosP c.fst c.snd.fst c.snd.snd)) = true →
 (!decide (ClosP c.fst c.snd.fst c.snd.snd)) = true ∧
 ((!(strictF c.fst c.snd.fst c.snd.snd).fst) =
 true →
 (!(strictF c.fst c.snd.fst c.snd.snd).fst) =
 true ∧
 (!(strictF c.fst c.snd.fst c.snd.snd).fst) =
 true ∧
 ((strictF c.fst c.snd.fst c.snd.snd).snd =
 (1 : Int) →
 (strictF c.fst c.snd.fst
 c.snd.snd).snd =
 (1 : Int) ∧
 (strictF c.fst c.snd.fst
 c.snd.snd).snd =
 (1 : Int) ∧
 (strictF c.fst c.snd.fst
 c.snd.snd).snd =
 (1 : Int) ∧
 True ∧ true = true) ∧
 (¬(strictF c.fst c.snd.fst
 c.snd.snd).snd =
 (1 : Int) →
 ¬(strictF c.fst c.snd.fst
 c.snd.snd).snd =
 (1 : Int) ∧
 ¬(strictF c.fst c.snd.fst
 c.snd.snd).snd =
 (1 : Int) ∧
 ¬(strictF c.fst c.snd.fst
 c.snd.snd).snd =
 (1 : Int) ∧
 false = true)) ∧
 ((!(strictF c.fst c.snd.fst c.snd.snd).fst) =
 false →
 (!(strictF c.fst c.snd.fst c.snd.snd).fst) =
 false ∧
 (!(strictF c.fst c.snd.fst c.snd.snd).fst) =
 false ∧
 false = true)) ∧
 ((!decide (ClosP c.fst c.snd.fst c.snd.snd)) = false →
 (!decide (ClosP c.fst c.snd.fst c.snd.snd)) =
 false ∧
 Fits IntKind.i64 ((2 : Int) * c.fst) ∧
 Fits IntKind.i64
 ((2 : Int) * c.fst - (1 : Int)) ∧
 ((2 : Int) * c.fst - (1 : Int) ≤ c.snd.snd →
 (2 : Int) * c.fst - (1 : Int) ≤
 c.snd.snd ∧
 (2 : Int) * c.fst - (1 : Int) ≤
 c.snd.snd ∧
 ((strictF c.fst c.snd.fst
 c.snd.snd).fst =
 true →
 (strictF c.fst c.snd.fst
 c.snd.snd).fst =
 true ∧
 (strictF c.fst c.snd.fst
 c.snd.snd).fst =
 true ∧
 ((strictF c.fst c.snd.fst
 c.snd.snd).snd =
 (0 : Int) →
 (strictF c.fst c.snd.fst
 c.snd.snd).snd =
 (0 : Int) ∧
 (strictF c.fst c.snd.fst
 c.snd.snd).snd =
 (0 : Int) ∧
 (strictF c.fst
 c.snd.fst
 c.snd.snd).snd =
 (0 : Int) ∧
 True ∧
 true = true) ∧
 (¬(strictF c.fst c.snd.fst
 c.snd.snd).snd =
 (0 : Int) →
 ¬(strictF c.fst c.snd.fst
 c.snd.snd).snd =
 (0 : Int) ∧
 ¬(strictF c.fst
 c.snd.fst
 c.snd.snd).snd =
 (0 : Int) ∧
 ¬(strictF c.fst
 c.snd.fst
 c.snd.snd).snd =
 (0 : Int) ∧
 false = true)) ∧
 (¬(strictF c.fst c.snd.fst
 c.snd.snd).fst =
 true →
 ¬(strictF c.fst c.snd.fst
 c.snd.snd).fst =
 true ∧
 ¬(strictF c.fst c.snd.fst
 c.snd.snd).fst =
 true ∧
 false = true)) ∧
 (¬(2 : Int) * c.fst - (1 : Int) ≤
 c.snd.snd →
 ¬(2 : Int) * c.fst - (1 : Int) ≤
 c.snd.snd ∧
 ¬(2 : Int) * c.fst - (1 : Int) ≤
 c.snd.snd ∧
 (c.snd.fst = (1 : Int) →
 c.snd.fst = (1 : Int) ∧
 c.snd.fst = (1 : Int) ∧
 ((strictF c.fst c.snd.fst
 c.snd.snd).fst =
 decide
 (c.fst ≤ c.snd.snd) →
 (strictF c.fst c.snd.fst
 c.snd.snd).fst =
 decide
 (c.fst ≤
 c.snd.snd) ∧
 (strictF c.fst c.snd.fst
 c.snd.snd).fst =
 decide
 (c.fst ≤
 c.snd.snd) ∧
 ((strictF c.fst
 c.snd.fst
 c.snd.snd).snd =
 (0 : Int) →
 (strictF c.fst
 c.snd.fst
 c.snd.snd).snd =
 (0 : Int) ∧
 (strictF c.fst
 c.snd.fst
 c.snd.snd).snd =
 (0 : Int) ∧
 (strictF c.fst
 c.snd.fst
 c.snd.snd).snd =
 (0 :
 Int) ∧
 True ∧
 true =
 true) ∧
 (¬(strictF c.fst
 c.snd.fst
 c.snd.snd).snd =
 (0 : Int) →
 ¬(strictF c.fst
 c.snd.fst
 c.snd.snd).snd =
 (0 : Int) ∧
 ¬(strictF c.fst
 c.snd.fst
 c.snd.snd).snd =
 (0 :
 Int) ∧
 ¬(strictF
 c.fst
 c.snd.fst
 c.snd.snd).snd =
 (0 :
 Int) ∧
 false =
 true)) ∧
 (¬(strictF c.fst c.snd.fst
 c.snd.snd).fst =
 decide
 (c.fst ≤
 c.snd.snd) →
 ¬(strictF c.fst c.snd.fst
 c.snd.snd).fst =
 decide
 (c.fst ≤
 c.snd.snd) ∧
 ¬(strictF c.fst
 c.snd.fst
 c.snd.snd).fst =
 decide
 (c.fst ≤
 c.snd.snd) ∧
 false = true)) ∧
 (¬c.snd.fst = (1 : Int) →
 ¬c.snd.fst = (1 : Int) ∧
 ¬c.snd.fst = (1 : Int) ∧
 ((strictF c.fst c.snd.fst
 c.snd.snd).fst =
 false →
 (strictF c.fst c.snd.fst
 c.snd.snd).fst =
 false ∧
 (strictF c.fst c.snd.fst
 c.snd.snd).fst =
 false ∧
 ((strictF c.fst
 c.snd.fst
 c.snd.snd).snd =
 (0 : Int) →
 (strictF c.fst
 c.snd.fst
 c.snd.snd).snd =
 (0 : Int) ∧
 (strictF c.fst
 c.snd.fst
 c.snd.snd).snd =
 (0 : Int) ∧
 (strictF c.fst
 c.snd.fst
 c.snd.snd).snd =
 (0 :
 Int) ∧
 True ∧
 true =
 true) ∧
 (¬(strictF c.fst
 c.snd.fst
 c.snd.snd).snd =
 (0 : Int) →
 ¬(strictF c.fst
 c.snd.fst
 c.snd.snd).snd =
 (0 : Int) ∧
 ¬(strictF c.fst
 c.snd.fst
 c.snd.snd).snd =
 (0 :
 Int) ∧
 ¬(strictF
 c.fst
 c.snd.fst
 c.snd.snd).snd =
 (0 :
 Int) ∧
 false =
 true)) ∧
 (¬(strictF c.fst c.snd.fst
 c.snd.snd).fst =
 false →
 ¬(strictF c.fst c.snd.fst
 c.snd.snd).fst =
 false ∧
 ¬(strictF c.fst
 c.snd.fst
 c.snd.snd).fst =
 false ∧
 false = true)))))) ∧
 (¬(waksF k).snd = (0 : Int) →
 ¬(waksF k).snd = (0 : Int) ∧
 ¬(waksF k).snd = (0 : Int) ∧
 True ∧
 ((!decide (ClosP c.fst c.snd.fst c.snd.snd)) = true →
 (!decide (ClosP c.fst c.snd.fst c.snd.snd)) = true ∧
 ((!(strictF c.fst c.snd.fst c.snd.snd).fst) = true →
 (!(strictF c.fst c.snd.fst c.snd.snd).fst) = true ∧
 (!(strictF c.fst c.snd.fst c.snd.snd).fst) = true ∧
 ((strictF c.fst c.snd.fst c.snd.snd).snd = (1 : Int) →
 (strictF c.fst c.snd.fst c.snd.snd).snd = (1 : Int) ∧
 (strictF c.fst c.snd.fst c.snd.snd).snd = (1 : Int) ∧
 (strictF c.fst c.snd.fst c.snd.snd).snd = (1 : Int) ∧
 True ∧ true = true) ∧
 (¬(strictF c.fst c.snd.fst c.snd.snd).snd = (1 : Int) →
 ¬(strictF c.fst c.snd.fst c.snd.snd).snd = (1 : Int) ∧
 ¬(strictF c.fst c.snd.fst c.snd.snd).snd = (1 : Int) ∧
 ¬(strictF c.fst c.snd.fst c.snd.snd).snd = (1 : Int) ∧
 false = true)) ∧
 ((!(strictF c.fst c.snd.fst c.snd.snd).fst) = false →
 (!(strictF c.fst c.snd.fst c.snd.snd).fst) = false ∧
 (!(strictF c.fst c.snd.fst c.snd.snd).fst) = false ∧
 false = true)) ∧
 ((!decide (ClosP c.fst c.snd.fst c.snd.snd)) = false →
 (!decide (ClosP c.fst c.snd.fst c.snd.snd)) = false ∧
 Fits IntKind.i64 ((2 : Int) * c.fst) ∧
 Fits IntKind.i64 ((2 : Int) * c.fst - (1 : Int)) ∧
 ((2 : Int) * c.fst - (1 : Int) ≤ c.snd.snd →
 (2 : Int) * c.fst - (1 : Int) ≤ c.snd.snd ∧
 (2 : Int) * c.fst - (1 : Int) ≤ c.snd.snd ∧
 ((strictF c.fst c.snd.fst c.snd.snd).fst = true →
 (strictF c.fst c.snd.fst c.snd.snd).fst = true ∧
 (strictF c.fst c.snd.fst c.snd.snd).fst = true ∧
 ((strictF c.fst c.snd.fst c.snd.snd).snd =
 (0 : Int) →
 (strictF c.fst c.snd.fst c.snd.snd).snd =
 (0 : Int) ∧
 (strictF c.fst c.snd.fst c.snd.snd).snd =
 (0 : Int) ∧
 (strictF c.fst c.snd.fst c.snd.snd).snd =
 (0 : Int) ∧
 True ∧ true = true) ∧
 (¬(strictF c.fst c.snd.fst c.snd.snd).snd =
 (0 : Int) →
 ¬(strictF c.fst c.snd.fst c.snd.snd).snd =
 (0 : Int) ∧
 ¬(strictF c.fst c.snd.fst c.snd.snd).snd =
 (0 : Int) ∧
 ¬(strictF c.fst c.snd.fst c.snd.snd).snd =
 (0 : Int) ∧
 false = true)) ∧
 (¬(strictF c.fst c.snd.fst c.snd.snd).fst = true →
 ¬(strictF c.fst c.snd.fst c.snd.snd).fst = true ∧
 ¬(strictF c.fst c.snd.fst c.snd.snd).fst = true ∧
 false = true)) ∧
 (¬(2 : Int) * c.fst - (1 : Int) ≤ c.snd.snd →
 ¬(2 : Int) * c.fst - (1 : Int) ≤ c.snd.snd ∧
 ¬(2 : Int) * c.fst - (1 : Int) ≤ c.snd.snd ∧
 (c.snd.fst = (1 : Int) →
 c.snd.fst = (1 : Int) ∧
 c.snd.fst = (1 : Int) ∧
 ((strictF c.fst c.snd.fst c.snd.snd).fst =
 decide (c.fst ≤ c.snd.snd) →
 (strictF c.fst c.snd.fst c.snd.snd).fst =
 decide (c.fst ≤ c.snd.snd) ∧
 (strictF c.fst c.snd.fst c.snd.snd).fst =
 decide (c.fst ≤ c.snd.snd) ∧
 ((strictF c.fst c.snd.fst c.snd.snd).snd =
 (0 : Int) →
 (strictF c.fst c.snd.fst
 c.snd.snd).snd =
 (0 : Int) ∧
 (strictF c.fst c.snd.fst
 c.snd.snd).snd =
 (0 : Int) ∧
 (strictF c.fst c.snd.fst
 c.snd.snd).snd =
 (0 : Int) ∧
 True ∧ true = true) ∧
 (¬(strictF c.fst c.snd.fst
 c.snd.snd).snd =
 (0 : Int) →
 ¬(strictF c.fst c.snd.fst
 c.snd.snd).snd =
 (0 : Int) ∧
 ¬(strictF c.fst c.snd.fst
 c.snd.snd).snd =
 (0 : Int) ∧
 ¬(strictF c.fst c.snd.fst
 c.snd.snd).snd =
 (0 : Int) ∧
 false = true)) ∧
 (¬(strictF c.fst c.snd.fst c.snd.snd).fst =
 decide (c.fst ≤ c.snd.snd) →
 ¬(strictF c.fst c.snd.fst c.snd.snd).fst =
 decide (c.fst ≤ c.snd.snd) ∧
 ¬(strictF c.fst c.snd.fst c.snd.snd).fst =
 decide (c.fst ≤ c.snd.snd) ∧
 false = true)) ∧
 (¬c.snd.fst = (1 : Int) →
 ¬c.snd.fst = (1 : Int) ∧
 ¬c.snd.fst = (1 : Int) ∧
 ((strictF c.fst c.snd.fst c.snd.snd).fst = false →
 (strictF c.fst c.snd.fst c.snd.snd).fst =
 false ∧
 (strictF c.fst c.snd.fst c.snd.snd).fst =
 false ∧
 ((strictF c.fst c.snd.fst c.snd.snd).snd =
 (0 : Int) →
 (strictF c.fst c.snd.fst
 c.snd.snd).snd =
 (0 : Int) ∧
 (strictF c.fst c.snd.fst
 c.snd.snd).snd =
 (0 : Int) ∧
 (strictF c.fst c.snd.fst
 c.snd.snd).snd =
 (0 : Int) ∧
 True ∧ true = true) ∧
 (¬(strictF c.fst c.snd.fst
 c.snd.snd).snd =
 (0 : Int) →
 ¬(strictF c.fst c.snd.fst
 c.snd.snd).snd =
 (0 : Int) ∧
 ¬(strictF c.fst c.snd.fst
 c.snd.snd).snd =
 (0 : Int) ∧
 ¬(strictF c.fst c.snd.fst
 c.snd.snd).snd =
 (0 : Int) ∧
 false = true)) ∧
 (¬(strictF c.fst c.snd.fst c.snd.snd).fst =
 false →
 ¬(strictF c.fst c.snd.fst c.snd.snd).fst =
 false ∧
 ¬(strictF c.fst c.snd.fst c.snd.snd).fst =
 false ∧
 false = true)))))))) ∧
 (¬¬(waksF k).snd = (0 : Int) →
 ¬¬(waksF k).snd = (0 : Int) ∧
 ¬¬(waksF k).snd = (0 : Int) ∧
 ((waksF k).snd = (0 : Int) →
 (waksF k).snd = (0 : Int) ∧
 (waksF k).snd = (0 : Int) ∧
 ((0 : Int) ≤ k ∧ k < (64 : Int)) ∧
 Fits IntKind.i64 (k * (2 : Int) ^ k.toNat) ∧
 ((0 : Int) ≤ k ∧ k < (64 : Int)) ∧
 Fits IntKind.i64 ((1 : Int) * (2 : Int) ^ k.toNat) ∧
 Fits IntKind.i64 (k * (2 : Int) ^ k.toNat - (1 : Int) * (2 : Int) ^ k.toNat) ∧
 Fits IntKind.i64 (k * (2 : Int) ^ k.toNat - (1 : Int) * (2 : Int) ^ k.toNat + (1 : Int)) ∧
 (¬(waksF k).fst = k * (2 : Int) ^ k.toNat - (1 : Int) * (2 : Int) ^ k.toNat + (1 : Int) →
 ¬(waksF k).fst =
 k * (2 : Int) ^ k.toNat - (1 : Int) * (2 : Int) ^ k.toNat + (1 : Int) ∧
 ¬(waksF k).fst =
 k * (2 : Int) ^ k.toNat - (1 : Int) * (2 : Int) ^ k.toNat + (1 : Int) ∧
 ¬(waksF k).fst =
 k * (2 : Int) ^ k.toNat - (1 : Int) * (2 : Int) ^ k.toNat + (1 : Int) ∧
 false = true) ∧
 (¬¬(waksF k).fst =
 k * (2 : Int) ^ k.toNat - (1 : Int) * (2 : Int) ^ k.toNat + (1 : Int) →
 ¬¬(waksF k).fst =
 k * (2 : Int) ^ k.toNat - (1 : Int) * (2 : Int) ^ k.toNat + (1 : Int) ∧
 ¬¬(waksF k).fst =
 k * (2 : Int) ^ k.toNat - (1 : Int) * (2 : Int) ^ k.toNat + (1 : Int) ∧
 ¬¬(waksF k).fst =
 k * (2 : Int) ^ k.toNat - (1 : Int) * (2 : Int) ^ k.toNat + (1 : Int) ∧
 True ∧
 ((!decide (ClosP c.fst c.snd.fst c.snd.snd)) = true →
 (!decide (ClosP c.fst c.snd.fst c.snd.snd)) = true ∧
 ((!(strictF c.fst c.snd.fst c.snd.snd).fst) = true →
 (!(strictF c.fst c.snd.fst c.snd.snd).fst) = true ∧
 (!(strictF c.fst c.snd.fst c.snd.snd).fst) = true ∧
 ((strictF c.fst c.snd.fst c.snd.snd).snd = (1 : Int) →
 (strictF c.fst c.snd.fst c.snd.snd).snd = (1 : Int) ∧
 (strictF c.fst c.snd.fst c.snd.snd).snd = (1 : Int) ∧
 (strictF c.fst c.snd.fst c.snd.snd).snd = (1 : Int) ∧
 True ∧ true = true) ∧
 (¬(strictF c.fst c.snd.fst c.snd.snd).snd = (1 : Int) →
 ¬(strictF c.fst c.snd.fst c.snd.snd).snd = (1 : Int) ∧
 ¬(strictF c.fst c.snd.fst c.snd.snd).snd = (1 : Int) ∧
 ¬(strictF c.fst c.snd.fst c.snd.snd).snd = (1 : Int) ∧
 false = true)) ∧
 ((!(strictF c.fst c.snd.fst c.snd.snd).fst) = false →
 (!(strictF c.fst c.snd.fst c.snd.snd).fst) = false ∧
 (!(strictF c.fst c.snd.fst c.snd.snd).fst) = false ∧
 false = true)) ∧
 ((!decide (ClosP c.fst c.snd.fst c.snd.snd)) = false →
 (!decide (ClosP c.fst c.snd.fst c.snd.snd)) = false ∧
 Fits IntKind.i64 ((2 : Int) * c.fst) ∧
 Fits IntKind.i64 ((2 : Int) * c.fst - (1 : Int)) ∧
 ((2 : Int) * c.fst - (1 : Int) ≤ c.snd.snd →
 (2 : Int) * c.fst - (1 : Int) ≤ c.snd.snd ∧
 (2 : Int) * c.fst - (1 : Int) ≤ c.snd.snd ∧
 ((strictF c.fst c.snd.fst c.snd.snd).fst = true →
 (strictF c.fst c.snd.fst c.snd.snd).fst = true ∧
 (strictF c.fst c.snd.fst c.snd.snd).fst = true ∧
 ((strictF c.fst c.snd.fst c.snd.snd).snd =
 (0 : Int) →
 (strictF c.fst c.snd.fst c.snd.snd).snd =
 (0 : Int) ∧
 (strictF c.fst c.snd.fst c.snd.snd).snd =
 (0 : Int) ∧
 (strictF c.fst c.snd.fst c.snd.snd).snd =
 (0 : Int) ∧
 True ∧ true = true) ∧
 (¬(strictF c.fst c.snd.fst c.snd.snd).snd =
 (0 : Int) →
 ¬(strictF c.fst c.snd.fst c.snd.snd).snd =
 (0 : Int) ∧
 ¬(strictF c.fst c.snd.fst c.snd.snd).snd =
 (0 : Int) ∧
 ¬(strictF c.fst c.snd.fst c.snd.snd).snd =
 (0 : Int) ∧
 false = true)) ∧
 (¬(strictF c.fst c.snd.fst c.snd.snd).fst = true →
 ¬(strictF c.fst c.snd.fst c.snd.snd).fst = true ∧
 ¬(strictF c.fst c.snd.fst c.snd.snd).fst = true ∧
 false = true)) ∧
 (¬(2 : Int) * c.fst - (1 : Int) ≤ c.snd.snd →
 ¬(2 : Int) * c.fst - (1 : Int) ≤ c.snd.snd ∧
 ¬(2 : Int) * c.fst - (1 : Int) ≤ c.snd.snd ∧
 (c.snd.fst = (1 : Int) →
 c.snd.fst = (1 : Int) ∧
 c.snd.fst = (1 : Int) ∧
 ((strictF c.fst c.snd.fst c.snd.snd).fst =
 decide (c.fst ≤ c.snd.snd) →
 (strictF c.fst c.snd.fst c.snd.snd).fst =
 decide (c.fst ≤ c.snd.snd) ∧
 (strictF c.fst c.snd.fst c.snd.snd).fst =
 decide (c.fst ≤ c.snd.snd) ∧
 ((strictF c.fst c.snd.fst c.snd.snd).snd =
 (0 : Int) →
 (strictF c.fst c.snd.fst
 c.snd.snd).snd =
 (0 : Int) ∧
 (strictF c.fst c.snd.fst
 c.snd.snd).snd =
 (0 : Int) ∧
 (strictF c.fst c.snd.fst
 c.snd.snd).snd =
 (0 : Int) ∧
 True ∧ true = true) ∧
 (¬(strictF c.fst c.snd.fst
 c.snd.snd).snd =
 (0 : Int) →
 ¬(strictF c.fst c.snd.fst
 c.snd.snd).snd =
 (0 : Int) ∧
 ¬(strictF c.fst c.snd.fst
 c.snd.snd).snd =
 (0 : Int) ∧
 ¬(strictF c.fst c.snd.fst
 c.snd.snd).snd =
 (0 : Int) ∧
 false = true)) ∧
 (¬(strictF c.fst c.snd.fst c.snd.snd).fst =
 decide (c.fst ≤ c.snd.snd) →
 ¬(strictF c.fst c.snd.fst c.snd.snd).fst =
 decide (c.fst ≤ c.snd.snd) ∧
 ¬(strictF c.fst c.snd.fst c.snd.snd).fst =
 decide (c.fst ≤ c.snd.snd) ∧
 false = true)) ∧
 (¬c.snd.fst = (1 : Int) →
 ¬c.snd.fst = (1 : Int) ∧
 ¬c.snd.fst = (1 : Int) ∧
 ((strictF c.fst c.snd.fst c.snd.snd).fst = false →
 (strictF c.fst c.snd.fst c.snd.snd).fst =
 false ∧
 (strictF c.fst c.snd.fst c.snd.snd).fst =
 false ∧
 ((strictF c.fst c.snd.fst c.snd.snd).snd =
 (0 : Int) →
 (strictF c.fst c.snd.fst
 c.snd.snd).snd =
 (0 : Int) ∧
 (strictF c.fst c.snd.fst
 c.snd.snd).snd =
 (0 : Int) ∧
 (strictF c.fst c.snd.fst
 c.snd.snd).snd =
 (0 : Int) ∧
 True ∧ true = true) ∧
 (¬(strictF c.fst c.snd.fst
 c.snd.snd).snd =
 (0 : Int) →
 ¬(strictF c.fst c.snd.fst
 c.snd.snd).snd =
 (0 : Int) ∧
 ¬(strictF c.fst c.snd.fst
 c.snd.snd).snd =
 (0 : Int) ∧
 ¬(strictF c.fst c.snd.fst
 c.snd.snd).snd =
 (0 : Int) ∧
 false = true)) ∧
 (¬(strictF c.fst c.snd.fst c.snd.snd).fst =
 false →
 ¬(strictF c.fst c.snd.fst c.snd.snd).fst =
 false ∧
 ¬(strictF c.fst c.snd.fst c.snd.snd).fst =
 false ∧
 false = true)))))) ∧
 (¬(waksF k).snd = (0 : Int) →
 ¬(waksF k).snd = (0 : Int) ∧
 ¬(waksF k).snd = (0 : Int) ∧
 True ∧
 ((!decide (ClosP c.fst c.snd.fst c.snd.snd)) = true →
 (!decide (ClosP c.fst c.snd.fst c.snd.snd)) = true ∧
 ((!(strictF c.fst c.snd.fst c.snd.snd).fst) = true →
 (!(strictF c.fst c.snd.fst c.snd.snd).fst) = true ∧
 (!(strictF c.fst c.snd.fst c.snd.snd).fst) = true ∧
 ((strictF c.fst c.snd.fst c.snd.snd).snd = (1 : Int) →
 (strictF c.fst c.snd.fst c.snd.snd).snd = (1 : Int) ∧
 (strictF c.fst c.snd.fst c.snd.snd).snd = (1 : Int) ∧
 (strictF c.fst c.snd.fst c.snd.snd).snd = (1 : Int) ∧ True ∧ true = true) ∧
 (¬(strictF c.fst c.snd.fst c.snd.snd).snd = (1 : Int) →
 ¬(strictF c.fst c.snd.fst c.snd.snd).snd = (1 : Int) ∧
 ¬(strictF c.fst c.snd.fst c.snd.snd).snd = (1 : Int) ∧
 ¬(strictF c.fst c.snd.fst c.snd.snd).snd = (1 : Int) ∧ false = true)) ∧
 ((!(strictF c.fst c.snd.fst c.snd.snd).fst) = false →
 (!(strictF c.fst c.snd.fst c.snd.snd).fst) = false ∧
 (!(strictF c.fst c.snd.fst c.snd.snd).fst) = false ∧ false = true)) ∧
 ((!decide (ClosP c.fst c.snd.fst c.snd.snd)) = false →
 (!decide (ClosP c.fst c.snd.fst c.snd.snd)) = false ∧
 Fits IntKind.i64 ((2 : Int) * c.fst) ∧
 Fits IntKind.i64 ((2 : Int) * c.fst - (1 : Int)) ∧
 ((2 : Int) * c.fst - (1 : Int) ≤ c.snd.snd →
 (2 : Int) * c.fst - (1 : Int) ≤ c.snd.snd ∧
 (2 : Int) * c.fst - (1 : Int) ≤ c.snd.snd ∧
 ((strictF c.fst c.snd.fst c.snd.snd).fst = true →
 (strictF c.fst c.snd.fst c.snd.snd).fst = true ∧
 (strictF c.fst c.snd.fst c.snd.snd).fst = true ∧
 ((strictF c.fst c.snd.fst c.snd.snd).snd = (0 : Int) →
 (strictF c.fst c.snd.fst c.snd.snd).snd = (0 : Int) ∧
 (strictF c.fst c.snd.fst c.snd.snd).snd = (0 : Int) ∧
 (strictF c.fst c.snd.fst c.snd.snd).snd = (0 : Int) ∧
 True ∧ true = true) ∧
 (¬(strictF c.fst c.snd.fst c.snd.snd).snd = (0 : Int) →
 ¬(strictF c.fst c.snd.fst c.snd.snd).snd = (0 : Int) ∧
 ¬(strictF c.fst c.snd.fst c.snd.snd).snd = (0 : Int) ∧
 ¬(strictF c.fst c.snd.fst c.snd.snd).snd = (0 : Int) ∧
 false = true)) ∧
 (¬(strictF c.fst c.snd.fst c.snd.snd).fst = true →
 ¬(strictF c.fst c.snd.fst c.snd.snd).fst = true ∧
 ¬(strictF c.fst c.snd.fst c.snd.snd).fst = true ∧ false = true)) ∧
 (¬(2 : Int) * c.fst - (1 : Int) ≤ c.snd.snd →
 ¬(2 : Int) * c.fst - (1 : Int) ≤ c.snd.snd ∧
 ¬(2 : Int) * c.fst - (1 : Int) ≤ c.snd.snd ∧
 (c.snd.fst = (1 : Int) →
 c.snd.fst = (1 : Int) ∧
 c.snd.fst = (1 : Int) ∧
 ((strictF c.fst c.snd.fst c.snd.snd).fst = decide (c.fst ≤ c.snd.snd) →
 (strictF c.fst c.snd.fst c.snd.snd).fst = decide (c.fst ≤ c.snd.snd) ∧
 (strictF c.fst c.snd.fst c.snd.snd).fst =
 decide (c.fst ≤ c.snd.snd) ∧
 ((strictF c.fst c.snd.fst c.snd.snd).snd = (0 : Int) →
 (strictF c.fst c.snd.fst c.snd.snd).snd = (0 : Int) ∧
 (strictF c.fst c.snd.fst c.snd.snd).snd = (0 : Int) ∧
 (strictF c.fst c.snd.fst c.snd.snd).snd = (0 : Int) ∧
 True ∧ true = true) ∧
 (¬(strictF c.fst c.snd.fst c.snd.snd).snd = (0 : Int) →
 ¬(strictF c.fst c.snd.fst c.snd.snd).snd = (0 : Int) ∧
 ¬(strictF c.fst c.snd.fst c.snd.snd).snd = (0 : Int) ∧
 ¬(strictF c.fst c.snd.fst c.snd.snd).snd = (0 : Int) ∧
 false = true)) ∧
 (¬(strictF c.fst c.snd.fst c.snd.snd).fst = decide (c.fst ≤ c.snd.snd) →
 ¬(strictF c.fst c.snd.fst c.snd.snd).fst =
 decide (c.fst ≤ c.snd.snd) ∧
 ¬(strictF c.fst c.snd.fst c.snd.snd).fst =
 decide (c.fst ≤ c.snd.snd) ∧
 false = true)) ∧
 (¬c.snd.fst = (1 : Int) →
 ¬c.snd.fst = (1 : Int) ∧
 ¬c.snd.fst = (1 : Int) ∧
 ((strictF c.fst c.snd.fst c.snd.snd).fst = false →
 (strictF c.fst c.snd.fst c.snd.snd).fst = false ∧
 (strictF c.fst c.snd.fst c.snd.snd).fst = false ∧
 ((strictF c.fst c.snd.fst c.snd.snd).snd = (0 : Int) →
 (strictF c.fst c.snd.fst c.snd.snd).snd = (0 : Int) ∧
 (strictF c.fst c.snd.fst c.snd.snd).snd = (0 : Int) ∧
 (strictF c.fst c.snd.fst c.snd.snd).snd = (0 : Int) ∧
 True ∧ true = true) ∧
 (¬(strictF c.fst c.snd.fst c.snd.snd).snd = (0 : Int) →
 ¬(strictF c.fst c.snd.fst c.snd.snd).snd = (0 : Int) ∧
 ¬(strictF c.fst c.snd.fst c.snd.snd).snd = (0 : Int) ∧
 ¬(strictF c.fst c.snd.fst c.snd.snd).snd = (0 : Int) ∧
 false = true)) ∧
 (¬(strictF c.fst c.snd.fst c.snd.snd).fst = false →
 ¬(strictF c.fst c.snd.fst c.snd.snd).fst = false ∧
 ¬(strictF c.fst c.snd.fst c.snd.snd).fst = false ∧
 false = true)))))))))))) := by
 kernel_rfl

end Go.SX.Pa
