/- Parts of the proof, one after the other: Pa4E Pa4Q Pa5 Pa6 Pa6E Pa6Q Pa7 Pa7E Pa7Q PaN Pa12 Pa12E Pa12Q PaC Pa10 Pa10E Pa10Q Pa11 Pa11E Pa11Q PaK PaL Pa13 Pa13E PaM. -/
import Derived.Test.YtfbgbdiajghnbaaDoorM2
/- Printed by VC.lean: what the executor asks. -/
namespace Go.SX.Pa
open Go Go.Proofs
theorem g53_eq (k : Int) (s : ByteArray) : g53 k s = (
 (k = (1 : Int) →
 k = (1 : Int) ∧
 ((0 : Int) ≤ (0 : Int) ∧ (0 : Int) < (↑s.size : Int)) ∧
 Fits IntKind.i64 (IntKind.u8.wrap (bt s (Int.toNat (0 : Int)) - (48 : Int))) ∧
 Fits IntKind.i64 ((1 : Int) - IntKind.u8.wrap (bt s (Int.toNat (0 : Int)) - (48 : Int))) ∧
 [IntKind.u8.wrap (bt s (Int.toNat (0 : Int)) - (48 : Int)), (1 : Int) - IntKind.u8.wrap (bt s (Int.toNat (0 : Int)) - (48 : Int))] = applyF k.toNat s) ∧
 (¬k = (1 : Int) →
 ¬k = (1 : Int) ∧
 Fits IntKind.i64 (k - (1 : Int)) ∧
 ((0 : Int) ≤ k - (1 : Int) ∧ k - (1 : Int) < (64 : Int)) ∧
 Fits IntKind.i64 ((1 : Int) * (2 : Int) ^ (k - (1 : Int)).toNat) ∧
 Fits IntKind.i64 (k - (1 : Int)) ∧
 ((1 : Int) ≤ k - (1 : Int) ∧ k - (1 : Int) ≤ (3 : Int)) ∧
 ((0 : Int) ≤ (↑(0 : Nat) : Int) ∧
 (↑(0 : Nat) : Int) ≤ (1 : Int) * (2 : Int) ^ (k - (1 : Int)).toNat ∧ (1 : Int) * (2 : Int) ^ (k - (1 : Int)).toNat ≤ (↑s.size : Int)) ∧
 true = true ∧
 Fits IntKind.i64 ((2 : Int) * switchesF (k - (1 : Int))) ∧
 Fits IntKind.i64 ((1 : Int) * (2 : Int) ^ (k - (1 : Int)).toNat + (2 : Int) * switchesF (k - (1 : Int))) ∧
 ((0 : Int) ≤ (1 : Int) * (2 : Int) ^ (k - (1 : Int)).toNat + (2 : Int) * switchesF (k - (1 : Int)) ∧
 (1 : Int) * (2 : Int) ^ (k - (1 : Int)).toNat + (2 : Int) * switchesF (k - (1 : Int)) ≤ (↑s.size : Int) ∧ (↑s.size : Int) ≤ (↑s.size : Int)) ∧
 true = true ∧
 Fits IntKind.i64 (k - (1 : Int)) ∧
 Fits IntKind.i64 ((1 : Int) * (2 : Int) ^ (k - (1 : Int)).toNat + switchesF (k - (1 : Int))) ∧
 ((0 : Int) ≤ (1 : Int) * (2 : Int) ^ (k - (1 : Int)).toNat ∧
 (1 : Int) * (2 : Int) ^ (k - (1 : Int)).toNat ≤ (1 : Int) * (2 : Int) ^ (k - (1 : Int)).toNat + switchesF (k - (1 : Int)) ∧
 (1 : Int) * (2 : Int) ^ (k - (1 : Int)).toNat + switchesF (k - (1 : Int)) ≤ (↑s.size : Int)) ∧
 true = true ∧
 Fits IntKind.i64 (k - (1 : Int)) ∧
 Fits IntKind.i64 ((1 : Int) * (2 : Int) ^ (k - (1 : Int)).toNat + switchesF (k - (1 : Int))) ∧
 Fits IntKind.i64 ((2 : Int) * switchesF (k - (1 : Int))) ∧
 Fits IntKind.i64 ((1 : Int) * (2 : Int) ^ (k - (1 : Int)).toNat + (2 : Int) * switchesF (k - (1 : Int))) ∧
 ((0 : Int) ≤ (1 : Int) * (2 : Int) ^ (k - (1 : Int)).toNat + switchesF (k - (1 : Int)) ∧
 (1 : Int) * (2 : Int) ^ (k - (1 : Int)).toNat + switchesF (k - (1 : Int)) ≤
 (1 : Int) * (2 : Int) ^ (k - (1 : Int)).toNat + (2 : Int) * switchesF (k - (1 : Int)) ∧
 (1 : Int) * (2 : Int) ^ (k - (1 : Int)).toNat + (2 : Int) * switchesF (k - (1 : Int)) ≤ (↑s.size : Int)) ∧
 true = true ∧
 (((((1 : Int) ≤ k - (1 : Int) ∧ k - (1 : Int) ≤ (3 : Int)) ∧
 (s.extract ((1 : Int) * (2 : Int) ^ (k - (1 : Int)).toNat).toNat
 ((1 : Int) * (2 : Int) ^ (k - (1 : Int)).toNat + switchesF (k - (1 : Int))).toNat).size =
 swN (k - (1 : Int)).toNat ∧
 ∀ (i : Nat),
 i <
 (s.extract ((1 : Int) * (2 : Int) ^ (k - (1 : Int)).toNat).toNat
 ((1 : Int) * (2 : Int) ^ (k - (1 : Int)).toNat + switchesF (k - (1 : Int))).toNat).size →
 bt
 (s.extract ((1 : Int) * (2 : Int) ^ (k - (1 : Int)).toNat).toNat
 ((1 : Int) * (2 : Int) ^ (k - (1 : Int)).toNat + switchesF (k - (1 : Int))).toNat)
 i =
 (48 : Int) ∨
 bt
 (s.extract ((1 : Int) * (2 : Int) ^ (k - (1 : Int)).toNat).toNat
 ((1 : Int) * (2 : Int) ^ (k - (1 : Int)).toNat + switchesF (k - (1 : Int))).toNat)
 i =
 (49 : Int)) ∧
 m53
 (k - (1 : Int),
 s.extract ((1 : Int) * (2 : Int) ^ (k - (1 : Int)).toNat).toNat
 ((1 : Int) * (2 : Int) ^ (k - (1 : Int)).toNat + switchesF (k - (1 : Int))).toNat) <
 m53 (k, s)) ∧
 (((((1 : Int) ≤ k - (1 : Int) ∧ k - (1 : Int) ≤ (3 : Int)) ∧
 (s.extract ((1 : Int) * (2 : Int) ^ (k - (1 : Int)).toNat + switchesF (k - (1 : Int))).toNat
 ((1 : Int) * (2 : Int) ^ (k - (1 : Int)).toNat + (2 : Int) * switchesF (k - (1 : Int))).toNat).size =
 swN (k - (1 : Int)).toNat ∧
 ∀ (i : Nat),
 i <
 (s.extract ((1 : Int) * (2 : Int) ^ (k - (1 : Int)).toNat + switchesF (k - (1 : Int))).toNat
 ((1 : Int) * (2 : Int) ^ (k - (1 : Int)).toNat + (2 : Int) * switchesF (k - (1 : Int))).toNat).size →
 bt
 (s.extract ((1 : Int) * (2 : Int) ^ (k - (1 : Int)).toNat + switchesF (k - (1 : Int))).toNat
 ((1 : Int) * (2 : Int) ^ (k - (1 : Int)).toNat + (2 : Int) * switchesF (k - (1 : Int))).toNat)
 i =
 (48 : Int) ∨
 bt
 (s.extract ((1 : Int) * (2 : Int) ^ (k - (1 : Int)).toNat + switchesF (k - (1 : Int))).toNat
 ((1 : Int) * (2 : Int) ^ (k - (1 : Int)).toNat + (2 : Int) * switchesF (k - (1 : Int))).toNat)
 i =
 (49 : Int)) ∧
 m53
 (k - (1 : Int),
 s.extract ((1 : Int) * (2 : Int) ^ (k - (1 : Int)).toNat + switchesF (k - (1 : Int))).toNat
 ((1 : Int) * (2 : Int) ^ (k - (1 : Int)).toNat + (2 : Int) * switchesF (k - (1 : Int))).toNat) <
 m53 (k, s)) ∧
 Fits IntKind.i64 ((2 : Int) * ((1 : Int) * (2 : Int) ^ (k - (1 : Int)).toNat)) ∧
 ((0 : Int) ≤ (2 : Int) * ((1 : Int) * (2 : Int) ^ (k - (1 : Int)).toNat) ∧
 (2 : Int) * ((1 : Int) * (2 : Int) ^ (k - (1 : Int)).toNat) ≤
 (2 : Int) * ((1 : Int) * (2 : Int) ^ (k - (1 : Int)).toNat) ∧
 Small ((2 : Int) * ((1 : Int) * (2 : Int) ^ (k - (1 : Int)).toNat)).toNat) ∧
 (∃ (x0 : Nat),
 x0 ≤ (2 : Nat) * hN k.toNat ∧
 ((applyF (k - (1 : Int)).toNat
 (s.extract ((1 : Int) * (2 : Int) ^ (k - (1 : Int)).toNat).toNat
 ((1 : Int) * (2 : Int) ^ (k - (1 : Int)).toNat + switchesF (k - (1 : Int))).toNat) =
 applyF (k - (1 : Int)).toNat
 (s.extract ((1 : Int) * (2 : Int) ^ (k - (1 : Int)).toNat).toNat
 ((1 : Int) * (2 : Int) ^ (k - (1 : Int)).toNat + switchesF (k - (1 : Int))).toNat) ∧
 applyF (k - (1 : Int)).toNat
 (s.extract ((1 : Int) * (2 : Int) ^ (k - (1 : Int)).toNat + switchesF (k - (1 : Int))).toNat
 ((1 : Int) * (2 : Int) ^ (k - (1 : Int)).toNat + (2 : Int) * switchesF (k - (1 : Int))).toNat) =
 applyF (k - (1 : Int)).toNat
 (s.extract ((1 : Int) * (2 : Int) ^ (k - (1 : Int)).toNat + switchesF (k - (1 : Int))).toNat
 ((1 : Int) * (2 : Int) ^ (k - (1 : Int)).toNat + (2 : Int) * switchesF (k - (1 : Int))).toNat) ∧
 True) ∧
 List.replicate ((2 : Int) * ((1 : Int) * (2 : Int) ^ (k - (1 : Int)).toNat)).toNat (0 : Int) =
 applyTo k.toNat s x0 ∧
 True) ∧
 (0 : Int) = (↑x0 : Int) ∧
 (↑(List.replicate ((2 : Int) * ((1 : Int) * (2 : Int) ^ (k - (1 : Int)).toNat)).toNat (0 : Int)).length :
 Int) =
 (↑(List.replicate ((2 : Int) * ((1 : Int) * (2 : Int) ^ (k - (1 : Int)).toNat)).toNat (0 : Int)).length :
 Int) ∧
 True ∧
 True ∧
 s.extract ((1 : Int) * (2 : Int) ^ (k - (1 : Int)).toNat + (2 : Int) * switchesF (k - (1 : Int))).toNat
 (↑s.size : Int).toNat =
 s.extract
 ((1 : Int) * (2 : Int) ^ (k - (1 : Int)).toNat + (2 : Int) * switchesF (k - (1 : Int))).toNat
 (↑s.size : Int).toNat ∧
 s.extract (↑(0 : Nat) : Int).toNat ((1 : Int) * (2 : Int) ^ (k - (1 : Int)).toNat).toNat =
 s.extract (↑(0 : Nat) : Int).toNat ((1 : Int) * (2 : Int) ^ (k - (1 : Int)).toNat).toNat ∧
 True) ∧
 ∀ (x : Nat),
 x ≤ (2 : Nat) * hN k.toNat →
 ((↑x : Int) <
 (↑(List.replicate ((2 : Int) * ((1 : Int) * (2 : Int) ^ (k - (1 : Int)).toNat)).toNat (0 : Int)).length :
 Int) →
 (↑x : Int) <
 (↑(List.replicate ((2 : Int) * ((1 : Int) * (2 : Int) ^ (k - (1 : Int)).toNat)).toNat (0 : Int)).length :
 Int) ∧
 ((0 : Int) ≤ (↑x : Int) ∧ (0 : Int) < (2 : Int)) ∧
 ((0 : Int) ≤ (↑x : Int) ∧ (0 : Int) < (2 : Int)) ∧
 Fits IntKind.i64 ((↑x : Int) / (2 : Int)) ∧
 ((0 : Int) ≤ (↑x : Int) / (2 : Int) ∧
 (↑x : Int) / (2 : Int) <
 (↑(s.extract (↑(0 : Nat) : Int).toNat
 ((1 : Int) * (2 : Int) ^ (k - (1 : Int)).toNat).toNat).size :
 Int)) ∧
 Fits IntKind.i64
 (IntKind.u8.wrap
 (bt (s.extract (↑(0 : Nat) : Int).toNat ((1 : Int) * (2 : Int) ^ (k - (1 : Int)).toNat).toNat)
 ((↑x : Int) / (2 : Int)).toNat -
 (48 : Int))) ∧
 ((0 : Int) ≤
 bitsF BinOp.xor IntKind.i64 ((↑x : Int) % (2 : Int))
 (IntKind.u8.wrap
 (bt
 (s.extract (↑(0 : Nat) : Int).toNat
 ((1 : Int) * (2 : Int) ^ (k - (1 : Int)).toNat).toNat)
 ((↑x : Int) / (2 : Int)).toNat -
 (48 : Int))) ∧
 bitsF BinOp.xor IntKind.i64 ((↑x : Int) % (2 : Int))
 (IntKind.u8.wrap
 (bt
 (s.extract (↑(0 : Nat) : Int).toNat
 ((1 : Int) * (2 : Int) ^ (k - (1 : Int)).toNat).toNat)
 ((↑x : Int) / (2 : Int)).toNat -
 (48 : Int))) <
 (↑(2 : Nat) : Int)) ∧
 (True ∧
 (bitsF BinOp.xor IntKind.i64 ((↑x : Int) % (2 : Int))
 (IntKind.u8.wrap
 (bt
 (s.extract (↑(0 : Nat) : Int).toNat
 ((1 : Int) * (2 : Int) ^ (k - (1 : Int)).toNat).toNat)
 ((↑x : Int) / (2 : Int)).toNat -
 (48 : Int))) =
 (↑(0 : Nat) : Int) →
 ((0 : Int) ≤ (↑x : Int) ∧ (0 : Int) < (2 : Int)) ∧
 Fits IntKind.i64 ((↑x : Int) / (2 : Int)) ∧
 ((0 : Int) ≤ (↑x : Int) / (2 : Int) ∧
 (↑x : Int) / (2 : Int) <
 (↑(applyF (k - (1 : Int)).toNat
 (s.extract ((1 : Int) * (2 : Int) ^ (k - (1 : Int)).toNat).toNat
 ((1 : Int) * (2 : Int) ^ (k - (1 : Int)).toNat +
 switchesF (k - (1 : Int))).toNat)).length :
 Int)) ∧
 Fits IntKind.i64
 ((2 : Int) *
 (applyF (k - (1 : Int)).toNat
 (s.extract ((1 : Int) * (2 : Int) ^ (k - (1 : Int)).toNat).toNat
 ((1 : Int) * (2 : Int) ^ (k - (1 : Int)).toNat +
 switchesF (k - (1 : Int))).toNat)).getD
 ((↑x : Int) / (2 : Int)).toNat (0 : Int)) ∧
 Fits IntKind.i64
 ((2 : Int) *
 (applyF (k - (1 : Int)).toNat
 (s.extract ((1 : Int) * (2 : Int) ^ (k - (1 : Int)).toNat).toNat
 ((1 : Int) * (2 : Int) ^ (k - (1 : Int)).toNat +
 switchesF (k - (1 : Int))).toNat)).getD
 ((↑x : Int) / (2 : Int)).toNat (0 : Int) +
 bitsF BinOp.xor IntKind.i64 ((↑x : Int) % (2 : Int))
 (IntKind.u8.wrap
 (bt
 (s.extract (↑(0 : Nat) : Int).toNat
 ((1 : Int) * (2 : Int) ^ (k - (1 : Int)).toNat).toNat)
 ((↑x : Int) / (2 : Int)).toNat -
 (48 : Int)))) ∧
 ((0 : Int) ≤
 (applyF (k - (1 : Int)).toNat
 (s.extract ((1 : Int) * (2 : Int) ^ (k - (1 : Int)).toNat).toNat
 ((1 : Int) * (2 : Int) ^ (k - (1 : Int)).toNat +
 switchesF (k - (1 : Int))).toNat)).getD
 ((↑x : Int) / (2 : Int)).toNat (0 : Int) ∧
 (applyF (k - (1 : Int)).toNat
 (s.extract ((1 : Int) * (2 : Int) ^ (k - (1 : Int)).toNat).toNat
 ((1 : Int) * (2 : Int) ^ (k - (1 : Int)).toNat +
 switchesF (k - (1 : Int))).toNat)).getD
 ((↑x : Int) / (2 : Int)).toNat (0 : Int) <
 (↑(s.extract
 ((1 : Int) * (2 : Int) ^ (k - (1 : Int)).toNat +
 (2 : Int) * switchesF (k - (1 : Int))).toNat
 (↑s.size : Int).toNat).size :
 Int)) ∧
 Fits IntKind.i64
 (IntKind.u8.wrap
 (bt
 (s.extract
 ((1 : Int) * (2 : Int) ^ (k - (1 : Int)).toNat +
 (2 : Int) * switchesF (k - (1 : Int))).toNat
 (↑s.size : Int).toNat)
 ((applyF (k - (1 : Int)).toNat
 (s.extract
 ((1 : Int) * (2 : Int) ^ (k - (1 : Int)).toNat).toNat
 ((1 : Int) * (2 : Int) ^ (k - (1 : Int)).toNat +
 switchesF (k - (1 : Int))).toNat)).getD
 ((↑x : Int) / (2 : Int)).toNat (0 : Int)).toNat -
 (48 : Int))) ∧
 ((0 : Int) ≤ (↑x : Int) ∧
 (↑x : Int) < (↑(applyTo k.toNat s x).length : Int)) ∧
 Fits IntKind.i64 ((↑x : Int) + (1 : Int)) ∧
 ∃ (x' : Nat),
 x' ≤ (2 : Nat) * hN k.toNat ∧
 (2 : Nat) * hN k.toNat - x' < (2 : Nat) * hN k.toNat - x ∧
 ((applyF (k - (1 : Int)).toNat
 (s.extract
 ((1 : Int) * (2 : Int) ^ (k - (1 : Int)).toNat).toNat
 ((1 : Int) * (2 : Int) ^ (k - (1 : Int)).toNat +
 switchesF (k - (1 : Int))).toNat) =
 applyF (k - (1 : Int)).toNat
 (s.extract
 ((1 : Int) * (2 : Int) ^ (k - (1 : Int)).toNat).toNat
 ((1 : Int) * (2 : Int) ^ (k - (1 : Int)).toNat +
 switchesF (k - (1 : Int))).toNat) ∧
 applyF (k - (1 : Int)).toNat
 (s.extract
 ((1 : Int) * (2 : Int) ^ (k - (1 : Int)).toNat +
 switchesF (k - (1 : Int))).toNat
 ((1 : Int) * (2 : Int) ^ (k - (1 : Int)).toNat +
 (2 : Int) * switchesF (k - (1 : Int))).toNat) =
 applyF (k - (1 : Int)).toNat
 (s.extract
 ((1 : Int) * (2 : Int) ^ (k - (1 : Int)).toNat +
 switchesF (k - (1 : Int))).toNat
 ((1 : Int) * (2 : Int) ^ (k - (1 : Int)).toNat +
 (2 : Int) * switchesF (k - (1 : Int))).toNat) ∧
 True) ∧
 (applyTo k.toNat s x).set (↑x : Int).toNat
 (bitsF BinOp.xor IntKind.i64
 ((2 : Int) *
 (applyF (k - (1 : Int)).toNat
 (s.extract
 ((1 : Int) *
 (2 : Int) ^
 (k - (1 : Int)).toNat).toNat
 ((1 : Int) *
 (2 : Int) ^ (k - (1 : Int)).toNat +
 switchesF
 (k - (1 : Int))).toNat)).getD
 ((↑x : Int) / (2 : Int)).toNat (0 : Int) +
 bitsF BinOp.xor IntKind.i64 ((↑x : Int) % (2 : Int))
 (IntKind.u8.wrap
 (bt
 (s.extract (↑(0 : Nat) : Int).toNat
 ((1 : Int) *
 (2 : Int) ^
 (k - (1 : Int)).toNat).toNat)
 ((↑x : Int) / (2 : Int)).toNat -
 (48 : Int))))
 (IntKind.u8.wrap
 (bt
 (s.extract
 ((1 : Int) *
 (2 : Int) ^ (k - (1 : Int)).toNat +
 (2 : Int) *
 switchesF (k - (1 : Int))).toNat
 (↑s.size : Int).toNat)
 ((applyF (k - (1 : Int)).toNat
 (s.extract
 ((1 : Int) *
 (2 : Int) ^
 (k - (1 : Int)).toNat).toNat
 ((1 : Int) *
 (2 : Int) ^
 (k - (1 : Int)).toNat +
 switchesF
 (k - (1 : Int))).toNat)).getD
 ((↑x : Int) / (2 : Int)).toNat
 (0 : Int)).toNat -
 (48 : Int)))) =
 applyTo k.toNat s x' ∧
 True) ∧
 (↑x : Int) + (1 : Int) = (↑x' : Int) ∧
 (↑(List.replicate
 ((2 : Int) *
 ((1 : Int) *
 (2 : Int) ^ (k - (1 : Int)).toNat)).toNat
 (0 : Int)).length :
 Int) =
 (↑(List.replicate
 ((2 : Int) *
 ((1 : Int) *
 (2 : Int) ^ (k - (1 : Int)).toNat)).toNat
 (0 : Int)).length :
 Int) ∧
 True ∧
 True ∧
 s.extract
 ((1 : Int) * (2 : Int) ^ (k - (1 : Int)).toNat +
 (2 : Int) * switchesF (k - (1 : Int))).toNat
 (↑s.size : Int).toNat =
 s.extract
 ((1 : Int) * (2 : Int) ^ (k - (1 : Int)).toNat +
 (2 : Int) * switchesF (k - (1 : Int))).toNat
 (↑s.size : Int).toNat ∧
 s.extract (↑(0 : Nat) : Int).toNat
 ((1 : Int) *
 (2 : Int) ^ (k - (1 : Int)).toNat).toNat =
 s.extract (↑(0 : Nat) : Int).toNat
 ((1 : Int) *
 (2 : Int) ^ (k - (1 : Int)).toNat).toNat ∧
 True)) ∧
 (bitsF BinOp.xor IntKind.i64 ((↑x : Int) % (2 : Int))
 (IntKind.u8.wrap
 (bt
 (s.extract (↑(0 : Nat) : Int).toNat
 ((1 : Int) * (2 : Int) ^ (k - (1 : Int)).toNat).toNat)
 ((↑x : Int) / (2 : Int)).toNat -
 (48 : Int))) =
 (↑(1 : Nat) : Int) →
 ((0 : Int) ≤ (↑x : Int) ∧ (0 : Int) < (2 : Int)) ∧
 Fits IntKind.i64 ((↑x : Int) / (2 : Int)) ∧
 ((0 : Int) ≤ (↑x : Int) / (2 : Int) ∧
 (↑x : Int) / (2 : Int) <
 (↑(applyF (k - (1 : Int)).toNat
 (s.extract
 ((1 : Int) * (2 : Int) ^ (k - (1 : Int)).toNat +
 switchesF (k - (1 : Int))).toNat
 ((1 : Int) * (2 : Int) ^ (k - (1 : Int)).toNat +
 (2 : Int) * switchesF (k - (1 : Int))).toNat)).length :
 Int)) ∧
 Fits IntKind.i64
 ((2 : Int) *
 (applyF (k - (1 : Int)).toNat
 (s.extract
 ((1 : Int) * (2 : Int) ^ (k - (1 : Int)).toNat +
 switchesF (k - (1 : Int))).toNat
 ((1 : Int) * (2 : Int) ^ (k - (1 : Int)).toNat +
 (2 : Int) * switchesF (k - (1 : Int))).toNat)).getD
 ((↑x : Int) / (2 : Int)).toNat (0 : Int)) ∧
 Fits IntKind.i64
 ((2 : Int) *
 (applyF (k - (1 : Int)).toNat
 (s.extract
 ((1 : Int) * (2 : Int) ^ (k - (1 : Int)).toNat +
 switchesF (k - (1 : Int))).toNat
 ((1 : Int) * (2 : Int) ^ (k - (1 : Int)).toNat +
 (2 : Int) * switchesF (k - (1 : Int))).toNat)).getD
 ((↑x : Int) / (2 : Int)).toNat (0 : Int) +
 bitsF BinOp.xor IntKind.i64 ((↑x : Int) % (2 : Int))
 (IntKind.u8.wrap
 (bt
 (s.extract (↑(0 : Nat) : Int).toNat
 ((1 : Int) * (2 : Int) ^ (k - (1 : Int)).toNat).toNat)
 ((↑x : Int) / (2 : Int)).toNat -
 (48 : Int)))) ∧
 ((0 : Int) ≤
 (applyF (k - (1 : Int)).toNat
 (s.extract
 ((1 : Int) * (2 : Int) ^ (k - (1 : Int)).toNat +
 switchesF (k - (1 : Int))).toNat
 ((1 : Int) * (2 : Int) ^ (k - (1 : Int)).toNat +
 (2 : Int) * switchesF (k - (1 : Int))).toNat)).getD
 ((↑x : Int) / (2 : Int)).toNat (0 : Int) ∧
 (applyF (k - (1 : Int)).toNat
 (s.extract
 ((1 : Int) * (2 : Int) ^ (k - (1 : Int)).toNat +
 switchesF (k - (1 : Int))).toNat
 ((1 : Int) * (2 : Int) ^ (k - (1 : Int)).toNat +
 (2 : Int) * switchesF (k - (1 : Int))).toNat)).getD
 ((↑x : Int) / (2 : Int)).toNat (0 : Int) <
 (↑(s.extract
 ((1 : Int) * (2 : Int) ^ (k - (1 : Int)).toNat +
 (2 : Int) * switchesF (k - (1 : Int))).toNat
 (↑s.size : Int).toNat).size :
 Int)) ∧
 Fits IntKind.i64
 (IntKind.u8.wrap
 (bt
 (s.extract
 ((1 : Int) * (2 : Int) ^ (k - (1 : Int)).toNat +
 (2 : Int) * switchesF (k - (1 : Int))).toNat
 (↑s.size : Int).toNat)
 ((applyF (k - (1 : Int)).toNat
 (s.extract
 ((1 : Int) * (2 : Int) ^ (k - (1 : Int)).toNat +
 switchesF (k - (1 : Int))).toNat
 ((1 : Int) * (2 : Int) ^ (k - (1 : Int)).toNat +
 (2 : Int) * switchesF (k - (1 : Int))).toNat)).getD
 ((↑x : Int) / (2 : Int)).toNat (0 : Int)).toNat -
 (48 : Int))) ∧
 ((0 : Int) ≤ (↑x : Int) ∧
 (↑x : Int) < (↑(applyTo k.toNat s x).length : Int)) ∧
 Fits IntKind.i64 ((↑x : Int) + (1 : Int)) ∧
 ∃ (x' : Nat),
 x' ≤ (2 : Nat) * hN k.toNat ∧
 (2 : Nat) * hN k.toNat - x' < (2 : Nat) * hN k.toNat - x ∧
 ((applyF (k - (1 : Int)).toNat
 (s.extract
 ((1 : Int) * (2 : Int) ^ (k - (1 : Int)).toNat).toNat
 ((1 : Int) * (2 : Int) ^ (k - (1 : Int)).toNat +
 switchesF (k - (1 : Int))).toNat) =
 applyF (k - (1 : Int)).toNat
 (s.extract
 ((1 : Int) * (2 : Int) ^ (k - (1 : Int)).toNat).toNat
 ((1 : Int) * (2 : Int) ^ (k - (1 : Int)).toNat +
 switchesF (k - (1 : Int))).toNat) ∧
 applyF (k - (1 : Int)).toNat
 (s.extract
 ((1 : Int) * (2 : Int) ^ (k - (1 : Int)).toNat +
 switchesF (k - (1 : Int))).toNat
 ((1 : Int) * (2 : Int) ^ (k - (1 : Int)).toNat +
 (2 : Int) * switchesF (k - (1 : Int))).toNat) =
 applyF (k - (1 : Int)).toNat
 (s.extract
 ((1 : Int) * (2 : Int) ^ (k - (1 : Int)).toNat +
 switchesF (k - (1 : Int))).toNat
 ((1 : Int) * (2 : Int) ^ (k - (1 : Int)).toNat +
 (2 : Int) * switchesF (k - (1 : Int))).toNat) ∧
 True) ∧
 (applyTo k.toNat s x).set (↑x : Int).toNat
 (bitsF BinOp.xor IntKind.i64
 ((2 : Int) *
 (applyF (k - (1 : Int)).toNat
 (s.extract
 ((1 : Int) *
 (2 : Int) ^ (k - (1 : Int)).toNat +
 switchesF (k - (1 : Int))).toNat
 ((1 : Int) *
 (2 : Int) ^ (k - (1 : Int)).toNat +
 (2 : Int) *
 switchesF
 (k - (1 : Int))).toNat)).getD
 ((↑x : Int) / (2 : Int)).toNat (0 : Int) +
 bitsF BinOp.xor IntKind.i64 ((↑x : Int) % (2 : Int))
 (IntKind.u8.wrap
 (bt
 (s.extract (↑(0 : Nat) : Int).toNat
 ((1 : Int) *
 (2 : Int) ^
 (k - (1 : Int)).toNat).toNat)
 ((↑x : Int) / (2 : Int)).toNat -
 (48 : Int))))
 (IntKind.u8.wrap
 (bt
 (s.extract
 ((1 : Int) * (2 : Int) ^ (k - (1 : Int)).toNat +
 (2 : Int) * switchesF (k - (1 : Int))).toNat
 (↑s.size : Int).toNat)
 ((applyF (k - (1 : Int)).toNat
 (s.extract
 ((1 : Int) *
 (2 : Int) ^
 (k - (1 : Int)).toNat +
 switchesF (k - (1 : Int))).toNat
 ((1 : Int) *
 (2 : Int) ^
 (k - (1 : Int)).toNat +
 (2 : Int) *
 switchesF
 (k - (1 : Int))).toNat)).getD
 ((↑x : Int) / (2 : Int)).toNat
 (0 : Int)).toNat -
 (48 : Int)))) =
 applyTo k.toNat s x' ∧
 True) ∧
 (↑x : Int) + (1 : Int) = (↑x' : Int) ∧
 (↑(List.replicate
 ((2 : Int) *
 ((1 : Int) *
 (2 : Int) ^ (k - (1 : Int)).toNat)).toNat
 (0 : Int)).length :
 Int) =
 (↑(List.replicate
 ((2 : Int) *
 ((1 : Int) *
 (2 : Int) ^ (k - (1 : Int)).toNat)).toNat
 (0 : Int)).length :
 Int) ∧
 True ∧
 True ∧
 s.extract
 ((1 : Int) * (2 : Int) ^ (k - (1 : Int)).toNat +
 (2 : Int) * switchesF (k - (1 : Int))).toNat
 (↑s.size : Int).toNat =
 s.extract
 ((1 : Int) * (2 : Int) ^ (k - (1 : Int)).toNat +
 (2 : Int) * switchesF (k - (1 : Int))).toNat
 (↑s.size : Int).toNat ∧
 s.extract (↑(0 : Nat) : Int).toNat
 ((1 : Int) *
 (2 : Int) ^ (k - (1 : Int)).toNat).toNat =
 s.extract (↑(0 : Nat) : Int).toNat
 ((1 : Int) *
 (2 : Int) ^ (k - (1 : Int)).toNat).toNat ∧
 True)) ∧
 (¬(↑x : Int) <
 (↑(List.replicate ((2 : Int) * ((1 : Int) * (2 : Int) ^ (k - (1 : Int)).toNat)).toNat (0 : Int)).length :
 Int) →
 ¬(↑x : Int) <
 (↑(List.replicate ((2 : Int) * ((1 : Int) * (2 : Int) ^ (k - (1 : Int)).toNat)).toNat
 (0 : Int)).length :
 Int) ∧
 applyTo k.toNat s x = applyF k.toNat s)) ∧
 ((((1 : Int) ≤ k - (1 : Int) ∧ k - (1 : Int) ≤ (3 : Int)) ∧
 (s.extract ((1 : Int) * (2 : Int) ^ (k - (1 : Int)).toNat + switchesF (k - (1 : Int))).toNat
 ((1 : Int) * (2 : Int) ^ (k - (1 : Int)).toNat + (2 : Int) * switchesF (k - (1 : Int))).toNat).size =
 swN (k - (1 : Int)).toNat ∧
 ∀ (i : Nat),
 i <
 (s.extract ((1 : Int) * (2 : Int) ^ (k - (1 : Int)).toNat + switchesF (k - (1 : Int))).toNat
 ((1 : Int) * (2 : Int) ^ (k - (1 : Int)).toNat + (2 : Int) * switchesF (k - (1 : Int))).toNat).size →
 bt
 (s.extract ((1 : Int) * (2 : Int) ^ (k - (1 : Int)).toNat + switchesF (k - (1 : Int))).toNat
 ((1 : Int) * (2 : Int) ^ (k - (1 : Int)).toNat + (2 : Int) * switchesF (k - (1 : Int))).toNat)
 i =
 (48 : Int) ∨
 bt
 (s.extract ((1 : Int) * (2 : Int) ^ (k - (1 : Int)).toNat + switchesF (k - (1 : Int))).toNat
 ((1 : Int) * (2 : Int) ^ (k - (1 : Int)).toNat + (2 : Int) * switchesF (k - (1 : Int))).toNat)
 i =
 (49 : Int)) ∧
 m53
 (k - (1 : Int),
 s.extract ((1 : Int) * (2 : Int) ^ (k - (1 : Int)).toNat + switchesF (k - (1 : Int))).toNat
 ((1 : Int) * (2 : Int) ^ (k - (1 : Int)).toNat + (2 : Int) * switchesF (k - (1 : Int))).toNat) <
 m53 (k, s)) ∧
 Fits IntKind.i64 ((2 : Int) * ((1 : Int) * (2 : Int) ^ (k - (1 : Int)).toNat)) ∧
 ((0 : Int) ≤ (2 : Int) * ((1 : Int) * (2 : Int) ^ (k - (1 : Int)).toNat) ∧
 (2 : Int) * ((1 : Int) * (2 : Int) ^ (k - (1 : Int)).toNat) ≤
 (2 : Int) * ((1 : Int) * (2 : Int) ^ (k - (1 : Int)).toNat) ∧
 Small ((2 : Int) * ((1 : Int) * (2 : Int) ^ (k - (1 : Int)).toNat)).toNat) ∧
 (∃ (x0 : Nat),
 x0 ≤ (2 : Nat) * hN k.toNat ∧
 ((applyF (k - (1 : Int)).toNat
 (s.extract ((1 : Int) * (2 : Int) ^ (k - (1 : Int)).toNat).toNat
 ((1 : Int) * (2 : Int) ^ (k - (1 : Int)).toNat + switchesF (k - (1 : Int))).toNat) =
 applyF (k - (1 : Int)).toNat
 (s.extract ((1 : Int) * (2 : Int) ^ (k - (1 : Int)).toNat).toNat
 ((1 : Int) * (2 : Int) ^ (k - (1 : Int)).toNat + switchesF (k - (1 : Int))).toNat) ∧
 applyF (k - (1 : Int)).toNat
 (s.extract ((1 : Int) * (2 : Int) ^ (k - (1 : Int)).toNat + switchesF (k - (1 : Int))).toNat
 ((1 : Int) * (2 : Int) ^ (k - (1 : Int)).toNat + (2 : Int) * switchesF (k - (1 : Int))).toNat) =
 applyF (k - (1 : Int)).toNat
 (s.extract ((1 : Int) * (2 : Int) ^ (k - (1 : Int)).toNat + switchesF (k - (1 : Int))).toNat
 ((1 : Int) * (2 : Int) ^ (k - (1 : Int)).toNat + (2 : Int) * switchesF (k - (1 : Int))).toNat) ∧
 True) ∧
 List.replicate ((2 : Int) * ((1 : Int) * (2 : Int) ^ (k - (1 : Int)).toNat)).toNat (0 : Int) =
 applyTo k.toNat s x0 ∧
 True) ∧
 (0 : Int) = (↑x0 : Int) ∧
 (↑(List.replicate ((2 : Int) * ((1 : Int) * (2 : Int) ^ (k - (1 : Int)).toNat)).toNat (0 : Int)).length :
 Int) =
 (↑(List.replicate ((2 : Int) * ((1 : Int) * (2 : Int) ^ (k - (1 : Int)).toNat)).toNat (0 : Int)).length :
 Int) ∧
 True ∧
 True ∧
 s.extract ((1 : Int) * (2 : Int) ^ (k - (1 : Int)).toNat + (2 : Int) * switchesF (k - (1 : Int))).toNat
 (↑s.size : Int).toNat =
 s.extract
 ((1 : Int) * (2 : Int) ^ (k - (1 : Int)).toNat + (2 : Int) * switchesF (k - (1 : Int))).toNat
 (↑s.size : Int).toNat ∧
 s.extract (↑(0 : Nat) : Int).toNat ((1 : Int) * (2 : Int) ^ (k - (1 : Int)).toNat).toNat =
 s.extract (↑(0 : Nat) : Int).toNat ((1 : Int) * (2 : Int) ^ (k - (1 : Int)).toNat).toNat ∧
 True) ∧
 ∀ (x : Nat),
 x ≤ (2 : Nat) * hN k.toNat →
 ((↑x : Int) <
 (↑(List.replicate ((2 : Int) * ((1 : Int) * (2 : Int) ^ (k - (1 : Int)).toNat)).toNat (0 : Int)).length :
 Int) →
 (↑x : Int) <
 (↑(List.replicate ((2 : Int) * ((1 : Int) * (2 : Int) ^ (k - (1 : Int)).toNat)).toNat (0 : Int)).length :
 Int) ∧
 ((0 : Int) ≤ (↑x : Int) ∧ (0 : Int) < (2 : Int)) ∧
 ((0 : Int) ≤ (↑x : Int) ∧ (0 : Int) < (2 : Int)) ∧
 Fits IntKind.i64 ((↑x : Int) / (2 : Int)) ∧
 ((0 : Int) ≤ (↑x : Int) / (2 : Int) ∧
 (↑x : Int) / (2 : Int) <
 (↑(s.extract (↑(0 : Nat) : Int).toNat
 ((1 : Int) * (2 : Int) ^ (k - (1 : Int)).toNat).toNat).size :
 Int)) ∧
 Fits IntKind.i64
 (IntKind.u8.wrap
 (bt (s.extract (↑(0 : Nat) : Int).toNat ((1 : Int) * (2 : Int) ^ (k - (1 : Int)).toNat).toNat)
 ((↑x : Int) / (2 : Int)).toNat -
 (48 : Int))) ∧
 ((0 : Int) ≤
 bitsF BinOp.xor IntKind.i64 ((↑x : Int) % (2 : Int))
 (IntKind.u8.wrap
 (bt
 (s.extract (↑(0 : Nat) : Int).toNat
 ((1 : Int) * (2 : Int) ^ (k - (1 : Int)).toNat).toNat)
 ((↑x : Int) / (2 : Int)).toNat -
 (48 : Int))) ∧
 bitsF BinOp.xor IntKind.i64 ((↑x : Int) % (2 : Int))
 (IntKind.u8.wrap
 (bt
 (s.extract (↑(0 : Nat) : Int).toNat
 ((1 : Int) * (2 : Int) ^ (k - (1 : Int)).toNat).toNat)
 ((↑x : Int) / (2 : Int)).toNat -
 (48 : Int))) <
 (↑(2 : Nat) : Int)) ∧
 (True ∧
 (bitsF BinOp.xor IntKind.i64 ((↑x : Int) % (2 : Int))
 (IntKind.u8.wrap
 (bt
 (s.extract (↑(0 : Nat) : Int).toNat
 ((1 : Int) * (2 : Int) ^ (k - (1 : Int)).toNat).toNat)
 ((↑x : Int) / (2 : Int)).toNat -
 (48 : Int))) =
 (↑(0 : Nat) : Int) →
 ((0 : Int) ≤ (↑x : Int) ∧ (0 : Int) < (2 : Int)) ∧
 Fits IntKind.i64 ((↑x : Int) / (2 : Int)) ∧
 ((0 : Int) ≤ (↑x : Int) / (2 : Int) ∧
 (↑x : Int) / (2 : Int) <
 (↑(applyF (k - (1 : Int)).toNat
 (s.extract ((1 : Int) * (2 : Int) ^ (k - (1 : Int)).toNat).toNat
 ((1 : Int) * (2 : Int) ^ (k - (1 : Int)).toNat +
 switchesF (k - (1 : Int))).toNat)).length :
 Int)) ∧
 Fits IntKind.i64
 ((2 : Int) *
 (applyF (k - (1 : Int)).toNat
 (s.extract ((1 : Int) * (2 : Int) ^ (k - (1 : Int)).toNat).toNat
 ((1 : Int) * (2 : Int) ^ (k - (1 : Int)).toNat +
 switchesF (k - (1 : Int))).toNat)).getD
 ((↑x : Int) / (2 : Int)).toNat (0 : Int)) ∧
 Fits IntKind.i64
 ((2 : Int) *
 (applyF (k - (1 : Int)).toNat
 (s.extract ((1 : Int) * (2 : Int) ^ (k - (1 : Int)).toNat).toNat
 ((1 : Int) * (2 : Int) ^ (k - (1 : Int)).toNat +
 switchesF (k - (1 : Int))).toNat)).getD
 ((↑x : Int) / (2 : Int)).toNat (0 : Int) +
 bitsF BinOp.xor IntKind.i64 ((↑x : Int) % (2 : Int))
 (IntKind.u8.wrap
 (bt
 (s.extract (↑(0 : Nat) : Int).toNat
 ((1 : Int) * (2 : Int) ^ (k - (1 : Int)).toNat).toNat)
 ((↑x : Int) / (2 : Int)).toNat -
 (48 : Int)))) ∧
 ((0 : Int) ≤
 (applyF (k - (1 : Int)).toNat
 (s.extract ((1 : Int) * (2 : Int) ^ (k - (1 : Int)).toNat).toNat
 ((1 : Int) * (2 : Int) ^ (k - (1 : Int)).toNat +
 switchesF (k - (1 : Int))).toNat)).getD
 ((↑x : Int) / (2 : Int)).toNat (0 : Int) ∧
 (applyF (k - (1 : Int)).toNat
 (s.extract ((1 : Int) * (2 : Int) ^ (k - (1 : Int)).toNat).toNat
 ((1 : Int) * (2 : Int) ^ (k - (1 : Int)).toNat +
 switchesF (k - (1 : Int))).toNat)).getD
 ((↑x : Int) / (2 : Int)).toNat (0 : Int) <
 (↑(s.extract
 ((1 : Int) * (2 : Int) ^ (k - (1 : Int)).toNat +
 (2 : Int) * switchesF (k - (1 : Int))).toNat
 (↑s.size : Int).toNat).size :
 Int)) ∧
 Fits IntKind.i64
 (IntKind.u8.wrap
 (bt
 (s.extract
 ((1 : Int) * (2 : Int) ^ (k - (1 : Int)).toNat +
 (2 : Int) * switchesF (k - (1 : Int))).toNat
 (↑s.size : Int).toNat)
 ((applyF (k - (1 : Int)).toNat
 (s.extract
 ((1 : Int) * (2 : Int) ^ (k - (1 : Int)).toNat).toNat
 ((1 : Int) * (2 : Int) ^ (k - (1 : Int)).toNat +
 switchesF (k - (1 : Int))).toNat)).getD
 ((↑x : Int) / (2 : Int)).toNat (0 : Int)).toNat -
 (48 : Int))) ∧
 ((0 : Int) ≤ (↑x : Int) ∧
 (↑x : Int) < (↑(applyTo k.toNat s x).length : Int)) ∧
 Fits IntKind.i64 ((↑x : Int) + (1 : Int)) ∧
 ∃ (x' : Nat),
 x' ≤ (2 : Nat) * hN k.toNat ∧
 (2 : Nat) * hN k.toNat - x' < (2 : Nat) * hN k.toNat - x ∧
 ((applyF (k - (1 : Int)).toNat
 (s.extract
 ((1 : Int) * (2 : Int) ^ (k - (1 : Int)).toNat).toNat
 ((1 : Int) * (2 : Int) ^ (k - (1 : Int)).toNat +
 switchesF (k - (1 : Int))).toNat) =
 applyF (k - (1 : Int)).toNat
 (s.extract
 ((1 : Int) * (2 : Int) ^ (k - (1 : Int)).toNat).toNat
 ((1 : Int) * (2 : Int) ^ (k - (1 : Int)).toNat +
 switchesF (k - (1 : Int))).toNat) ∧
 applyF (k - (1 : Int)).toNat
 (s.extract
 ((1 : Int) * (2 : Int) ^ (k - (1 : Int)).toNat +
 switchesF (k - (1 : Int))).toNat
 ((1 : Int) * (2 : Int) ^ (k - (1 : Int)).toNat +
 (2 : Int) * switchesF (k - (1 : Int))).toNat) =
 applyF (k - (1 : Int)).toNat
 (s.extract
 ((1 : Int) * (2 : Int) ^ (k - (1 : Int)).toNat +
 switchesF (k - (1 : Int))).toNat
 ((1 : Int) * (2 : Int) ^ (k - (1 : Int)).toNat +
 (2 : Int) * switchesF (k - (1 : Int))).toNat) ∧
 True) ∧
 (applyTo k.toNat s x).set (↑x : Int).toNat
 (bitsF BinOp.xor IntKind.i64
 ((2 : Int) *
 (applyF (k - (1 : Int)).toNat
 (s.extract
 ((1 : Int) *
 (2 : Int) ^
 (k - (1 : Int)).toNat).toNat
 ((1 : Int) *
 (2 : Int) ^ (k - (1 : Int)).toNat +
 switchesF
 (k - (1 : Int))).toNat)).getD
 ((↑x : Int) / (2 : Int)).toNat (0 : Int) +
 bitsF BinOp.xor IntKind.i64 ((↑x : Int) % (2 : Int))
 (IntKind.u8.wrap
 (bt
 (s.extract (↑(0 : Nat) : Int).toNat
 ((1 : Int) *
 (2 : Int) ^
 (k - (1 : Int)).toNat).toNat)
 ((↑x : Int) / (2 : Int)).toNat -
 (48 : Int))))
 (IntKind.u8.wrap
 (bt
 (s.extract
 ((1 : Int) *
 (2 : Int) ^ (k - (1 : Int)).toNat +
 (2 : Int) *
 switchesF (k - (1 : Int))).toNat
 (↑s.size : Int).toNat)
 ((applyF (k - (1 : Int)).toNat
 (s.extract
 ((1 : Int) *
 (2 : Int) ^
 (k - (1 : Int)).toNat).toNat
 ((1 : Int) *
 (2 : Int) ^
 (k - (1 : Int)).toNat +
 switchesF
 (k - (1 : Int))).toNat)).getD
 ((↑x : Int) / (2 : Int)).toNat
 (0 : Int)).toNat -
 (48 : Int)))) =
 applyTo k.toNat s x' ∧
 True) ∧
 (↑x : Int) + (1 : Int) = (↑x' : Int) ∧
 (↑(List.replicate
 ((2 : Int) *
 ((1 : Int) *
 (2 : Int) ^ (k - (1 : Int)).toNat)).toNat
 (0 : Int)).length :
 Int) =
 (↑(List.replicate
 ((2 : Int) *
 ((1 : Int) *
 (2 : Int) ^ (k - (1 : Int)).toNat)).toNat
 (0 : Int)).length :
 Int) ∧
 True ∧
 True ∧
 s.extract
 ((1 : Int) * (2 : Int) ^ (k - (1 : Int)).toNat +
 (2 : Int) * switchesF (k - (1 : Int))).toNat
 (↑s.size : Int).toNat =
 s.extract
 ((1 : Int) * (2 : Int) ^ (k - (1 : Int)).toNat +
 (2 : Int) * switchesF (k - (1 : Int))).toNat
 (↑s.size : Int).toNat ∧
 s.extract (↑(0 : Nat) : Int).toNat
 ((1 : Int) *
 (2 : Int) ^ (k - (1 : Int)).toNat).toNat =
 s.extract (↑(0 : Nat) : Int).toNat
 ((1 : Int) *
 (2 : Int) ^ (k - (1 : Int)).toNat).toNat ∧
 True)) ∧
 (bitsF BinOp.xor IntKind.i64 ((↑x : Int) % (2 : Int))
 (IntKind.u8.wrap
 (bt
 (s.extract (↑(0 : Nat) : Int).toNat
 ((1 : Int) * (2 : Int) ^ (k - (1 : Int)).toNat).toNat)
 ((↑x : Int) / (2 : Int)).toNat -
 (48 : Int))) =
 (↑(1 : Nat) : Int) →
 ((0 : Int) ≤ (↑x : Int) ∧ (0 : Int) < (2 : Int)) ∧
 Fits IntKind.i64 ((↑x : Int) / (2 : Int)) ∧
 ((0 : Int) ≤ (↑x : Int) / (2 : Int) ∧
 (↑x : Int) / (2 : Int) <
 (↑(applyF (k - (1 : Int)).toNat
 (s.extract
 ((1 : Int) * (2 : Int) ^ (k - (1 : Int)).toNat +
 switchesF (k - (1 : Int))).toNat
 ((1 : Int) * (2 : Int) ^ (k - (1 : Int)).toNat +
 (2 : Int) * switchesF (k - (1 : Int))).toNat)).length :
 Int)) ∧
 Fits IntKind.i64
 ((2 : Int) *
 (applyF (k - (1 : Int)).toNat
 (s.extract
 ((1 : Int) * (2 : Int) ^ (k - (1 : Int)).toNat +
 switchesF (k - (1 : Int))).toNat
 ((1 : Int) * (2 : Int) ^ (k - (1 : Int)).toNat +
 (2 : Int) * switchesF (k - (1 : Int))).toNat)).getD
 ((↑x : Int) / (2 : Int)).toNat (0 : Int)) ∧
 Fits IntKind.i64
 ((2 : Int) *
 (applyF (k - (1 : Int)).toNat
 (s.extract
 ((1 : Int) * (2 : Int) ^ (k - (1 : Int)).toNat +
 switchesF (k - (1 : Int))).toNat
 ((1 : Int) * (2 : Int) ^ (k - (1 : Int)).toNat +
 (2 : Int) * switchesF (k - (1 : Int))).toNat)).getD
 ((↑x : Int) / (2 : Int)).toNat (0 : Int) +
 bitsF BinOp.xor IntKind.i64 ((↑x : Int) % (2 : Int))
 (IntKind.u8.wrap
 (bt
 (s.extract (↑(0 : Nat) : Int).toNat
 ((1 : Int) * (2 : Int) ^ (k - (1 : Int)).toNat).toNat)
 ((↑x : Int) / (2 : Int)).toNat -
 (48 : Int)))) ∧
 ((0 : Int) ≤
 (applyF (k - (1 : Int)).toNat
 (s.extract
 ((1 : Int) * (2 : Int) ^ (k - (1 : Int)).toNat +
 switchesF (k - (1 : Int))).toNat
 ((1 : Int) * (2 : Int) ^ (k - (1 : Int)).toNat +
 (2 : Int) * switchesF (k - (1 : Int))).toNat)).getD
 ((↑x : Int) / (2 : Int)).toNat (0 : Int) ∧
 (applyF (k - (1 : Int)).toNat
 (s.extract
 ((1 : Int) * (2 : Int) ^ (k - (1 : Int)).toNat +
 switchesF (k - (1 : Int))).toNat
 ((1 : Int) * (2 : Int) ^ (k - (1 : Int)).toNat +
 (2 : Int) * switchesF (k - (1 : Int))).toNat)).getD
 ((↑x : Int) / (2 : Int)).toNat (0 : Int) <
 (↑(s.extract
 ((1 : Int) * (2 : Int) ^ (k - (1 : Int)).toNat +
 (2 : Int) * switchesF (k - (1 : Int))).toNat
 (↑s.size : Int).toNat).size :
 Int)) ∧
 Fits IntKind.i64
 (IntKind.u8.wrap
 (bt
 (s.extract
 ((1 : Int) * (2 : Int) ^ (k - (1 : Int)).toNat +
 (2 : Int) * switchesF (k - (1 : Int))).toNat
 (↑s.size : Int).toNat)
 ((applyF (k - (1 : Int)).toNat
 (s.extract
 ((1 : Int) * (2 : Int) ^ (k - (1 : Int)).toNat +
 switchesF (k - (1 : Int))).toNat
 ((1 : Int) * (2 : Int) ^ (k - (1 : Int)).toNat +
 (2 : Int) * switchesF (k - (1 : Int))).toNat)).getD
 ((↑x : Int) / (2 : Int)).toNat (0 : Int)).toNat -
 (48 : Int))) ∧
 ((0 : Int) ≤ (↑x : Int) ∧
 (↑x : Int) < (↑(applyTo k.toNat s x).length : Int)) ∧
 Fits IntKind.i64 ((↑x : Int) + (1 : Int)) ∧
 ∃ (x' : Nat),
 x' ≤ (2 : Nat) * hN k.toNat ∧
 (2 : Nat) * hN k.toNat - x' < (2 : Nat) * hN k.toNat - x ∧
 ((applyF (k - (1 : Int)).toNat
 (s.extract
 ((1 : Int) * (2 : Int) ^ (k - (1 : Int)).toNat).toNat
 ((1 : Int) * (2 : Int) ^ (k - (1 : Int)).toNat +
 switchesF (k - (1 : Int))).toNat) =
 applyF (k - (1 : Int)).toNat
 (s.extract
 ((1 : Int) * (2 : Int) ^ (k - (1 : Int)).toNat).toNat
 ((1 : Int) * (2 : Int) ^ (k - (1 : Int)).toNat +
 switchesF (k - (1 : Int))).toNat) ∧
 applyF (k - (1 : Int)).toNat
 (s.extract
 ((1 : Int) * (2 : Int) ^ (k - (1 : Int)).toNat +
 switchesF (k - (1 : Int))).toNat
 ((1 : Int) * (2 : Int) ^ (k - (1 : Int)).toNat +
 (2 : Int) * switchesF (k - (1 : Int))).toNat) =
 applyF (k - (1 : Int)).toNat
 (s.extract
 ((1 : Int) * (2 : Int) ^ (k - (1 : Int)).toNat +
 switchesF (k - (1 : Int))).toNat
 ((1 : Int) * (2 : Int) ^ (k - (1 : Int)).toNat +
 (2 : Int) * switchesF (k - (1 : Int))).toNat) ∧
 True) ∧
 (applyTo k.toNat s x).set (↑x : Int).toNat
 (bitsF BinOp.xor IntKind.i64
 ((2 : Int) *
 (applyF (k - (1 : Int)).toNat
 (s.extract
 ((1 : Int) *
 (2 : Int) ^ (k - (1 : Int)).toNat +
 switchesF (k - (1 : Int))).toNat
 ((1 : Int) *
 (2 : Int) ^ (k - (1 : Int)).toNat +
 (2 : Int) *
 switchesF
 (k - (1 : Int))).toNat)).getD
 ((↑x : Int) / (2 : Int)).toNat (0 : Int) +
 bitsF BinOp.xor IntKind.i64 ((↑x : Int) % (2 : Int))
 (IntKind.u8.wrap
 (bt
 (s.extract (↑(0 : Nat) : Int).toNat
 ((1 : Int) *
 (2 : Int) ^
 (k - (1 : Int)).toNat).toNat)
 ((↑x : Int) / (2 : Int)).toNat -
 (48 : Int))))
 (IntKind.u8.wrap
 (bt
 (s.extract
 ((1 : Int) * (2 : Int) ^ (k - (1 : Int)).toNat +
 (2 : Int) * switchesF (k - (1 : Int))).toNat
 (↑s.size : Int).toNat)
 ((applyF (k - (1 : Int)).toNat
 (s.extract
 ((1 : Int) *
 (2 : Int) ^
 (k - (1 : Int)).toNat +
 switchesF (k - (1 : Int))).toNat
 ((1 : Int) *
 (2 : Int) ^
 (k - (1 : Int)).toNat +
 (2 : Int) *
 switchesF
 (k - (1 : Int))).toNat)).getD
 ((↑x : Int) / (2 : Int)).toNat
 (0 : Int)).toNat -
 (48 : Int)))) =
 applyTo k.toNat s x' ∧
 True) ∧
 (↑x : Int) + (1 : Int) = (↑x' : Int) ∧
 (↑(List.replicate
 ((2 : Int) *
 ((1 : Int) *
 (2 : Int) ^ (k - (1 : Int)).toNat)).toNat
 (0 : Int)).length :
 Int) =
 (↑(List.replicate
 ((2 : Int) *
 ((1 : Int) *
 (2 : Int) ^ (k - (1 : Int)).toNat)).toNat
 (0 : Int)).length :
 Int) ∧
 True ∧
 True ∧
 s.extract
 ((1 : Int) * (2 : Int) ^ (k - (1 : Int)).toNat +
 (2 : Int) * switchesF (k - (1 : Int))).toNat
 (↑s.size : Int).toNat =
 s.extract
 ((1 : Int) * (2 : Int) ^ (k - (1 : Int)).toNat +
 (2 : Int) * switchesF (k - (1 : Int))).toNat
 (↑s.size : Int).toNat ∧
 s.extract (↑(0 : Nat) : Int).toNat
 ((1 : Int) *
 (2 : Int) ^ (k - (1 : Int)).toNat).toNat =
 s.extract (↑(0 : Nat) : Int).toNat
 ((1 : Int) *
 (2 : Int) ^ (k - (1 : Int)).toNat).toNat ∧
 True)) ∧
 (¬(↑x : Int) <
 (↑(List.replicate ((2 : Int) * ((1 : Int) * (2 : Int) ^ (k - (1 : Int)).toNat)).toNat (0 : Int)).length :
 Int) →
 ¬(↑x : Int) <
 (↑(List.replicate ((2 : Int) * ((1 : Int) * (2 : Int) ^ (k - (1 : Int)).toNat)).toNat
 (0 : Int)).length :
 Int) ∧
 applyTo k.toNat s x = applyF k.toNat s)) ∧
 ((((1 : Int) ≤ k - (1 : Int) ∧ k - (1 : Int) ≤ (3 : Int)) ∧
 (s.extract ((1 : Int) * (2 : Int) ^ (k - (1 : Int)).toNat).toNat
 ((1 : Int) * (2 : Int) ^ (k - (1 : Int)).toNat + switchesF (k - (1 : Int))).toNat).size =
 swN (k - (1 : Int)).toNat ∧
 ∀ (i : Nat),
 i <
 (s.extract ((1 : Int) * (2 : Int) ^ (k - (1 : Int)).toNat).toNat
 ((1 : Int) * (2 : Int) ^ (k - (1 : Int)).toNat + switchesF (k - (1 : Int))).toNat).size →
 bt
 (s.extract ((1 : Int) * (2 : Int) ^ (k - (1 : Int)).toNat).toNat
 ((1 : Int) * (2 : Int) ^ (k - (1 : Int)).toNat + switchesF (k - (1 : Int))).toNat)
 i =
 (48 : Int) ∨
 bt
 (s.extract ((1 : Int) * (2 : Int) ^ (k - (1 : Int)).toNat).toNat
 ((1 : Int) * (2 : Int) ^ (k - (1 : Int)).toNat + switchesF (k - (1 : Int))).toNat)
 i =
 (49 : Int)) ∧
 m53
 (k - (1 : Int),
 s.extract ((1 : Int) * (2 : Int) ^ (k - (1 : Int)).toNat).toNat
 ((1 : Int) * (2 : Int) ^ (k - (1 : Int)).toNat + switchesF (k - (1 : Int))).toNat) <
 m53 (k, s)) ∧
 ((((1 : Int) ≤ k - (1 : Int) ∧ k - (1 : Int) ≤ (3 : Int)) ∧
 (s.extract ((1 : Int) * (2 : Int) ^ (k - (1 : Int)).toNat + switchesF (k - (1 : Int))).toNat
 ((1 : Int) * (2 : Int) ^ (k - (1 : Int)).toNat + (2 : Int) * switchesF (k - (1 : Int))).toNat).size =
 swN (k - (1 : Int)).toNat ∧
 ∀ (i : Nat),
 i <
 (s.extract ((1 : Int) * (2 : Int) ^ (k - (1 : Int)).toNat + switchesF (k - (1 : Int))).toNat
 ((1 : Int) * (2 : Int) ^ (k - (1 : Int)).toNat + (2 : Int) * switchesF (k - (1 : Int))).toNat).size →
 bt
 (s.extract ((1 : Int) * (2 : Int) ^ (k - (1 : Int)).toNat + switchesF (k - (1 : Int))).toNat
 ((1 : Int) * (2 : Int) ^ (k - (1 : Int)).toNat + (2 : Int) * switchesF (k - (1 : Int))).toNat)
 i =
 (48 : Int) ∨
 bt
 (s.extract ((1 : Int) * (2 : Int) ^ (k - (1 : Int)).toNat + switchesF (k - (1 : Int))).toNat
 ((1 : Int) * (2 : Int) ^ (k - (1 : Int)).toNat + (2 : Int) * switchesF (k - (1 : Int))).toNat)
 i =
 (49 : Int)) ∧
 m53
 (k - (1 : Int),
 s.extract ((1 : Int) * (2 : Int) ^ (k - (1 : Int)).toNat + switchesF (k - (1 : Int))).toNat
 ((1 : Int) * (2 : Int) ^ (k - (1 : Int)).toNat + (2 : Int) * switchesF (k - (1 : Int))).toNat) <
 m53 (k, s)) ∧
 Fits IntKind.i64 ((2 : Int) * ((1 : Int) * (2 : Int) ^ (k - (1 : Int)).toNat)) ∧
 ((0 : Int) ≤ (2 : Int) * ((1 : Int) * (2 : Int) ^ (k - (1 : Int)).toNat) ∧
 (2 : Int) * ((1 : Int) * (2 : Int) ^ (k - (1 : Int)).toNat) ≤
 (2 : Int) * ((1 : Int) * (2 : Int) ^ (k - (1 : Int)).toNat) ∧
 Small ((2 : Int) * ((1 : Int) * (2 : Int) ^ (k - (1 : Int)).toNat)).toNat) ∧
 (∃ (x0 : Nat),
 x0 ≤ (2 : Nat) * hN k.toNat ∧
 ((applyF (k - (1 : Int)).toNat
 (s.extract ((1 : Int) * (2 : Int) ^ (k - (1 : Int)).toNat).toNat
 ((1 : Int) * (2 : Int) ^ (k - (1 : Int)).toNat + switchesF (k - (1 : Int))).toNat) =
 applyF (k - (1 : Int)).toNat
 (s.extract ((1 : Int) * (2 : Int) ^ (k - (1 : Int)).toNat).toNat
 ((1 : Int) * (2 : Int) ^ (k - (1 : Int)).toNat + switchesF (k - (1 : Int))).toNat) ∧
 applyF (k - (1 : Int)).toNat
 (s.extract ((1 : Int) * (2 : Int) ^ (k - (1 : Int)).toNat + switchesF (k - (1 : Int))).toNat
 ((1 : Int) * (2 : Int) ^ (k - (1 : Int)).toNat + (2 : Int) * switchesF (k - (1 : Int))).toNat) =
 applyF (k - (1 : Int)).toNat
 (s.extract ((1 : Int) * (2 : Int) ^ (k - (1 : Int)).toNat + switchesF (k - (1 : Int))).toNat
 ((1 : Int) * (2 : Int) ^ (k - (1 : Int)).toNat + (2 : Int) * switchesF (k - (1 : Int))).toNat) ∧
 True) ∧
 List.replicate ((2 : Int) * ((1 : Int) * (2 : Int) ^ (k - (1 : Int)).toNat)).toNat (0 : Int) =
 applyTo k.toNat s x0 ∧
 True) ∧
 (0 : Int) = (↑x0 : Int) ∧
 (↑(List.replicate ((2 : Int) * ((1 : Int) * (2 : Int) ^ (k - (1 : Int)).toNat)).toNat (0 : Int)).length : Int) =
 (↑(List.replicate ((2 : Int) * ((1 : Int) * (2 : Int) ^ (k - (1 : Int)).toNat)).toNat (0 : Int)).length :
 Int) ∧
 True ∧
 True ∧
 s.extract ((1 : Int) * (2 : Int) ^ (k - (1 : Int)).toNat + (2 : Int) * switchesF (k - (1 : Int))).toNat
 (↑s.size : Int).toNat =
 s.extract
 ((1 : Int) * (2 : Int) ^ (k - (1 : Int)).toNat + (2 : Int) * switchesF (k - (1 : Int))).toNat
 (↑s.size : Int).toNat ∧
 s.extract (↑(0 : Nat) : Int).toNat ((1 : Int) * (2 : Int) ^ (k - (1 : Int)).toNat).toNat =
 s.extract (↑(0 : Nat) : Int).toNat ((1 : Int) * (2 : Int) ^ (k - (1 : Int)).toNat).toNat ∧
 True) ∧
 ∀ (x : Nat),
 x ≤ (2 : Nat) * hN k.toNat →
 ((↑x : Int) <
 (↑(List.replicate ((2 : Int) * ((1 : Int) * (2 : Int) ^ (k - (1 : Int)).toNat)).toNat (0 : Int)).length :
 Int) →
 (↑x : Int) <
 (↑(List.replicate ((2 : Int) * ((1 : Int) * (2 : Int) ^ (k - (1 : Int)).toNat)).toNat (0 : Int)).length :
 Int) ∧
 ((0 : Int) ≤ (↑x : Int) ∧ (0 : Int) < (2 : Int)) ∧
 ((0 : Int) ≤ (↑x : Int) ∧ (0 : Int) < (2 : Int)) ∧
 Fits IntKind.i64 ((↑x : Int) / (2 : Int)) ∧
 ((0 : Int) ≤ (↑x : Int) / (2 : Int) ∧
 (↑x : Int) / (2 : Int) <
 (↑(s.extract (↑(0 : Nat) : Int).toNat
 ((1 : Int) * (2 : Int) ^ (k - (1 : Int)).toNat).toNat).size :
 Int)) ∧
 Fits IntKind.i64
 (IntKind.u8.wrap
 (bt (s.extract (↑(0 : Nat) : Int).toNat ((1 : Int) * (2 : Int) ^ (k - (1 : Int)).toNat).toNat)
 ((↑x : Int) / (2 : Int)).toNat -
 (48 : Int))) ∧
 ((0 : Int) ≤
 bitsF BinOp.xor IntKind.i64 ((↑x : Int) % (2 : Int))
 (IntKind.u8.wrap
 (bt
 (s.extract (↑(0 : Nat) : Int).toNat
 ((1 : Int) * (2 : Int) ^ (k - (1 : Int)).toNat).toNat)
 ((↑x : Int) / (2 : Int)).toNat -
 (48 : Int))) ∧
 bitsF BinOp.xor IntKind.i64 ((↑x : Int) % (2 : Int))
 (IntKind.u8.wrap
 (bt
 (s.extract (↑(0 : Nat) : Int).toNat
 ((1 : Int) * (2 : Int) ^ (k - (1 : Int)).toNat).toNat)
 ((↑x : Int) / (2 : Int)).toNat -
 (48 : Int))) <
 (↑(2 : Nat) : Int)) ∧
 (True ∧
 (bitsF BinOp.xor IntKind.i64 ((↑x : Int) % (2 : Int))
 (IntKind.u8.wrap
 (bt
 (s.extract (↑(0 : Nat) : Int).toNat
 ((1 : Int) * (2 : Int) ^ (k - (1 : Int)).toNat).toNat)
 ((↑x : Int) / (2 : Int)).toNat -
 (48 : Int))) =
 (↑(0 : Nat) : Int) →
 ((0 : Int) ≤ (↑x : Int) ∧ (0 : Int) < (2 : Int)) ∧
 Fits IntKind.i64 ((↑x : Int) / (2 : Int)) ∧
 ((0 : Int) ≤ (↑x : Int) / (2 : Int) ∧
 (↑x : Int) / (2 : Int) <
 (↑(applyF (k - (1 : Int)).toNat
 (s.extract ((1 : Int) * (2 : Int) ^ (k - (1 : Int)).toNat).toNat
 ((1 : Int) * (2 : Int) ^ (k - (1 : Int)).toNat +
 switchesF (k - (1 : Int))).toNat)).length :
 Int)) ∧
 Fits IntKind.i64
 ((2 : Int) *
 (applyF (k - (1 : Int)).toNat
 (s.extract ((1 : Int) * (2 : Int) ^ (k - (1 : Int)).toNat).toNat
 ((1 : Int) * (2 : Int) ^ (k - (1 : Int)).toNat +
 switchesF (k - (1 : Int))).toNat)).getD
 ((↑x : Int) / (2 : Int)).toNat (0 : Int)) ∧
 Fits IntKind.i64
 ((2 : Int) *
 (applyF (k - (1 : Int)).toNat
 (s.extract ((1 : Int) * (2 : Int) ^ (k - (1 : Int)).toNat).toNat
 ((1 : Int) * (2 : Int) ^ (k - (1 : Int)).toNat +
 switchesF (k - (1 : Int))).toNat)).getD
 ((↑x : Int) / (2 : Int)).toNat (0 : Int) +
 bitsF BinOp.xor IntKind.i64 ((↑x : Int) % (2 : Int))
 (IntKind.u8.wrap
 (bt
 (s.extract (↑(0 : Nat) : Int).toNat
 ((1 : Int) * (2 : Int) ^ (k - (1 : Int)).toNat).toNat)
 ((↑x : Int) / (2 : Int)).toNat -
 (48 : Int)))) ∧
 ((0 : Int) ≤
 (applyF (k - (1 : Int)).toNat
 (s.extract ((1 : Int) * (2 : Int) ^ (k - (1 : Int)).toNat).toNat
 ((1 : Int) * (2 : Int) ^ (k - (1 : Int)).toNat +
 switchesF (k - (1 : Int))).toNat)).getD
 ((↑x : Int) / (2 : Int)).toNat (0 : Int) ∧
 (applyF (k - (1 : Int)).toNat
 (s.extract ((1 : Int) * (2 : Int) ^ (k - (1 : Int)).toNat).toNat
 ((1 : Int) * (2 : Int) ^ (k - (1 : Int)).toNat +
 switchesF (k - (1 : Int))).toNat)).getD
 ((↑x : Int) / (2 : Int)).toNat (0 : Int) <
 (↑(s.extract
 ((1 : Int) * (2 : Int) ^ (k - (1 : Int)).toNat +
 (2 : Int) * switchesF (k - (1 : Int))).toNat
 (↑s.size : Int).toNat).size :
 Int)) ∧
 Fits IntKind.i64
 (IntKind.u8.wrap
 (bt
 (s.extract
 ((1 : Int) * (2 : Int) ^ (k - (1 : Int)).toNat +
 (2 : Int) * switchesF (k - (1 : Int))).toNat
 (↑s.size : Int).toNat)
 ((applyF (k - (1 : Int)).toNat
 (s.extract
 ((1 : Int) * (2 : Int) ^ (k - (1 : Int)).toNat).toNat
 ((1 : Int) * (2 : Int) ^ (k - (1 : Int)).toNat +
 switchesF (k - (1 : Int))).toNat)).getD
 ((↑x : Int) / (2 : Int)).toNat (0 : Int)).toNat -
 (48 : Int))) ∧
 ((0 : Int) ≤ (↑x : Int) ∧
 (↑x : Int) < (↑(applyTo k.toNat s x).length : Int)) ∧
 Fits IntKind.i64 ((↑x : Int) + (1 : Int)) ∧
 ∃ (x' : Nat),
 x' ≤ (2 : Nat) * hN k.toNat ∧
 (2 : Nat) * hN k.toNat - x' < (2 : Nat) * hN k.toNat - x ∧
 ((applyF (k - (1 : Int)).toNat
 (s.extract
 ((1 : Int) * (2 : Int) ^ (k - (1 : Int)).toNat).toNat
 ((1 : Int) * (2 : Int) ^ (k - (1 : Int)).toNat +
 switchesF (k - (1 : Int))).toNat) =
 applyF (k - (1 : Int)).toNat
 (s.extract
 ((1 : Int) * (2 : Int) ^ (k - (1 : Int)).toNat).toNat
 ((1 : Int) * (2 : Int) ^ (k - (1 : Int)).toNat +
 switchesF (k - (1 : Int))).toNat) ∧
 applyF (k - (1 : Int)).toNat
 (s.extract
 ((1 : Int) * (2 : Int) ^ (k - (1 : Int)).toNat +
 switchesF (k - (1 : Int))).toNat
 ((1 : Int) * (2 : Int) ^ (k - (1 : Int)).toNat +
 (2 : Int) * switchesF (k - (1 : Int))).toNat) =
 applyF (k - (1 : Int)).toNat
 (s.extract
 ((1 : Int) * (2 : Int) ^ (k - (1 : Int)).toNat +
 switchesF (k - (1 : Int))).toNat
 ((1 : Int) * (2 : Int) ^ (k - (1 : Int)).toNat +
 (2 : Int) * switchesF (k - (1 : Int))).toNat) ∧
 True) ∧
 (applyTo k.toNat s x).set (↑x : Int).toNat
 (bitsF BinOp.xor IntKind.i64
 ((2 : Int) *
 (applyF (k - (1 : Int)).toNat
 (s.extract
 ((1 : Int) *
 (2 : Int) ^ (k - (1 : Int)).toNat).toNat
 ((1 : Int) *
 (2 : Int) ^ (k - (1 : Int)).toNat +
 switchesF (k - (1 : Int))).toNat)).getD
 ((↑x : Int) / (2 : Int)).toNat (0 : Int) +
 bitsF BinOp.xor IntKind.i64 ((↑x : Int) % (2 : Int))
 (IntKind.u8.wrap
 (bt
 (s.extract (↑(0 : Nat) : Int).toNat
 ((1 : Int) *
 (2 : Int) ^
 (k - (1 : Int)).toNat).toNat)
 ((↑x : Int) / (2 : Int)).toNat -
 (48 : Int))))
 (IntKind.u8.wrap
 (bt
 (s.extract
 ((1 : Int) * (2 : Int) ^ (k - (1 : Int)).toNat +
 (2 : Int) * switchesF (k - (1 : Int))).toNat
 (↑s.size : Int).toNat)
 ((applyF (k - (1 : Int)).toNat
 (s.extract
 ((1 : Int) *
 (2 : Int) ^
 (k - (1 : Int)).toNat).toNat
 ((1 : Int) *
 (2 : Int) ^
 (k - (1 : Int)).toNat +
 switchesF
 (k - (1 : Int))).toNat)).getD
 ((↑x : Int) / (2 : Int)).toNat
 (0 : Int)).toNat -
 (48 : Int)))) =
 applyTo k.toNat s x' ∧
 True) ∧
 (↑x : Int) + (1 : Int) = (↑x' : Int) ∧
 (↑(List.replicate
 ((2 : Int) *
 ((1 : Int) *
 (2 : Int) ^ (k - (1 : Int)).toNat)).toNat
 (0 : Int)).length :
 Int) =
 (↑(List.replicate
 ((2 : Int) *
 ((1 : Int) *
 (2 : Int) ^ (k - (1 : Int)).toNat)).toNat
 (0 : Int)).length :
 Int) ∧
 True ∧
 True ∧
 s.extract
 ((1 : Int) * (2 : Int) ^ (k - (1 : Int)).toNat +
 (2 : Int) * switchesF (k - (1 : Int))).toNat
 (↑s.size : Int).toNat =
 s.extract
 ((1 : Int) * (2 : Int) ^ (k - (1 : Int)).toNat +
 (2 : Int) * switchesF (k - (1 : Int))).toNat
 (↑s.size : Int).toNat ∧
 s.extract (↑(0 : Nat) : Int).toNat
 ((1 : Int) *
 (2 : Int) ^ (k - (1 : Int)).toNat).toNat =
 s.extract (↑(0 : Nat) : Int).toNat
 ((1 : Int) *
 (2 : Int) ^ (k - (1 : Int)).toNat).toNat ∧
 True)) ∧
 (bitsF BinOp.xor IntKind.i64 ((↑x : Int) % (2 : Int))
 (IntKind.u8.wrap
 (bt
 (s.extract (↑(0 : Nat) : Int).toNat
 ((1 : Int) * (2 : Int) ^ (k - (1 : Int)).toNat).toNat)
 ((↑x : Int) / (2 : Int)).toNat -
 (48 : Int))) =
 (↑(1 : Nat) : Int) →
 ((0 : Int) ≤ (↑x : Int) ∧ (0 : Int) < (2 : Int)) ∧
 Fits IntKind.i64 ((↑x : Int) / (2 : Int)) ∧
 ((0 : Int) ≤ (↑x : Int) / (2 : Int) ∧
 (↑x : Int) / (2 : Int) <
 (↑(applyF (k - (1 : Int)).toNat
 (s.extract
 ((1 : Int) * (2 : Int) ^ (k - (1 : Int)).toNat +
 switchesF (k - (1 : Int))).toNat
 ((1 : Int) * (2 : Int) ^ (k - (1 : Int)).toNat +
 (2 : Int) * switchesF (k - (1 : Int))).toNat)).length :
 Int)) ∧
 Fits IntKind.i64
 ((2 : Int) *
 (applyF (k - (1 : Int)).toNat
 (s.extract
 ((1 : Int) * (2 : Int) ^ (k - (1 : Int)).toNat +
 switchesF (k - (1 : Int))).toNat
 ((1 : Int) * (2 : Int) ^ (k - (1 : Int)).toNat +
 (2 : Int) * switchesF (k - (1 : Int))).toNat)).getD
 ((↑x : Int) / (2 : Int)).toNat (0 : Int)) ∧
 Fits IntKind.i64
 ((2 : Int) *
 (applyF (k - (1 : Int)).toNat
 (s.extract
 ((1 : Int) * (2 : Int) ^ (k - (1 : Int)).toNat +
 switchesF (k - (1 : Int))).toNat
 ((1 : Int) * (2 : Int) ^ (k - (1 : Int)).toNat +
 (2 : Int) * switchesF (k - (1 : Int))).toNat)).getD
 ((↑x : Int) / (2 : Int)).toNat (0 : Int) +
 bitsF BinOp.xor IntKind.i64 ((↑x : Int) % (2 : Int))
 (IntKind.u8.wrap
 (bt
 (s.extract (↑(0 : Nat) : Int).toNat
 ((1 : Int) * (2 : Int) ^ (k - (1 : Int)).toNat).toNat)
 ((↑x : Int) / (2 : Int)).toNat -
 (48 : Int)))) ∧
 ((0 : Int) ≤
 (applyF (k - (1 : Int)).toNat
 (s.extract
 ((1 : Int) * (2 : Int) ^ (k - (1 : Int)).toNat +
 switchesF (k - (1 : Int))).toNat
 ((1 : Int) * (2 : Int) ^ (k - (1 : Int)).toNat +
 (2 : Int) * switchesF (k - (1 : Int))).toNat)).getD
 ((↑x : Int) / (2 : Int)).toNat (0 : Int) ∧
 (applyF (k - (1 : Int)).toNat
 (s.extract
 ((1 : Int) * (2 : Int) ^ (k - (1 : Int)).toNat +
 switchesF (k - (1 : Int))).toNat
 ((1 : Int) * (2 : Int) ^ (k - (1 : Int)).toNat +
 (2 : Int) * switchesF (k - (1 : Int))).toNat)).getD
 ((↑x : Int) / (2 : Int)).toNat (0 : Int) <
 (↑(s.extract
 ((1 : Int) * (2 : Int) ^ (k - (1 : Int)).toNat +
 (2 : Int) * switchesF (k - (1 : Int))).toNat
 (↑s.size : Int).toNat).size :
 Int)) ∧
 Fits IntKind.i64
 (IntKind.u8.wrap
 (bt
 (s.extract
 ((1 : Int) * (2 : Int) ^ (k - (1 : Int)).toNat +
 (2 : Int) * switchesF (k - (1 : Int))).toNat
 (↑s.size : Int).toNat)
 ((applyF (k - (1 : Int)).toNat
 (s.extract
 ((1 : Int) * (2 : Int) ^ (k - (1 : Int)).toNat +
 switchesF (k - (1 : Int))).toNat
 ((1 : Int) * (2 : Int) ^ (k - (1 : Int)).toNat +
 (2 : Int) * switchesF (k - (1 : Int))).toNat)).getD
 ((↑x : Int) / (2 : Int)).toNat (0 : Int)).toNat -
 (48 : Int))) ∧
 ((0 : Int) ≤ (↑x : Int) ∧ (↑x : Int) < (↑(applyTo k.toNat s x).length : Int)) ∧
 Fits IntKind.i64 ((↑x : Int) + (1 : Int)) ∧
 ∃ (x' : Nat),
 x' ≤ (2 : Nat) * hN k.toNat ∧
 (2 : Nat) * hN k.toNat - x' < (2 : Nat) * hN k.toNat - x ∧
 ((applyF (k - (1 : Int)).toNat
 (s.extract
 ((1 : Int) * (2 : Int) ^ (k - (1 : Int)).toNat).toNat
 ((1 : Int) * (2 : Int) ^ (k - (1 : Int)).toNat +
 switchesF (k - (1 : Int))).toNat) =
 applyF (k - (1 : Int)).toNat
 (s.extract
 ((1 : Int) * (2 : Int) ^ (k - (1 : Int)).toNat).toNat
 ((1 : Int) * (2 : Int) ^ (k - (1 : Int)).toNat +
 switchesF (k - (1 : Int))).toNat) ∧
 applyF (k - (1 : Int)).toNat
 (s.extract
 ((1 : Int) * (2 : Int) ^ (k - (1 : Int)).toNat +
 switchesF (k - (1 : Int))).toNat
 ((1 : Int) * (2 : Int) ^ (k - (1 : Int)).toNat +
 (2 : Int) * switchesF (k - (1 : Int))).toNat) =
 applyF (k - (1 : Int)).toNat
 (s.extract
 ((1 : Int) * (2 : Int) ^ (k - (1 : Int)).toNat +
 switchesF (k - (1 : Int))).toNat
 ((1 : Int) * (2 : Int) ^ (k - (1 : Int)).toNat +
 (2 : Int) * switchesF (k - (1 : Int))).toNat) ∧
 True) ∧
 (applyTo k.toNat s x).set (↑x : Int).toNat
 (bitsF BinOp.xor IntKind.i64
 ((2 : Int) *
 (applyF (k - (1 : Int)).toNat
 (s.extract
 ((1 : Int) *
 (2 : Int) ^ (k - (1 : Int)).toNat +
 switchesF (k - (1 : Int))).toNat
 ((1 : Int) *
 (2 : Int) ^ (k - (1 : Int)).toNat +
 (2 : Int) *
 switchesF (k - (1 : Int))).toNat)).getD
 ((↑x : Int) / (2 : Int)).toNat (0 : Int) +
 bitsF BinOp.xor IntKind.i64 ((↑x : Int) % (2 : Int))
 (IntKind.u8.wrap
 (bt
 (s.extract (↑(0 : Nat) : Int).toNat
 ((1 : Int) *
 (2 : Int) ^ (k - (1 : Int)).toNat).toNat)
 ((↑x : Int) / (2 : Int)).toNat -
 (48 : Int))))
 (IntKind.u8.wrap
 (bt
 (s.extract
 ((1 : Int) * (2 : Int) ^ (k - (1 : Int)).toNat +
 (2 : Int) * switchesF (k - (1 : Int))).toNat
 (↑s.size : Int).toNat)
 ((applyF (k - (1 : Int)).toNat
 (s.extract
 ((1 : Int) *
 (2 : Int) ^ (k - (1 : Int)).toNat +
 switchesF (k - (1 : Int))).toNat
 ((1 : Int) *
 (2 : Int) ^ (k - (1 : Int)).toNat +
 (2 : Int) *
 switchesF
 (k - (1 : Int))).toNat)).getD
 ((↑x : Int) / (2 : Int)).toNat
 (0 : Int)).toNat -
 (48 : Int)))) =
 applyTo k.toNat s x' ∧
 True) ∧
 (↑x : Int) + (1 : Int) = (↑x' : Int) ∧
 (↑(List.replicate
 ((2 : Int) *
 ((1 : Int) *
 (2 : Int) ^ (k - (1 : Int)).toNat)).toNat
 (0 : Int)).length :
 Int) =
 (↑(List.replicate
 ((2 : Int) *
 ((1 : Int) *
 (2 : Int) ^ (k - (1 : Int)).toNat)).toNat
 (0 : Int)).length :
 Int) ∧
 True ∧
 True ∧
 s.extract
 ((1 : Int) * (2 : Int) ^ (k - (1 : Int)).toNat +
 (2 : Int) * switchesF (k - (1 : Int))).toNat
 (↑s.size : Int).toNat =
 s.extract
 ((1 : Int) * (2 : Int) ^ (k - (1 : Int)).toNat +
 (2 : Int) * switchesF (k - (1 : Int))).toNat
 (↑s.size : Int).toNat ∧
 s.extract (↑(0 : Nat) : Int).toNat
 ((1 : Int) *
 (2 : Int) ^ (k - (1 : Int)).toNat).toNat =
 s.extract (↑(0 : Nat) : Int).toNat
 ((1 : Int) *
 (2 : Int) ^ (k - (1 : Int)).toNat).toNat ∧
 True)) ∧
 (¬(↑x : Int) <
 (↑(List.replicate ((2 : Int) * ((1 : Int) * (2 : Int) ^ (k - (1 : Int)).toNat)).toNat (0 : Int)).length :
 Int) →
 ¬(↑x : Int) <
 (↑(List.replicate ((2 : Int) * ((1 : Int) * (2 : Int) ^ (k - (1 : Int)).toNat)).toNat (0 : Int)).length :
 Int) ∧
 applyTo k.toNat s x = applyF k.toNat s))) := by
 kernel_rfl

end Go.SX.Pa

/- Chapter 06, part 4: apply, which calls itself: its contract. -/
namespace Go.SX.Pa
open Go Go.Proofs

theorem w8 {b : Int} (h : b = 48 ∨ b = 49) : IntKind.u8.wrap (b - 48) = b - 48 := by
  rcases h with rfl | rfl <;> decide
theorem xr01 {a b : Int} (ha : a = 0 ∨ a = 1) (hb : b = 0 ∨ b = 1) : bitsF .xor .i64 a b = 0 ∨ bitsF .xor .i64 a b = 1 := by
  rcases ha with rfl | rfl <;> rcases hb with rfl | rfl <;> decide
theorem xr_two {a p b : Int} (h : 0 ≤ a ∧ a < 4) (hp : p = 0 ∨ p = 1) (hb : b = 0 ∨ b = 1) : bitsF .xor .i64 (2 * a + p) b = 2 * a + bitsF .xor .i64 p b := by
  have : a = 0 ∨ a = 1 ∨ a = 2 ∨ a = 3 := by omega
  rcases this with rfl | rfl | rfl | rfl <;> rcases hp with rfl | rfl <;> rcases hb with rfl | rfl <;> decide
theorem bt_extract {s : ByteArray} {a b i : Nat} (h : a + i < b) (hb : b ≤ s.size) : bt (s.extract a b) i = bt s (a + i) := by
  unfold bt
  have e : (s.extract a b).data = s.data.extract a b := by simp
  have hb' : b ≤ s.data.size := hb
  rw [e, Array.getElem?_extract, if_pos (by omega)]
theorem size_extract {s : ByteArray} {a b : Nat} (_h : a ≤ b) (hb : b ≤ s.size) : (s.extract a b).size = b - a := by
  have : b ≤ s.data.size := hb
  simp
  omega
theorem Bits.extract {s : ByteArray} (h : Bits s) {a b : Nat} (hab : a ≤ b) (hb : b ≤ s.size) : Bits (s.extract a b) := fun i hi => by
  rw [size_extract hab hb] at hi
  rw [bt_extract (by omega) hb]
  exact h _ (by omega)

theorem swN_one : swN 1 = 1 := by decide
theorem swN_two : swN 2 = 6 := by decide
theorem swN_three : swN 3 = 20 := by decide

/-- An element lies below the number of inputs. -/
theorem elF_bound {h n : Nat} {s : ByteArray} {p0 p1 : List Int} {x : Nat} (hb : Bits s) (hs : s.size = 2 * h + 2 * n) (h4 : h ≤ 4) (hx : x < 2 * h) (l0 : p0.length = h) (l1 : p1.length = h) (r0 : ∀ y ∈ p0, 0 ≤ y ∧ y < h) (r1 : ∀ y ∈ p1, 0 ≤ y ∧ y < h) :
    0 ≤ elF h n s p0 p1 x ∧ elF h n s p0 p1 x < 2 * h := by
  unfold elF
  simp only
  have b1 := hb.extract (a := 0) (b := h) (by omega) (by omega) (x / 2) (by rw [size_extract (by omega) (by omega)]; omega)
  have hx2 : (x : Int) % 2 = 0 ∨ (x : Int) % 2 = 1 := by omega
  have q1 := xr01 hx2 (show bt (s.extract 0 h) (x / 2) - 48 = 0 ∨ bt (s.extract 0 h) (x / 2) - 48 = 1 by omega)
  change bitsF .xor .i64 _ _ = 0 ∨ _ at q1
  unfold xr
  generalize bitsF .xor .i64 ((x : Int) % 2) (bt (s.extract 0 h) (x / 2) - 48) = p at q1 ⊢
  have hat : 0 ≤ (if p = 0 then p0 else p1).getD (x / 2) 0 ∧ (if p = 0 then p0 else p1).getD (x / 2) 0 < h := by
    split
    · exact r0 _ (getD_mem p0 0 (by omega))
    · exact r1 _ (getD_mem p1 0 (by omega))
  generalize (if p = 0 then p0 else p1).getD (x / 2) 0 = at_ at hat ⊢
  have b2 := hb.extract (a := h + 2 * n) (b := s.size) (by omega) (by omega) at_.toNat (by rw [size_extract (by omega) (by omega)]; omega)
  have hb2 : bt (s.extract (h + 2 * n) s.size) at_.toNat - 48 = 0 ∨ bt (s.extract (h + 2 * n) s.size) at_.toNat - 48 = 1 := by omega
  rw [xr_two (by omega) q1 hb2]
  have := xr01 q1 hb2
  omega

theorem applyF_one (s : ByteArray) : applyF 1 s = [bt s 0 - 48, 1 - (bt s 0 - 48)] := rfl
theorem applyF_next (K : Nat) (h : 2 ≤ K) (s : ByteArray) : applyF K s = (List.range (2 * hN K)).map (applyEl K s) := by
  obtain ⟨k, rfl⟩ : ∃ k, K = k + 2 := ⟨K - 2, by omega⟩
  rfl
theorem applyF_good : (K : Nat) → 1 ≤ K → K ≤ 3 → (s : ByteArray) → s.size = swN K → Bits s → (applyF K s).length = 2 * hN K ∧ ∀ y ∈ applyF K s, 0 ≤ y ∧ y < (2 * hN K : Nat)
  | 0, h, _, _, _, _ => absurd h (by decide)
  | 1, _, _, s, hs, hb => by
    rw [applyF_one]
    have := hb 0 (by rw [hs, swN_one]; omega)
    have e : hN 1 = 1 := by decide
    rw [e]
    refine ⟨rfl, fun y hy => ?_⟩
    simp at hy
    omega
  | k + 2, _, h3, s, hs, hb => by
    have hsz : s.size = 2 * hN (k + 2) + 2 * swN (k + 1) ∧ hN (k + 2) ≤ 4 ∧ hN (k + 2) = 2 * hN (k + 1) := by
      have : k = 0 ∨ k = 1 := by omega
      rcases this with rfl | rfl
      · rw [hs]; decide
      · rw [hs]; decide
    obtain ⟨z1, z2, z3⟩ := hsz
    obtain ⟨l0, r0⟩ := applyF_good (k + 1) (by omega) (by omega) (s.extract (hN (k + 2)) (hN (k + 2) + swN (k + 1))) (by rw [size_extract (by omega) (by omega)]; omega) (hb.extract (by omega) (by omega))
    obtain ⟨l1, r1⟩ := applyF_good (k + 1) (by omega) (by omega) (s.extract (hN (k + 2) + swN (k + 1)) (hN (k + 2) + 2 * swN (k + 1))) (by rw [size_extract (by omega) (by omega)]; omega) (hb.extract (by omega) (by omega))
    rw [applyF_next (k + 2) (by omega)]
    refine ⟨by simp, fun y hy => ?_⟩
    obtain ⟨x, hx, rfl⟩ := List.mem_map.1 hy
    have := elF_bound hb z1 z2 (List.mem_range.1 hx) (by rw [l0, ← z3]) (by rw [l1, ← z3]) (fun y hy => by rw [z3]; exact r0 y hy) (fun y hy => by rw [z3]; exact r1 y hy)
    exact_mod_cast this

theorem applyTo_length (K : Nat) (s : ByteArray) (x : Nat) (h : x ≤ 2 * hN K) : (applyTo K s x).length = 2 * hN K := by simp [applyTo]; omega
theorem applyTo_set (K : Nat) (s : ByteArray) (x : Nat) (h : x < 2 * hN K) : (applyTo K s x).set x (applyEl K s x) = applyTo K s (x + 1) := by
  unfold applyTo
  rw [List.set_append, if_neg (by simp)]
  obtain ⟨m, hm⟩ : ∃ m, 2 * hN K - x = m + 1 := ⟨2 * hN K - x - 1, by omega⟩
  rw [hm, show 2 * hN K - (x + 1) = m by omega]
  simp [List.range_succ, List.replicate_succ]

theorem ok53 : p53.OK Tryd.prog := p53.rec_ok (fn := Tryd.f53) m53 C53 (fun _ h => cx2 (PC.OK.ci ok52) (PC.OK.ci h)) rfl (by decide +kernel) rfl fun (p : Int × ByteArray) hp => by
  obtain ⟨k, s⟩ := p
  refine (g53_eq k s).mpr ?_
  obtain ⟨⟨h1, h2⟩, h3, h4⟩ := hp
  have h1 : (1 : Int) ≤ k := h1
  have h2 : k ≤ (3 : Int) := h2
  have h3 : s.size = swN k.toNat := h3
  have hb : Bits s := h4
  simp only [pp1, eq_self, and_true, true_and, and_self, Int.toNat_natCast, List.drop_zero]
  refine ⟨fun h => ?_, fun h => ?_⟩
  · subst h
    have e : (1 : Int).toNat = 1 := rfl
    rw [e, swN_one] at h3
    have b := hb 0 (by omega)
    have e0 : Int.toNat 0 = 0 := rfl
    rw [e0, w8 b, e, applyF_one]
    exact ⟨by omega, fits_i64 (by omega) (by omega), fits_i64 (by omega) (by omega), rfl⟩
  · obtain ⟨K, hK⟩ : ∃ K : Nat, k = (K : Nat) := ⟨k.toNat, by omega⟩
    subst hK
    have hK : K = 2 ∨ K = 3 := by omega
    rw [Int.toNat_natCast] at h3
    have eK : ((K : Int) - 1).toNat = K - 1 := by omega
    have eH : (1 : Int) * 2 ^ (K - 1) = (hN K : Nat) := by rcases hK with rfl | rfl <;> decide
    have eS : switchesF ((K : Int) - 1) = (swN (K - 1) : Nat) := by rcases hK with rfl | rfl <;> decide
    have z : s.size = 2 * hN K + 2 * swN (K - 1) ∧ hN K ≤ 4 ∧ hN K = 2 * hN (K - 1) ∧ swN (K - 1) ≤ 6 := by
      rw [h3]
      rcases hK with rfl | rfl <;> decide
    obtain ⟨z1, z2, z3, z4⟩ := z
    simp only [eK, eH, eS, Int.toNat_natCast]
    have aEl : applyEl K s = elF (hN K) (swN (K - 1)) s (applyF (K - 1) (s.extract (hN K) (hN K + swN (K - 1)))) (applyF (K - 1) (s.extract (hN K + swN (K - 1)) (hN K + 2 * swN (K - 1)))) := rfl
    have hset := applyTo_set K s
    have hlen := applyTo_length K s
    have hdone : applyTo K s (2 * hN K) = applyF K s := by rw [applyF_next K (by omega)]; simp [applyTo]
    have hzero : applyTo K s 0 = List.replicate (2 * hN K) 0 := by simp [applyTo]
    generalize hh : hN K = h at *
    generalize hn : swN (K - 1) = n at *
    have t1 : ((h : Int) + (n : Int)).toNat = h + n := by omega
    have t2 : ((h : Int) + 2 * (n : Int)).toNat = h + 2 * n := by omega
    have t3 : (2 * (h : Int)).toNat = 2 * h := by omega
    simp only [t1, t2, t3, List.length_replicate]
    have s0 : (s.extract h (h + n)).size = n := by rw [size_extract (by omega) (by omega)]; omega
    have s1 : (s.extract (h + n) (h + 2 * n)).size = n := by rw [size_extract (by omega) (by omega)]; omega
    have sl : (s.extract (h + 2 * n) s.size).size = h := by rw [size_extract (by omega) (by omega)]; omega
    have sf : (s.extract 0 h).size = h := by rw [size_extract (by omega) (by omega)]; omega
    have B0 : Bits (s.extract h (h + n)) := hb.extract (by omega) (by omega)
    have B1 : Bits (s.extract (h + n) (h + 2 * n)) := hb.extract (by omega) (by omega)
    have Bl : Bits (s.extract (h + 2 * n) s.size) := hb.extract (by omega) (by omega)
    have Bf : Bits (s.extract 0 h) := hb.extract (by omega) (by omega)
    obtain ⟨l0, r0⟩ := applyF_good (K - 1) (by omega) (by omega) _ (by rw [s0, hn]) B0
    obtain ⟨l1, r1⟩ := applyF_good (K - 1) (by omega) (by omega) _ (by rw [s1, hn]) B1
    rw [← z3] at l0 l1 r0 r1
    rw [s0, s1, sl, sf]
    generalize applyF (K - 1) (s.extract h (h + n)) = p0 at *
    generalize applyF (K - 1) (s.extract (h + n) (h + 2 * n)) = p1 at *
    have F := fun {a : Int} (q1 : -100 ≤ a) (q2 : a ≤ 100) => (fits_i64 (n := a) (by omega) (by omega))
    refine ⟨F (by omega) (by omega), by omega, F (by omega) (by omega), F (by omega) (by omega), by omega, by omega, F (by omega) (by omega), F (by omega) (by omega), by omega, F (by omega) (by omega), F (by omega) (by omega), by omega, F (by omega) (by omega), F (by omega) (by omega), F (by omega) (by omega), F (by omega) (by omega), by omega,
      ⟨⟨by omega, by omega, fun i hi => B0 i (by omega)⟩, ?_⟩, ⟨⟨by omega, by omega, fun i hi => B1 i (by omega)⟩, ?_⟩, F (by omega) (by omega), ⟨by omega, by omega, by unfold Small; omega⟩, ⟨0, by omega, hzero.symm, rfl⟩, fun x hx => ⟨fun h5 => ?_, fun h5 => ?_⟩⟩
    · show K - 1 < (K : Int).toNat
      omega
    · show K - 1 < (K : Int).toNat
      omega
    · have hx' : x < 2 * h := by omega
      have tx : ((x : Int) / 2).toNat = x / 2 := by omega
      rw [tx]
      have b1 := Bf (x / 2) (by omega)
      rw [w8 b1]
      have hx2 : (x : Int) % 2 = 0 ∨ (x : Int) % 2 = 1 := by omega
      have q1 := xr01 hx2 (show bt (s.extract 0 h) (x / 2) - 48 = 0 ∨ bt (s.extract 0 h) (x / 2) - 48 = 1 by omega)
      have hel : applyEl K s x = elF h n s p0 p1 x := by rw [aEl]
      have hset := hset x hx'
      rw [hel] at hset
      unfold elF xr at hset
      simp only at hset
      have hlx := hlen x hx
      generalize bitsF .xor .i64 ((x : Int) % 2) (bt (s.extract 0 h) (x / 2) - 48) = p at q1 hset ⊢
      have a0 := r0 _ (getD_mem p0 0 (k := x / 2) (by omega))
      have a1 := r1 _ (getD_mem p1 0 (k := x / 2) (by omega))
      refine ⟨by omega, by omega, F (by omega) (by omega), by omega, F (by omega) (by omega), by omega, fun e => ?_, fun e => ?_⟩
      · rw [if_pos (by omega)] at hset
        generalize p0.getD (x / 2) 0 = y at a0 hset ⊢
        have b2 := Bl y.toNat (by omega)
        rw [w8 b2]
        exact ⟨by omega, F (by omega) (by omega), by omega, F (by omega) (by omega), F (by omega) (by omega), by omega, F (by omega) (by omega), by omega, fits_nat (by omega), x + 1, by omega, by omega, hset, by simp⟩
      · rw [if_neg (by omega)] at hset
        generalize p1.getD (x / 2) 0 = y at a1 hset ⊢
        have b2 := Bl y.toNat (by omega)
        rw [w8 b2]
        exact ⟨by omega, F (by omega) (by omega), by omega, F (by omega) (by omega), F (by omega) (by omega), by omega, F (by omega) (by omega), by omega, fits_nat (by omega), x + 1, by omega, by omega, hset, by simp⟩
    · have : x = 2 * h := by omega
      subst this
      exact hdone
end Go.SX.Pa

/- Chapter 06, part 5: the contracts of Apply, Same, Route, Colors. -/
namespace Go.SX.Pa
open Go Go.Proofs

theorem all_of_drop {α : Type} (p : α → Bool) : (l : List α) → (∀ x ∈ l.dropWhile p, p x = true) → ∀ x ∈ l, p x = true
  | [], _ => fun x hx => by simp at hx
  | a :: r, h => by
    unfold List.dropWhile at h
    cases hp : p a with
    | true =>
      rw [hp] at h
      intro x hx
      rcases List.mem_cons.1 hx with rfl | h1
      · exact hp
      · exact all_of_drop p r h x h1
    | false =>
      rw [hp] at h
      have := h a List.mem_cons_self
      rw [hp] at this; cases this
theorem drop_nil {α : Type} (p : α → Bool) : (l : List α) → (l.dropWhile p = [] ↔ ∀ x ∈ l, p x = true)
  | [] => by simp
  | a :: r => by
    unfold List.dropWhile
    cases hp : p a with
    | true => rw [drop_nil p r]; simp [hp]
    | false => simp [hp]
theorem trim_nil {l cs : List UInt8} : Lib.trimS l cs = [] ↔ ∀ x ∈ l, cs.contains x = true := by
  unfold Lib.trimS Lib.trimLeftS Lib.trimRightS
  constructor
  · intro h
    have h1 : ∀ x ∈ l.reverse.dropWhile (cs.contains ·), cs.contains x = true := fun x hx => (drop_nil _ _).1 h x (List.mem_reverse.2 hx)
    intro x hx
    exact all_of_drop _ _ h1 x (List.mem_reverse.2 hx)
  · intro h
    have : l.reverse.dropWhile (cs.contains ·) = [] := (drop_nil _ _).2 fun x hx => h x (List.mem_reverse.1 hx)
    rw [this]; rfl
theorem bits_trim {s : ByteArray} : Lib.trimS s.data.toList [48, 49] = [] ↔ Bits s := by
  rw [trim_nil]
  constructor
  · intro h i hi
    have hi' : i < s.data.size := hi
    have h1 := h (s.data[i]) (by rw [Array.mem_toList_iff]; exact Array.getElem_mem hi')
    unfold bt
    rw [Array.getElem?_eq_getElem hi']
    simp at h1
    rcases h1 with h1 | h1 <;> rw [h1] <;> decide
  · intro h x hx
    obtain ⟨i, hi, e⟩ := List.getElem_of_mem hx
    have hi' : i < s.data.size := by simpa using hi
    have := h i hi'
    unfold bt at this
    rw [Array.getElem?_eq_getElem hi'] at this
    have e' : s.data[i] = x := by simpa using e
    rw [e'] at this
    simp only [Option.getD_some] at this
    have h2 : x.toNat = 48 ∨ x.toNat = 49 := by omega
    rcases h2 with h2 | h2
    · have : x = 48 := UInt8.toNat_inj.1 (by rw [h2]; rfl)
      subst this; rfl
    · have : x = 49 := UInt8.toNat_inj.1 (by rw [h2]; rfl)
      subst this; rfl
theorem swF_nat {k : Int} (h : 1 ≤ k ∧ k ≤ 3) : switchesF k = (swN k.toNat : Nat) := by
  have : k = 1 ∨ k = 2 ∨ k = 3 := by omega
  rcases this with rfl | rfl | rfl <;> decide

theorem ok45 : p45.OK Tryd.prog := p45.ok (fun _ => cx [p63.ci, p52.ci, p67.ci, p53.ci] []) (fun _ => cx_ok (cs := [p63.ci, p52.ci, p67.ci, p53.ci]) ⟨PC.OK.ci ok63, PC.OK.ci ok52, PC.OK.ci ok67, PC.OK.ci ok53, trivial⟩ _) (fn := Tryd.f45) rfl (by decide +kernel) rfl fun (p : Int × ByteArray) hp => by
  obtain ⟨k, s⟩ := p
  refine (g45_eq k s).mpr ?_
  have hp : s.size ≤ 1000 := hp
  simp only [pp1, eq_self, and_true, true_and, and_self]
  unfold applyP
  refine ⟨fun h => ?_, fun h => ?_⟩
  · rw [Bool.not_eq_true'] at h
    rw [if_neg (of_decide_eq_false h)]
  · have h : 1 ≤ k ∧ k ≤ 3 := by simpa using h
    rw [if_pos h, swF_nat h]
    refine ⟨h, fun h1 => ?_, fun h1 => ⟨⟨rfl, hp⟩, fun h2 => ?_, fun h2 => ?_⟩⟩
    · rw [if_neg (fun h2 => h1 (by rw [h2.1]))]
    · rw [if_neg (fun h3 => h2 (by rw [h3.2]))]
    · have e1 : s.size = swN k.toNat := by omega
      have e2 : Lib.trimS s.data.toList [48, 49] = [] := by
        have := Classical.not_not.1 h2
        simpa using this
      rw [if_pos ⟨e1, e2⟩]
      exact ⟨⟨h, e1, bits_trim.1 e2⟩, rfl⟩

theorem drop_getD {α : Type} (l : List α) (d : α) (k : Nat) (h : k < l.length) : l.drop k = l.getD k d :: l.drop (k + 1) := by
  rw [List.drop_eq_getElem_cons h, List.getD_eq_getElem?_getD, List.getElem?_eq_getElem h]
  rfl
theorem beforeF_nil_left (b : List Int) : beforeF [] b = decide (0 < b.length) := by cases b <;> simp [beforeF]
theorem beforeF_nil_right (a : List Int) : beforeF a [] = false := by cases a <;> rfl
theorem ok60 : p60.OK Tryd.prog := p60.ok C60 (fun _ => cx0) (fn := Tryd.f60) rfl (by decide +kernel) rfl fun (p : List Int × List Int) hp => by
  obtain ⟨a, b⟩ := p
  refine (g60_eq a b).mpr ?_
  obtain ⟨ha, hb⟩ : a.length ≤ 1000 ∧ b.length ≤ 1000 := hp
  simp only [pp1, eq_self, and_true, true_and, Int.toNat_natCast]
  have step : ∀ k : Nat, k < a.length → k < b.length → beforeF (a.drop k) (b.drop k) = if a.getD k 0 = b.getD k 0 then beforeF (a.drop (k + 1)) (b.drop (k + 1)) else decide (a.getD k 0 < b.getD k 0) := fun k h1 h2 => by
    rw [drop_getD a 0 k h1, drop_getD b 0 k h2]; rfl
  refine ⟨⟨0, ⟨by omega, by omega, rfl⟩, rfl⟩, fun k ⟨hk1, hk2, hok⟩ => ⟨fun h1 => ⟨fun h2 => ⟨by omega, by omega, fun h3 => ⟨by omega, by omega, ?_⟩, fun h3 => ⟨fits_nat (by omega), k + 1, ⟨by omega, by omega, ?_⟩, by omega, by omega⟩⟩, fun h2 => ?_⟩, fun h1 => ?_⟩⟩
  · rw [← hok, step k (by omega) (by omega), if_neg h3]
  · rw [← hok, step k (by omega) (by omega), if_pos (Classical.not_not.1 h3)]
  · have e : b.drop k = [] := List.drop_eq_nil_of_le (by omega)
    rw [← hok, e, beforeF_nil_right]
    exact decide_eq_false (by omega)
  · have e : a.drop k = [] := List.drop_eq_nil_of_le (by omega)
    rw [← hok, e, beforeF_nil_left, List.length_drop]
    exact decide_eq_decide.2 (by omega)
theorem before_same : (a b : List Int) → (!(beforeF a b) && !(beforeF b a)) = decide (a = b)
  | [], [] => rfl
  | [], _ :: _ => rfl
  | _ :: _, [] => rfl
  | x :: a, y :: b => by
    have ih := before_same a b
    unfold beforeF
    by_cases h : x = y
    · subst h
      simp only [if_true, ih, List.cons.injEq, true_and]
    · have h' : ¬ y = x := fun e => h e.symm
      simp only [if_neg h, if_neg h', List.cons.injEq, h, false_and, decide_false]
      rcases Int.lt_or_gt_of_ne h with h1 | h1
      · simp [h1]
      · simp [h1]
theorem ok28 : p28.OK Tryd.prog := p28.ok (fun _ => cx [p60.ci] []) (fun _ => cx1 (PC.OK.ci ok60)) (fn := Tryd.f28) rfl (by decide +kernel) rfl fun (p : List Int × List Int) hp => by
  obtain ⟨a, b⟩ := p
  refine (g28_eq a b).mpr ?_
  have hp : a.length ≤ 1000 ∧ b.length ≤ 1000 := hp
  have hs := before_same a b
  simp only [pp1, eq_self, and_true, true_and, Int.toNat_natCast]
  refine ⟨hp, fun h => ⟨⟨hp.2, hp.1⟩, ?_⟩, fun h => ?_⟩
  · rw [← hs, h, Bool.true_and]
  · rw [← hs, h, Bool.false_and]

theorem extF_length (es : List Ed) (m : Nat) : (f : Nat) → (out l : List Int) → extF es m f out = some l → l.length = out.length + f
  | 0, out, l, h => by
    simp [extF] at h; subst h; rfl
  | f + 1, out, l, h => by
    unfold extF at h
    obtain ⟨c, _, hc⟩ := List.exists_of_findSome?_eq_some h
    split at hc
    · cases hc
    · have := extF_length es m f _ _ hc
      simp at this
      omega
theorem colF_length {es : List Ed} {m : Int} {l : List Int} (h : colF es m = some l) : l.length = es.length := by
  unfold colF at h
  split at h
  · have := extF_length _ _ _ _ _ h
    simpa using this
  · cases h
theorem edgesF_length (n : Int) (l : List Int) : (edgesF n l).length = l.length := edgesTo_length _ _ _

theorem ok38 : p38.OK Tryd.prog := p38.ok (fun _ => cx [p61.ci, p62.ci, n58.ci] []) (fun _ => cx3 (PC.OK.ci ok61) (PC.OK.ci ok62) ok58.ci) (fn := Tryd.f38) rfl (by decide +kernel) rfl fun (x : Int × Int × Int × List Int) hx => by
  obtain ⟨n, r, m, l⟩ := x
  refine (g38_eq n r m l).mpr ?_
  have hx : l.length ≤ 1000 := hx
  simp only [pp1, eq_self, and_true, true_and, and_self]
  unfold routeF readF
  simp only
  by_cases h1 : ClosP n r m
  · rw [if_pos h1, if_pos h1]
    by_cases h2 : PermP l (n * r)
    · rw [if_pos h2, if_pos h2]
      have hc := clos_fits h1
      have h2' := h2
      obtain ⟨q1, q2, q3⟩ := h2'
      obtain ⟨c1, c2, c3, c4⟩ := h1
      refine ⟨hx, fun h => absurd rfl h, fun _ => ⟨⟨hx, by omega, by omega, fun x hx => ?_⟩, ⟨by rw [edgesF_length]; omega, by omega, by omega⟩, fun h3 => by rw [h3], fun ys h3 => ⟨fun e => ?_, by rw [h3]⟩⟩⟩
      · have := q2 x hx; omega
      · have := colF_length h3
        rw [edgesF_length, e] at this
        simp at this
        omega
    · rw [if_neg h2, if_neg h2]
      exact ⟨hx, fun _ => rfl, fun h => absurd (show ¬ (2 : Int) = 0 by omega) h⟩
  · rw [if_neg h1, if_neg h1]
    exact ⟨hx, fun _ => rfl, fun h => absurd (show ¬ (1 : Int) = 0 by omega) h⟩

theorem degTo_nonneg (es : List Ed) : (k : Nat) → k ≤ es.length → 0 ≤ (degTo es k).2.2 ∧ (degTo es k).2.2 ≤ es.length
  | 0, _ => by simp [degTo]
  | k + 1, h => by
    have ih := degTo_nonneg es k (by omega)
    rw [degTo_succ es k (by omega)]
    have b1 := (degTo_bound es (es.getD k (0, 0)).1 (k + 1) h).1
    have b2 := (degTo_bound es (es.getD k (0, 0)).2 (k + 1) h).2
    rw [degTo_succ es k (by omega)] at b1 b2
    unfold degStep at b1 b2 ⊢
    simp only at b1 b2 ⊢
    omega
theorem degF_bound (es : List Ed) : 0 ≤ degF es ∧ degF es ≤ es.length := degTo_nonneg es es.length (Nat.le_refl _)

theorem take_any {α : Type} (f : α → Bool) (l : List α) (d : α) (k : Nat) (h : k < l.length) : (l.take (k + 1)).any f = ((l.take k).any f || f (l.getD k d)) := by
  rw [take_snoc l d k h, List.any_append]
  simp
theorem any_of_get {α : Type} {f : α → Bool} {l : List α} {k : Nat} (d : α) (hk : k < l.length) (h : f (l.getD k d) = true) : l.any f = true := List.any_eq_true.2 ⟨_, getD_mem l d hk, h⟩

theorem ok26 : p26.OK Tryd.prog := p26.ok C26 (fun _ => cx3 (inl_ok (cx1 (inl_ok (cx1 (inl_ok cx0 rfl (by decide +kernel) rfl)) rfl (by decide +kernel) rfl)) rfl (by decide +kernel) rfl) (PC.OK.ci ok59) ok58.ci) (fn := Tryd.f26) rfl (by decide +kernel) rfl fun (x : Int × Int × List Ed) hx => by
  obtain ⟨a, c, es⟩ := x
  refine (g26_eq a c es).mpr ?_
  have hx : es.length ≤ 1000 := hx
  have hd := degF_bound es
  simp only [pp1, eq_self, and_true, true_and, and_self, Int.toNat_natCast, List.drop_zero]
  unfold colorsF
  refine ⟨fun h => by rw [if_pos (by omega)], fun h => ⟨fun h1 => ?_, fun h1 => ⟨fun h2 => ?_, fun h2 => ⟨⟨0, ⟨by omega, by simp⟩, rfl⟩, fun k ⟨hk, hok⟩ => ⟨fun h3 => ?_, fun h3 => ?_⟩⟩⟩⟩⟩
  · rw [if_neg (by omega), if_pos (.inl h1)]
  · rw [if_neg (by omega), if_pos (.inr (.inl h2))]
  · have hk' : k < es.length := by omega
    have no : ∀ {q : Prop}, ¬ (0 : Int) ≤ (k : Nat) → q := fun h => absurd (Int.natCast_nonneg k) h
    have bad : badEd a c (es.getD k (0, 0)) = true → ([], 1) = (if 12 < es.length then (([] : List Int), (3 : Int)) else if min a c < 1 ∨ 6 < max a c ∨ es.any (badEd a c) = true then ([], 1) else ((colF es (degF es)).getD [], 0)) := fun hb => by
      rw [if_neg (by omega), if_pos (.inr (.inr (any_of_get (0, 0) hk' hb)))]
    refine ⟨by omega, fun h4 => ⟨fun _ => bad (decide_eq_true (.inl h4)), fun h => no h⟩, fun h4 => ⟨fun h5 => ⟨fun _ => bad (decide_eq_true (.inr (.inl h5))), fun h => no h⟩, fun h5 => ⟨fun h6 => ⟨fun _ => bad (decide_eq_true (.inr (.inr h6))), fun h => no h⟩, fun h6 => ⟨fits_nat (by omega), k + 1, ⟨by omega, ?_⟩, by omega, by simp⟩⟩⟩⟩
    rw [take_any _ _ (0, 0) k hk', hok, Bool.false_or]
    exact decide_eq_false (by omega)
  · have : k = es.length := by omega
    subst this
    rw [List.take_length] at hok
    rw [if_neg (by omega), if_neg (by rw [hok]; simp; omega)]
    exact ⟨fun h => absurd h (by omega), fun _ => ⟨hx, ⟨hx, by omega, by omega⟩, fun h => by rw [h]; rfl, fun ys h => by rw [h]; rfl⟩⟩
end Go.SX.Pa

/- Chapter 06, part 6: Ways, and what the laws call. -/
namespace Go.SX.Pa
open Go Go.Proofs
noncomputable section
@[reducible] def p18 : PC := ⟨18, [aI, aIs], [aI, aI], fun p => p.2.length ≤ 1000, fun p => waysF p.1 p.2⟩
@[reducible] def A18a (k : Nat) (l : List Int) : Ann := upToS (2 ^ swN k) 29 [0, 1, 28] (fun _ => True) fun x => [(6, .c (.int .i64 (waysTo k l x)))]
@[reducible] def A18b (x n : Nat) : Ann where
  τ := Nat
  pre := []
  preC := []
  keep := [0, 1, 6, 7, 8, 28, 29, 36]
  slots i := [(37, .c (.int .i64 i))]
  ents i := [(0, .row 5 (.int .u8) 1 (letTo x n i))]
  ok i := i ≤ n
  m i := n - i
@[reducible] def A18c (k x : Nat) (l : List Int) : Ann := upToS (applyF k (writ x (swN k))).length 55 [0, 1, 6, 7, 28, 29, 53, 54] (fun _ => True) fun i => [(10, .c (.bool 0 (cmpTo (applyF k (writ x (swN k))) l i)))]
@[reducible] def C18 (p : Int × List Int) : Ctx := cx [p51.ci, p52.ci, p53.ci] [(0, fun _ => A18a p.1.toNat p.2), (1, withI 29 fun x => A18b x.toNat (swN p.1.toNat)), (2, withI 29 fun x => A18c p.1.toNat x.toNat p.2)]
def g18 (k : Int) (l : List Int) : Prop := p18.VC (C18 (k, l)) Tryd.f18 (k, l)
end
end Go.SX.Pa

/- Printed by VC.lean: what the executor asks. -/
namespace Go.SX.Pa
open Go Go.Proofs
theorem g18_eq (k : Int) (l : List Int) : g18 k l = (
 (k < (1 : Int) → k < (1 : Int) ∧ k < (1 : Int) ∧ ((0 : Int), (1 : Int)) = waysF k l) ∧
 (¬k < (1 : Int) →
 ¬k < (1 : Int) ∧
 ¬k < (1 : Int) ∧
 ((2 : Int) < k → (2 : Int) < k ∧ (2 : Int) < k ∧ (2 : Int) < k ∧ ((0 : Int), (1 : Int)) = waysF k l) ∧
 (¬(2 : Int) < k →
 ¬(2 : Int) < k ∧
 ¬(2 : Int) < k ∧
 ¬(2 : Int) < k ∧
 ((0 : Int) ≤ k ∧ k < (64 : Int)) ∧
 Fits IntKind.i64 ((1 : Int) * (2 : Int) ^ k.toNat) ∧
 l.length ≤ (1000 : Nat) ∧
 ((!decide (PermP l ((1 : Int) * (2 : Int) ^ k.toNat))) = true →
 (!decide (PermP l ((1 : Int) * (2 : Int) ^ k.toNat))) = true ∧
 (!decide (PermP l ((1 : Int) * (2 : Int) ^ k.toNat))) = true ∧ ((0 : Int), (2 : Int)) = waysF k l) ∧
 ((!decide (PermP l ((1 : Int) * (2 : Int) ^ k.toNat))) = false →
 (!decide (PermP l ((1 : Int) * (2 : Int) ^ k.toNat))) = false ∧
 (!decide (PermP l ((1 : Int) * (2 : Int) ^ k.toNat))) = false ∧
 ((1 : Int) ≤ k ∧ k ≤ (3 : Int)) ∧
 ((0 : Int) ≤ switchesF k ∧ switchesF k < (64 : Int)) ∧
 Fits IntKind.i64 ((1 : Int) * (2 : Int) ^ (switchesF k).toNat) ∧
 (∃ (x0 : Nat),
 (x0 ≤ (2 : Nat) ^ swN k.toNat ∧ True) ∧
 True ∧
 (0 : Int) = (↑x0 : Int) ∧
 (0 : Int) = (↑(waysTo k.toNat l x0) : Int) ∧
 (1 : Int) * (2 : Int) ^ (switchesF k).toNat = (1 : Int) * (2 : Int) ^ (switchesF k).toNat ∧ k = k ∧ l = l ∧ True) ∧
 ∀ (x : Nat),
 x ≤ (2 : Nat) ^ swN k.toNat ∧ True →
 ((↑x : Int) < (1 : Int) * (2 : Int) ^ (switchesF k).toNat →
 (↑x : Int) < (1 : Int) * (2 : Int) ^ (switchesF k).toNat ∧
 ((1 : Int) ≤ k ∧ k ≤ (3 : Int)) ∧
 ((0 : Int) ≤ switchesF k ∧ switchesF k ≤ switchesF k ∧ Small (switchesF k).toNat) ∧
 (∃ (x0 : Nat),
 x0 ≤ swN k.toNat ∧
 (List.replicate (switchesF k).toNat (0 : Int) = letTo (↑x : Int).toNat (swN k.toNat) x0 ∧ True) ∧
 (0 : Int) = (↑x0 : Int) ∧
 (↑(List.replicate (switchesF k).toNat (0 : Int)).length : Int) =
 (↑(List.replicate (switchesF k).toNat (0 : Int)).length : Int) ∧
 True ∧
 (↑x : Int) = (↑x : Int) ∧
 (↑x : Int) = (↑x : Int) ∧
 (↑(waysTo k.toNat l x) : Int) = (↑(waysTo k.toNat l x) : Int) ∧
 (1 : Int) * (2 : Int) ^ (switchesF k).toNat = (1 : Int) * (2 : Int) ^ (switchesF k).toNat ∧
 k = k ∧ l = l ∧ True) ∧
 ∀ (x_1 : Nat),
 x_1 ≤ swN k.toNat →
 ((↑x_1 : Int) < (↑(List.replicate (switchesF k).toNat (0 : Int)).length : Int) →
 (↑x_1 : Int) < (↑(List.replicate (switchesF k).toNat (0 : Int)).length : Int) ∧
 ((0 : Int) ≤ (↑x_1 : Int) ∧ (↑x_1 : Int) < (64 : Int)) ∧
 ((0 : Int) ≤ (↑x_1 : Int) ∧ (↑x_1 : Int) < (↑(letTo (↑x : Int).toNat (swN k.toNat) x_1).length : Int)) ∧
 Fits IntKind.i64 ((↑x_1 : Int) + (1 : Int)) ∧
 ∃ (x' : Nat),
 x' ≤ swN k.toNat ∧
 swN k.toNat - x' < swN k.toNat - x_1 ∧
 ((letTo (↑x : Int).toNat (swN k.toNat) x_1).set (↑x_1 : Int).toNat
 (IntKind.u8.wrap
 ((48 : Int) +
 IntKind.u8.wrap
 (bitsF BinOp.and IntKind.i64 ((↑x : Int) / (2 : Int) ^ (↑x_1 : Int).toNat)
 (1 : Int)))) =
 letTo (↑x : Int).toNat (swN k.toNat) x' ∧
 True) ∧
 (↑x_1 : Int) + (1 : Int) = (↑x' : Int) ∧
 (↑(List.replicate (switchesF k).toNat (0 : Int)).length : Int) =
 (↑(List.replicate (switchesF k).toNat (0 : Int)).length : Int) ∧
 True ∧
 (↑x : Int) = (↑x : Int) ∧
 (↑x : Int) = (↑x : Int) ∧
 (↑(waysTo k.toNat l x) : Int) = (↑(waysTo k.toNat l x) : Int) ∧
 (1 : Int) * (2 : Int) ^ (switchesF k).toNat =
 (1 : Int) * (2 : Int) ^ (switchesF k).toNat ∧
 k = k ∧ l = l ∧ True) ∧
 (¬(↑x_1 : Int) < (↑(List.replicate (switchesF k).toNat (0 : Int)).length : Int) →
 ¬(↑x_1 : Int) < (↑(List.replicate (switchesF k).toNat (0 : Int)).length : Int) ∧
 (((1 : Int) ≤ k ∧ k ≤ (3 : Int)) ∧
 (strOf (letTo (↑x : Int).toNat (swN k.toNat) x_1)).size = swN k.toNat ∧
 ∀ (i : Nat),
 i < (strOf (letTo (↑x : Int).toNat (swN k.toNat) x_1)).size →
 bt (strOf (letTo (↑x : Int).toNat (swN k.toNat) x_1)) i = (48 : Int) ∨
 bt (strOf (letTo (↑x : Int).toNat (swN k.toNat) x_1)) i = (49 : Int)) ∧
 (∃ (x0 : Nat),
 (x0 ≤ (applyF k.toNat (writ (↑x : Int).toNat (swN k.toNat))).length ∧ True) ∧
 (letTo (↑x : Int).toNat (swN k.toNat) x_1 = letTo (↑x : Int).toNat (swN k.toNat) x_1 ∧ True) ∧
 (0 : Int) = (↑x0 : Int) ∧
 true = cmpTo (applyF k.toNat (writ (↑x : Int).toNat (swN k.toNat))) l x0 ∧
 (↑(applyF k.toNat (strOf (letTo (↑x : Int).toNat (swN k.toNat) x_1))).length : Int) =
 (↑(applyF k.toNat (strOf (letTo (↑x : Int).toNat (swN k.toNat) x_1))).length : Int) ∧
 applyF k.toNat (strOf (letTo (↑x : Int).toNat (swN k.toNat) x_1)) =
 applyF k.toNat (strOf (letTo (↑x : Int).toNat (swN k.toNat) x_1)) ∧
 (↑x : Int) = (↑x : Int) ∧
 (↑x : Int) = (↑x : Int) ∧
 (↑(waysTo k.toNat l x) : Int) = (↑(waysTo k.toNat l x) : Int) ∧
 (1 : Int) * (2 : Int) ^ (switchesF k).toNat =
 (1 : Int) * (2 : Int) ^ (switchesF k).toNat ∧
 k = k ∧ l = l ∧ True) ∧
 ∀ (x_2 : Nat),
 x_2 ≤ (applyF k.toNat (writ (↑x : Int).toNat (swN k.toNat))).length ∧ True →
 ((↑x_2 : Int) < (↑(applyF k.toNat (strOf (letTo (↑x : Int).toNat (swN k.toNat) x_1))).length : Int) →
 (↑x_2 : Int) < (↑(applyF k.toNat (strOf (letTo (↑x : Int).toNat (swN k.toNat) x_1))).length : Int) ∧
 ((0 : Int) ≤ (↑x_2 : Int) ∧
 (↑x_2 : Int) <
 (↑(applyF k.toNat (strOf (letTo (↑x : Int).toNat (swN k.toNat) x_1))).length : Int)) ∧
 (cmpTo (applyF k.toNat (writ (↑x : Int).toNat (swN k.toNat))) l x_2 = true →
 cmpTo (applyF k.toNat (writ (↑x : Int).toNat (swN k.toNat))) l x_2 = true ∧
 cmpTo (applyF k.toNat (writ (↑x : Int).toNat (swN k.toNat))) l x_2 = true ∧
 ((0 : Int) ≤ (↑x_2 : Int) ∧ (↑x_2 : Int) < (↑l.length : Int)) ∧
 Fits IntKind.i64 ((↑x_2 : Int) + (1 : Int)) ∧
 ∃ (x' : Nat),
 (x' ≤ (applyF k.toNat (writ (↑x : Int).toNat (swN k.toNat))).length ∧ True) ∧
 (applyF k.toNat (writ (↑x : Int).toNat (swN k.toNat))).length - x' <
 (applyF k.toNat (writ (↑x : Int).toNat (swN k.toNat))).length - x_2 ∧
 (letTo (↑x : Int).toNat (swN k.toNat) x_1 =
 letTo (↑x : Int).toNat (swN k.toNat) x_1 ∧
 True) ∧
 (↑x_2 : Int) + (1 : Int) = (↑x' : Int) ∧
 decide
 ((applyF k.toNat
 (strOf (letTo (↑x : Int).toNat (swN k.toNat) x_1))).getD
 (↑x_2 : Int).toNat (0 : Int) =
 l.getD (↑x_2 : Int).toNat (0 : Int)) =
 cmpTo (applyF k.toNat (writ (↑x : Int).toNat (swN k.toNat))) l x' ∧
 (↑(applyF k.toNat
 (strOf (letTo (↑x : Int).toNat (swN k.toNat) x_1))).length :
 Int) =
 (↑(applyF k.toNat
 (strOf (letTo (↑x : Int).toNat (swN k.toNat) x_1))).length :
 Int) ∧
 applyF k.toNat (strOf (letTo (↑x : Int).toNat (swN k.toNat) x_1)) =
 applyF k.toNat (strOf (letTo (↑x : Int).toNat (swN k.toNat) x_1)) ∧
 (↑x : Int) = (↑x : Int) ∧
 (↑x : Int) = (↑x : Int) ∧
 (↑(waysTo k.toNat l x) : Int) = (↑(waysTo k.toNat l x) : Int) ∧
 (1 : Int) * (2 : Int) ^ (switchesF k).toNat =
 (1 : Int) * (2 : Int) ^ (switchesF k).toNat ∧
 k = k ∧ l = l ∧ True) ∧
 (cmpTo (applyF k.toNat (writ (↑x : Int).toNat (swN k.toNat))) l x_2 = false →
 cmpTo (applyF k.toNat (writ (↑x : Int).toNat (swN k.toNat))) l x_2 = false ∧
 cmpTo (applyF k.toNat (writ (↑x : Int).toNat (swN k.toNat))) l x_2 = false ∧
 Fits IntKind.i64 ((↑x_2 : Int) + (1 : Int)) ∧
 ∃ (x' : Nat),
 (x' ≤ (applyF k.toNat (writ (↑x : Int).toNat (swN k.toNat))).length ∧ True) ∧
 (applyF k.toNat (writ (↑x : Int).toNat (swN k.toNat))).length - x' <
 (applyF k.toNat (writ (↑x : Int).toNat (swN k.toNat))).length - x_2 ∧
 (letTo (↑x : Int).toNat (swN k.toNat) x_1 =
 letTo (↑x : Int).toNat (swN k.toNat) x_1 ∧
 True) ∧
 (↑x_2 : Int) + (1 : Int) = (↑x' : Int) ∧
 false = cmpTo (applyF k.toNat (writ (↑x : Int).toNat (swN k.toNat))) l x' ∧
 (↑(applyF k.toNat
 (strOf (letTo (↑x : Int).toNat (swN k.toNat) x_1))).length :
 Int) =
 (↑(applyF k.toNat
 (strOf (letTo (↑x : Int).toNat (swN k.toNat) x_1))).length :
 Int) ∧
 applyF k.toNat (strOf (letTo (↑x : Int).toNat (swN k.toNat) x_1)) =
 applyF k.toNat (strOf (letTo (↑x : Int).toNat (swN k.toNat) x_1)) ∧
 (↑x : Int) = (↑x : Int) ∧
 (↑x : Int) = (↑x : Int) ∧
 (↑(waysTo k.toNat l x) : Int) = (↑(waysTo k.toNat l x) : Int) ∧
 (1 : Int) * (2 : Int) ^ (switchesF k).toNat =
 (1 : Int) * (2 : Int) ^ (switchesF k).toNat ∧
 k = k ∧ l = l ∧ True)) ∧
 (¬(↑x_2 : Int) < (↑(applyF k.toNat (strOf (letTo (↑x : Int).toNat (swN k.toNat) x_1))).length : Int) →
 ¬(↑x_2 : Int) < (↑(applyF k.toNat (strOf (letTo (↑x : Int).toNat (swN k.toNat) x_1))).length : Int) ∧
 (cmpTo (applyF k.toNat (writ (↑x : Int).toNat (swN k.toNat))) l x_2 = true →
 cmpTo (applyF k.toNat (writ (↑x : Int).toNat (swN k.toNat))) l x_2 = true ∧
 Fits IntKind.i64 ((↑(waysTo k.toNat l x) : Int) + (1 : Int)) ∧
 Fits IntKind.i64 ((↑x : Int) + (1 : Int)) ∧
 ∃ (x' : Nat),
 (x' ≤ (2 : Nat) ^ swN k.toNat ∧ True) ∧
 (2 : Nat) ^ swN k.toNat - x' < (2 : Nat) ^ swN k.toNat - x ∧
 True ∧
 (↑x : Int) + (1 : Int) = (↑x' : Int) ∧
 (↑(waysTo k.toNat l x) : Int) + (1 : Int) = (↑(waysTo k.toNat l x') : Int) ∧
 (1 : Int) * (2 : Int) ^ (switchesF k).toNat =
 (1 : Int) * (2 : Int) ^ (switchesF k).toNat ∧
 k = k ∧ l = l ∧ True) ∧
 (cmpTo (applyF k.toNat (writ (↑x : Int).toNat (swN k.toNat))) l x_2 = false →
 cmpTo (applyF k.toNat (writ (↑x : Int).toNat (swN k.toNat))) l x_2 = false ∧
 Fits IntKind.i64 ((↑x : Int) + (1 : Int)) ∧
 ∃ (x' : Nat),
 (x' ≤ (2 : Nat) ^ swN k.toNat ∧ True) ∧
 (2 : Nat) ^ swN k.toNat - x' < (2 : Nat) ^ swN k.toNat - x ∧
 True ∧
 (↑x : Int) + (1 : Int) = (↑x' : Int) ∧
 (↑(waysTo k.toNat l x) : Int) = (↑(waysTo k.toNat l x') : Int) ∧
 (1 : Int) * (2 : Int) ^ (switchesF k).toNat =
 (1 : Int) * (2 : Int) ^ (switchesF k).toNat ∧
 k = k ∧ l = l ∧ True)))) ∧
 (¬(↑x : Int) < (1 : Int) * (2 : Int) ^ (switchesF k).toNat →
 ¬(↑x : Int) < (1 : Int) * (2 : Int) ^ (switchesF k).toNat ∧ ((↑(waysTo k.toNat l x) : Int), (0 : Int)) = waysF k l))))) := by
 kernel_rfl

end Go.SX.Pa

/- Chapter 06, part 6: the contract of Ways. -/
namespace Go.SX.Pa
open Go Go.Proofs

theorem and_one {y : Int} (h : 0 ≤ y ∧ y < 64) : bitsF .and .i64 y 1 = y % 2 := by
  have key : ∀ z : Fin 64, bitsF .and .i64 ((z : Nat) : Int) 1 = ((z : Nat) : Int) % 2 := by decide +kernel
  have := key ⟨y.toNat, by omega⟩
  simpa [Int.toNat_of_nonneg h.1] using this
theorem wrap_small {y : Int} (h : 0 ≤ y ∧ y < 64) : IntKind.u8.wrap y = y := by
  have key : ∀ z : Fin 64, IntKind.u8.wrap ((z : Nat) : Int) = ((z : Nat) : Int) := by decide +kernel
  have := key ⟨y.toNat, by omega⟩
  simpa [Int.toNat_of_nonneg h.1] using this
theorem letter_eq {x i : Nat} (h : x < 64) : IntKind.u8.wrap (48 + IntKind.u8.wrap (bitsF .and .i64 ((x : Int) / 2 ^ i) 1)) = ((48 + (x >>> i) % 2 : Nat) : Int) := by
  have e : (x : Int) / 2 ^ i = ((x / 2 ^ i : Nat) : Int) := by simp
  have hle : x / 2 ^ i ≤ x := Nat.div_le_self _ _
  rw [e, Nat.shiftRight_eq_div_pow]
  generalize x / 2 ^ i = d at hle ⊢
  rw [and_one (by omega), wrap_small (y := (d : Int) % 2) (by omega), wrap_small (by omega)]
  omega
theorem letters_length (x n : Nat) : (letters x n).length = n := by simp [letters]
theorem letTo_length (x n i : Nat) (h : i ≤ n) : (letTo x n i).length = n := by simp [letTo, letters_length]; omega
theorem letTo_all (x n : Nat) : letTo x n n = letters x n := by
  unfold letTo
  rw [List.take_of_length_le (by rw [letters_length]; exact Nat.le_refl _)]
  simp
theorem letTo_set (x n i : Nat) (h : i < n) : (letTo x n i).set i ((48 + (x >>> i) % 2 : Nat) : Int) = letTo x n (i + 1) := by
  unfold letTo
  have hl : ((letters x n).take i).length = i := by rw [List.length_take, letters_length]; omega
  rw [List.set_append, if_neg (by omega), hl, Nat.sub_self]
  obtain ⟨m, hm⟩ : ∃ m, n - i = m + 1 := ⟨n - i - 1, by omega⟩
  rw [hm, show n - (i + 1) = m by omega, List.replicate_succ, List.set_cons_zero, take_snoc (letters x n) 0 i (by rw [letters_length]; exact h)]
  have : (letters x n).getD i 0 = ((48 + (x >>> i) % 2 : Nat) : Int) := by simp [letters, List.getD, h]
  rw [this, List.append_assoc]
  rfl
theorem cmpTo_succ (a b : List Int) (i : Nat) : cmpTo a b (i + 1) = (cmpTo a b i && decide (a.getD i 0 = b.getD i 0)) := by
  simp [cmpTo, List.range_succ]
theorem cmpTo_all {a b : List Int} (h : a.length = b.length) : cmpTo a b a.length = decide (a = b) := by
  unfold cmpTo
  apply Bool.eq_iff_iff.2
  rw [List.all_eq_true, decide_eq_true_iff]
  constructor
  · intro h1
    apply List.ext_getElem h
    intro i h2 h3
    have := h1 i (List.mem_range.2 h2)
    rw [decide_eq_true_iff] at this
    simpa [List.getD, List.getElem?_eq_getElem h2, List.getElem?_eq_getElem h3] using this
  · rintro rfl i _
    simp
theorem writ_size (x n : Nat) : (writ x n).size = n := by
  show (strOf (letters x n)).size = n
  simp [strOf, letters_length, ByteArray.size]
theorem writ_bt (x n i : Nat) (h : i < n) : bt (writ x n) i = ((48 + (x >>> i) % 2 : Nat) : Int) := by
  unfold writ bt strOf
  have : i < (letters x n).length := by rw [letters_length]; exact h
  have e : (letters x n)[i]'this = ((48 + (x >>> i) % 2 : Nat) : Int) := by simp [letters]
  simp [List.getElem?_eq_getElem this, e]
  omega
theorem writ_bits (x n : Nat) : Bits (writ x n) := fun i hi => by
  rw [writ_size] at hi
  rw [writ_bt x n i hi]
  omega
theorem waysTo_succ (k : Nat) (l : List Int) (x : Nat) : waysTo k l (x + 1) = waysTo k l x + if applyF k (writ x (swN k)) = l then 1 else 0 := by
  unfold waysTo
  rw [List.range_succ, List.countP_append]
  simp [List.countP_cons]
theorem waysTo_le (k : Nat) (l : List Int) (x : Nat) : waysTo k l x ≤ x := by
  have := List.countP_le_length (p := fun y => decide (applyF k (writ y (swN k)) = l)) (l := List.range x)
  simpa [waysTo] using this

theorem ok18 : p18.OK Tryd.prog := p18.ok C18 (fun _ => cx3 (PC.OK.ci ok51) (PC.OK.ci ok52) (PC.OK.ci ok53)) (fn := Tryd.f18) rfl (by decide +kernel) rfl fun (p : Int × List Int) hp => by
  obtain ⟨k, l⟩ := p
  refine (g18_eq k l).mpr ?_
  have hp : l.length ≤ 1000 := hp
  simp only [pp1, eq_self, and_true, true_and, and_self, Int.toNat_natCast, List.drop_zero]
  unfold waysF
  refine ⟨fun h => by rw [if_neg (by omega)], fun h => ⟨fun h1 => by rw [if_neg (by omega)], fun h1 => ?_⟩⟩
  rw [if_pos (by omega)]
  obtain ⟨K, hK⟩ : ∃ K : Nat, k = (K : Nat) := ⟨k.toNat, by omega⟩
  subst hK
  have hK : K = 1 ∨ K = 2 := by omega
  have eS : switchesF (K : Int) = (swN K : Nat) := by rcases hK with rfl | rfl <;> decide
  have z : swN K ≤ 6 ∧ 2 ^ swN K ≤ 64 ∧ (2 : Nat) ^ K ≤ 4 ∧ 2 ^ K = 2 * hN K := by rcases hK with rfl | rfl <;> decide
  obtain ⟨z1, z2, z3, z4⟩ := z
  simp only [eS, Int.toNat_natCast, Int.one_mul]
  have e2 : ((2 : Int) ^ K) = ((2 ^ K : Nat) : Int) := by simp
  have e3 : ((2 : Int) ^ swN K) = ((2 ^ swN K : Nat) : Int) := by simp
  rw [e2, e3]
  generalize hW : (2 : Nat) ^ swN K = W at *
  generalize hV : (2 : Nat) ^ K = V at *
  refine ⟨by omega, fits_i64 (by omega) (by omega), hp, fun h2 => ?_, fun h2 => ?_⟩
  · rw [Bool.not_eq_true'] at h2
    rw [if_neg (of_decide_eq_false h2)]
  · have h2 : PermP l (V : Int) := by simpa using h2
    rw [if_pos h2]
    have hl : l.length = V := by have := h2.1; omega
    refine ⟨by omega, by omega, fits_i64 (by omega) (by omega), ⟨0, by omega, rfl, by simp [waysTo]⟩, fun x hx => ⟨fun h3 => ⟨by omega, ⟨by omega, by omega, by unfold Small; omega⟩, ⟨0, by omega, by simp [letTo], rfl⟩, fun i hi => ⟨fun h4 => ?_, fun h4 => ?_⟩⟩, fun h3 => ?_⟩⟩
    · rw [List.length_replicate] at h4
      rw [letter_eq (by omega), letTo_set x _ i (by omega), letTo_length x _ i hi]
      exact ⟨by omega, by omega, fits_nat (by omega), i + 1, by omega, by omega, rfl, by simp⟩
    · rw [List.length_replicate] at h4
      have : i = swN K := by omega
      subst this
      simp only [letTo_all x (swN K), show strOf (letters x (swN K)) = writ x (swN K) from rfl]
      have hg := applyF_good K (by omega) (by omega) (writ x (swN K)) (writ_size _ _) (writ_bits _ _)
      have hal : (applyF K (writ x (swN K))).length = l.length := by rw [hg.1, hl, z4]
      have hw := waysTo_succ K l x
      have hwl := waysTo_le K l x
      have hall := cmpTo_all hal
      have hsu := cmpTo_succ (applyF K (writ x (swN K))) l
      refine ⟨⟨by omega, writ_size _ _, writ_bits _ _⟩, ⟨0, by omega, rfl, by simp [cmpTo]⟩, fun j hj => ⟨fun h5 => ⟨by omega, fun h6 => ⟨by omega, fits_nat (by omega), j + 1, by omega, by omega, by simp, ?_⟩, fun h6 => ⟨fits_nat (by omega), j + 1, by omega, by omega, by simp, ?_⟩⟩, fun h5 => ?_⟩⟩
      · rw [hsu, h6, Bool.true_and]
      · rw [hsu, h6, Bool.false_and]
      · have : j = (applyF K (writ x (swN K))).length := by omega
        subst this
        rw [hall]
        refine ⟨fun h6 => ⟨fits_nat (by omega), fits_nat (by omega), x + 1, by omega, by omega, by simp, ?_⟩, fun h6 => ⟨fits_nat (by omega), x + 1, by omega, by omega, by simp, ?_⟩⟩
        · rw [hw, if_pos (of_decide_eq_true h6)]; simp
        · rw [hw, if_neg (of_decide_eq_false h6)]; simp
    · have : x = W := by omega
      rw [this]
end Go.SX.Pa

/- Chapter 06, part 7: what all laws call. -/
namespace Go.SX.Pa
open Go Go.Proofs
noncomputable section
@[reducible] def p25 : PC := ⟨25, [], [aB], fun _ => True, fun _ => true⟩
def g25 : Prop := p25.VC (cx [p38.ci, p20.ci, p45.ci, p18.ci, p19.ci, p26.ci, p28.ci] []) Tryd.f25 ()
@[reducible] def p17 : PC := ⟨17, [aIs], [aIs], fun _ => True, fun l => l.take 13⟩
def g17 (l : List Int) : Prop := p17.VC (cx [] []) Tryd.f17 l
@[reducible] def p21 : PC := ⟨21, [aI, aI, aI], [aB], fun _ => True, fun p => decide (p.2.1 ≤ p.1 ∧ p.1 ≤ p.2.2)⟩
def g21 (a b c : Int) : Prop := p21.VC (cx [] []) Tryd.f21 (a, b, c)
@[reducible] def p24 : PC := ⟨24, [aI, aI, aI], [aB], fun _ => True, fun p => decide (ClosP p.1 p.2.1 p.2.2)⟩
def g24 (n r m : Int) : Prop := p24.VC (cx [p21.ci] []) Tryd.f24 (n, r, m)
@[reducible] def p34 : PC := ⟨34, [aIs, aI], [aB], fun p => p.1.length ≤ 1000, fun p => decide (p.2 ∈ p.1)⟩
@[reducible] def C34 (p : List Int × Int) : Ctx := cx [] [(0, fun _ => upTo p.1.length 5 [0, 1] fun k => p.2 ∉ p.1.take k)]
def g34 (l : List Int) (x : Int) : Prop := p34.VC (C34 (l, x)) Tryd.f34 (l, x)
@[reducible] def p22 : PC := ⟨22, [aI, aIs], [aB], fun p => p.2.length ≤ 1000 ∧ 0 ≤ p.1 ∧ p.1 ≤ 1000000, fun p => decide (PermP p.2 p.1)⟩
@[reducible] def C22 (p : Int × List Int) : Ctx := cx [p21.ci, p34.ci] [(0, fun _ => upTo p.2.length 5 [0, 1] fun k => (∀ x ∈ p.2.take k, 0 ≤ x ∧ x < p.1) ∧ (p.2.take k).Nodup)]
def g22 (n : Int) (l : List Int) : Prop := p22.VC (C22 (n, l)) Tryd.f22 (n, l)
@[reducible] def p32 : PC := ⟨32, [aI], [aI], fun k => 1 ≤ k ∧ k ≤ 3, switchesF⟩
@[reducible] def C32 (k : Int) : Ctx := cx [(p32.below (fun k : Int => k.toNat) k.toNat).ci] []
def g32 (k : Int) : Prop := p32.VC (C32 k) Tryd.f32 k
@[reducible] def p55 : PC := ⟨55, [aI, aI], [aS], fun p => 0 ≤ p.1 ∧ p.1 < 64 ∧ 0 ≤ p.2 ∧ p.2 ≤ 6, fun p => writ p.1.toNat p.2.toNat⟩
@[reducible] def C55 (p : Int × Int) : Ctx := cx [] [(0, fun _ => upToS p.2.toNat 6 [0, 1] (fun _ => True) fun i => [(5, .c (.str (writ p.1.toNat i)))])]
def g55 (x n : Int) : Prop := p55.VC (C55 (x, n)) Tryd.f55 (x, n)
@[reducible] def p48 : PC := ⟨48, [aI, aS], [aIs], fun p => (1 ≤ p.1 ∧ p.1 ≤ 3) ∧ p.2.size = swN p.1.toNat ∧ Bits p.2, fun p => applyF p.1.toNat p.2⟩
@[reducible] def A48 (k : Nat) (s : ByteArray) : Ann where
  τ := Nat
  pre := []
  preC := []
  keep := [5, 7, 8, 9]
  slots x := [(11, .c (.int .i64 x)), (10, .c (.own 1 1))]
  ents x := [(1, .row 3 (.int .i64) 0 ((List.range x).map (applyEl k s)))]
  ok x := x ≤ 2 * hN k
  m x := 2 * hN k - x
@[reducible] def C48 (p : Int × ByteArray) : Ctx := cx [p32.ci, (p48.below m53 (m53 p)).ci] [(0, fun _ => A48 p.1.toNat p.2)]
@[reducible] def p23 : PC := ⟨23, [aI, aIs], [aI], fun p => 1 ≤ p.1 ∧ p.1 ≤ 2 ∧ p.2.length ≤ 1000, fun p => (waysTo p.1.toNat p.2 (2 ^ swN p.1.toNat) : Nat)⟩
@[reducible] def C23 (p : Int × List Int) : Ctx := cx [p32.ci, p55.ci, p48.ci, p28.ci] [(0, fun _ => upToS (2 ^ swN p.1.toNat) 7 [0, 1, 6] (fun _ => True) fun x => [(5, .c (.int .i64 (waysTo p.1.toNat p.2 x)))])]
def g23 (k : Int) (l : List Int) : Prop := p23.VC (C23 (k, l)) Tryd.f23 (k, l)
end
end Go.SX.Pa

/- Printed by VC.lean: what the executor asks. -/
namespace Go.SX.Pa
open Go Go.Proofs
theorem g25_eq  : g25  = (
 (0 : Nat) + (1 : Nat) + (1 : Nat) + (1 : Nat) + (1 : Nat) ≤ (1000 : Nat) ∧
 True ∧
 (ByteArray.mk #[(48 : UInt8), (48 : UInt8), (48 : UInt8), (48 : UInt8), (48 : UInt8), (48 : UInt8)]).size ≤ (1000 : Nat) ∧
 (0 : Nat) + (1 : Nat) + (1 : Nat) + (1 : Nat) + (1 : Nat) ≤ (1000 : Nat) ∧
 True ∧
 (0 : Nat) + (1 : Nat) + (1 : Nat) + (1 : Nat) ≤ (1000 : Nat) ∧
 ((routeF (2 : Int) (2 : Int) (2 : Int) [(2 : Int), (0 : Int), (1 : Int), (3 : Int)]).fst.length ≤ (1000 : Nat) ∧
 (0 : Nat) + (1 : Nat) + (1 : Nat) + (1 : Nat) + (1 : Nat) ≤ (1000 : Nat)) ∧
 (decide ((routeF (2 : Int) (2 : Int) (2 : Int) [(2 : Int), (0 : Int), (1 : Int), (3 : Int)]).fst = [(0 : Int), (1 : Int), (0 : Int), (1 : Int)]) = true →
 decide ((routeF (2 : Int) (2 : Int) (2 : Int) [(2 : Int), (0 : Int), (1 : Int), (3 : Int)]).fst = [(0 : Int), (1 : Int), (0 : Int), (1 : Int)]) = true ∧
 decide ((routeF (2 : Int) (2 : Int) (2 : Int) [(2 : Int), (0 : Int), (1 : Int), (3 : Int)]).fst = [(0 : Int), (1 : Int), (0 : Int), (1 : Int)]) = true ∧
 ((routeF (2 : Int) (2 : Int) (2 : Int) [(2 : Int), (0 : Int), (1 : Int), (3 : Int)]).snd = (0 : Int) →
 (routeF (2 : Int) (2 : Int) (2 : Int) [(2 : Int), (0 : Int), (1 : Int), (3 : Int)]).snd = (0 : Int) ∧
 (routeF (2 : Int) (2 : Int) (2 : Int) [(2 : Int), (0 : Int), (1 : Int), (3 : Int)]).snd = (0 : Int) ∧
 (routeF (2 : Int) (2 : Int) (2 : Int) [(2 : Int), (0 : Int), (1 : Int), (3 : Int)]).snd = (0 : Int) ∧
 ((!(strictF (2 : Int) (2 : Int) (2 : Int)).fst) = true →
 (!(strictF (2 : Int) (2 : Int) (2 : Int)).fst) = true ∧
 (!(strictF (2 : Int) (2 : Int) (2 : Int)).fst) = true ∧
 (!(strictF (2 : Int) (2 : Int) (2 : Int)).fst) = true ∧
 ((strictF (2 : Int) (2 : Int) (2 : Int)).snd = (0 : Int) →
 (strictF (2 : Int) (2 : Int) (2 : Int)).snd = (0 : Int) ∧
 (strictF (2 : Int) (2 : Int) (2 : Int)).snd = (0 : Int) ∧
 (strictF (2 : Int) (2 : Int) (2 : Int)).snd = (0 : Int) ∧
 ((applyP (2 : Int)
 (ByteArray.mk #[(48 : UInt8), (48 : UInt8), (48 : UInt8), (48 : UInt8), (48 : UInt8), (48 : UInt8)])).fst.length ≤
 (1000 : Nat) ∧
 (0 : Nat) + (1 : Nat) + (1 : Nat) + (1 : Nat) + (1 : Nat) ≤ (1000 : Nat)) ∧
 (decide
 ((applyP (2 : Int)
 (ByteArray.mk #[(48 : UInt8), (48 : UInt8), (48 : UInt8), (48 : UInt8), (48 : UInt8), (48 : UInt8)])).fst =
 [(0 : Int), (1 : Int), (2 : Int), (3 : Int)]) =
 true →
 decide
 ((applyP (2 : Int)
 (ByteArray.mk #[(48 : UInt8), (48 : UInt8), (48 : UInt8), (48 : UInt8), (48 : UInt8), (48 : UInt8)])).fst =
 [(0 : Int), (1 : Int), (2 : Int), (3 : Int)]) =
 true ∧
 decide
 ((applyP (2 : Int)
 (ByteArray.mk #[(48 : UInt8), (48 : UInt8), (48 : UInt8), (48 : UInt8), (48 : UInt8), (48 : UInt8)])).fst =
 [(0 : Int), (1 : Int), (2 : Int), (3 : Int)]) =
 true ∧
 decide
 ((applyP (2 : Int)
 (ByteArray.mk
 #[(48 : UInt8), (48 : UInt8), (48 : UInt8), (48 : UInt8), (48 : UInt8), (48 : UInt8)])).fst =
 [(0 : Int), (1 : Int), (2 : Int), (3 : Int)]) =
 true ∧
 ((applyP (2 : Int)
 (ByteArray.mk
 #[(48 : UInt8), (48 : UInt8), (48 : UInt8), (48 : UInt8), (48 : UInt8), (48 : UInt8)])).snd =
 (0 : Int) →
 (applyP (2 : Int)
 (ByteArray.mk
 #[(48 : UInt8), (48 : UInt8), (48 : UInt8), (48 : UInt8), (48 : UInt8), (48 : UInt8)])).snd =
 (0 : Int) ∧
 (applyP (2 : Int)
 (ByteArray.mk
 #[(48 : UInt8), (48 : UInt8), (48 : UInt8), (48 : UInt8), (48 : UInt8), (48 : UInt8)])).snd =
 (0 : Int) ∧
 (applyP (2 : Int)
 (ByteArray.mk
 #[(48 : UInt8), (48 : UInt8), (48 : UInt8), (48 : UInt8), (48 : UInt8), (48 : UInt8)])).snd =
 (0 : Int) ∧
 ((waysF (2 : Int) [(0 : Int), (1 : Int), (2 : Int), (3 : Int)]).fst = (4 : Int) →
 (waysF (2 : Int) [(0 : Int), (1 : Int), (2 : Int), (3 : Int)]).fst = (4 : Int) ∧
 (waysF (2 : Int) [(0 : Int), (1 : Int), (2 : Int), (3 : Int)]).fst = (4 : Int) ∧
 (waysF (2 : Int) [(0 : Int), (1 : Int), (2 : Int), (3 : Int)]).fst = (4 : Int) ∧
 ((waysF (2 : Int) [(0 : Int), (1 : Int), (2 : Int), (3 : Int)]).snd = (0 : Int) →
 (waysF (2 : Int) [(0 : Int), (1 : Int), (2 : Int), (3 : Int)]).snd = (0 : Int) ∧
 (waysF (2 : Int) [(0 : Int), (1 : Int), (2 : Int), (3 : Int)]).snd = (0 : Int) ∧
 (waysF (2 : Int) [(0 : Int), (1 : Int), (2 : Int), (3 : Int)]).snd = (0 : Int) ∧
 ((waksF (3 : Int)).fst = (17 : Int) →
 (waksF (3 : Int)).fst = (17 : Int) ∧
 (waksF (3 : Int)).fst = (17 : Int) ∧
 (waksF (3 : Int)).fst = (17 : Int) ∧
 ((waksF (3 : Int)).snd = (0 : Int) →
 (waksF (3 : Int)).snd = (0 : Int) ∧
 (waksF (3 : Int)).snd = (0 : Int) ∧
 (waksF (3 : Int)).snd = (0 : Int) ∧
 ((colorsF (2 : Int) (2 : Int)
 [((0 : Int), (0 : Int)), ((0 : Int), (0 : Int)),
 ((1 : Int), (1 : Int))]).fst.length ≤
 (1000 : Nat) ∧
 (0 : Nat) + (1 : Nat) + (1 : Nat) + (1 : Nat) ≤
 (1000 : Nat)) ∧
 (decide
 ((colorsF (2 : Int) (2 : Int)
 [((0 : Int), (0 : Int)), ((0 : Int), (0 : Int)),
 ((1 : Int), (1 : Int))]).fst =
 [(0 : Int), (1 : Int), (0 : Int)]) =
 true →
 decide
 ((colorsF (2 : Int) (2 : Int)
 [((0 : Int), (0 : Int)), ((0 : Int), (0 : Int)),
 ((1 : Int), (1 : Int))]).fst =
 [(0 : Int), (1 : Int), (0 : Int)]) =
 true ∧
 decide
 ((colorsF (2 : Int) (2 : Int)
 [((0 : Int), (0 : Int)),
 ((0 : Int), (0 : Int)),
 ((1 : Int), (1 : Int))]).fst =
 [(0 : Int), (1 : Int), (0 : Int)]) =
 true ∧
 decide
 ((colorsF (2 : Int) (2 : Int)
 [((0 : Int), (0 : Int)),
 ((0 : Int), (0 : Int)),
 ((1 : Int), (1 : Int))]).fst =
 [(0 : Int), (1 : Int), (0 : Int)]) =
 true ∧
 decide
 ((colorsF (2 : Int) (2 : Int)
 [((0 : Int), (0 : Int)),
 ((0 : Int), (0 : Int)),
 ((1 : Int), (1 : Int))]).snd =
 (0 : Int)) =
 true) ∧
 (decide
 ((colorsF (2 : Int) (2 : Int)
 [((0 : Int), (0 : Int)), ((0 : Int), (0 : Int)),
 ((1 : Int), (1 : Int))]).fst =
 [(0 : Int), (1 : Int), (0 : Int)]) =
 false →
 decide
 ((colorsF (2 : Int) (2 : Int)
 [((0 : Int), (0 : Int)), ((0 : Int), (0 : Int)),
 ((1 : Int), (1 : Int))]).fst =
 [(0 : Int), (1 : Int), (0 : Int)]) =
 false ∧
 decide
 ((colorsF (2 : Int) (2 : Int)
 [((0 : Int), (0 : Int)),
 ((0 : Int), (0 : Int)),
 ((1 : Int), (1 : Int))]).fst =
 [(0 : Int), (1 : Int), (0 : Int)]) =
 false ∧
 decide
 ((colorsF (2 : Int) (2 : Int)
 [((0 : Int), (0 : Int)),
 ((0 : Int), (0 : Int)),
 ((1 : Int), (1 : Int))]).fst =
 [(0 : Int), (1 : Int), (0 : Int)]) =
 false ∧
 false = true)) ∧
 (¬(waksF (3 : Int)).snd = (0 : Int) →
 ¬(waksF (3 : Int)).snd = (0 : Int) ∧
 ¬(waksF (3 : Int)).snd = (0 : Int) ∧
 ¬(waksF (3 : Int)).snd = (0 : Int) ∧ false = true)) ∧
 (¬(waksF (3 : Int)).fst = (17 : Int) →
 ¬(waksF (3 : Int)).fst = (17 : Int) ∧
 ¬(waksF (3 : Int)).fst = (17 : Int) ∧
 ¬(waksF (3 : Int)).fst = (17 : Int) ∧ false = true)) ∧
 (¬(waysF (2 : Int) [(0 : Int), (1 : Int), (2 : Int), (3 : Int)]).snd = (0 : Int) →
 ¬(waysF (2 : Int) [(0 : Int), (1 : Int), (2 : Int), (3 : Int)]).snd = (0 : Int) ∧
 ¬(waysF (2 : Int) [(0 : Int), (1 : Int), (2 : Int), (3 : Int)]).snd = (0 : Int) ∧
 ¬(waysF (2 : Int) [(0 : Int), (1 : Int), (2 : Int), (3 : Int)]).snd = (0 : Int) ∧
 false = true)) ∧
 (¬(waysF (2 : Int) [(0 : Int), (1 : Int), (2 : Int), (3 : Int)]).fst = (4 : Int) →
 ¬(waysF (2 : Int) [(0 : Int), (1 : Int), (2 : Int), (3 : Int)]).fst = (4 : Int) ∧
 ¬(waysF (2 : Int) [(0 : Int), (1 : Int), (2 : Int), (3 : Int)]).fst = (4 : Int) ∧
 ¬(waysF (2 : Int) [(0 : Int), (1 : Int), (2 : Int), (3 : Int)]).fst = (4 : Int) ∧ false = true)) ∧
 (¬(applyP (2 : Int)
 (ByteArray.mk
 #[(48 : UInt8), (48 : UInt8), (48 : UInt8), (48 : UInt8), (48 : UInt8), (48 : UInt8)])).snd =
 (0 : Int) →
 ¬(applyP (2 : Int)
 (ByteArray.mk
 #[(48 : UInt8), (48 : UInt8), (48 : UInt8), (48 : UInt8), (48 : UInt8), (48 : UInt8)])).snd =
 (0 : Int) ∧
 ¬(applyP (2 : Int)
 (ByteArray.mk
 #[(48 : UInt8), (48 : UInt8), (48 : UInt8), (48 : UInt8), (48 : UInt8), (48 : UInt8)])).snd =
 (0 : Int) ∧
 ¬(applyP (2 : Int)
 (ByteArray.mk
 #[(48 : UInt8), (48 : UInt8), (48 : UInt8), (48 : UInt8), (48 : UInt8), (48 : UInt8)])).snd =
 (0 : Int) ∧
 false = true)) ∧
 (decide
 ((applyP (2 : Int)
 (ByteArray.mk #[(48 : UInt8), (48 : UInt8), (48 : UInt8), (48 : UInt8), (48 : UInt8), (48 : UInt8)])).fst =
 [(0 : Int), (1 : Int), (2 : Int), (3 : Int)]) =
 false →
 decide
 ((applyP (2 : Int)
 (ByteArray.mk #[(48 : UInt8), (48 : UInt8), (48 : UInt8), (48 : UInt8), (48 : UInt8), (48 : UInt8)])).fst =
 [(0 : Int), (1 : Int), (2 : Int), (3 : Int)]) =
 false ∧
 decide
 ((applyP (2 : Int)
 (ByteArray.mk #[(48 : UInt8), (48 : UInt8), (48 : UInt8), (48 : UInt8), (48 : UInt8), (48 : UInt8)])).fst =
 [(0 : Int), (1 : Int), (2 : Int), (3 : Int)]) =
 false ∧
 decide
 ((applyP (2 : Int)
 (ByteArray.mk
 #[(48 : UInt8), (48 : UInt8), (48 : UInt8), (48 : UInt8), (48 : UInt8), (48 : UInt8)])).fst =
 [(0 : Int), (1 : Int), (2 : Int), (3 : Int)]) =
 false ∧
 false = true)) ∧
 (¬(strictF (2 : Int) (2 : Int) (2 : Int)).snd = (0 : Int) →
 ¬(strictF (2 : Int) (2 : Int) (2 : Int)).snd = (0 : Int) ∧
 ¬(strictF (2 : Int) (2 : Int) (2 : Int)).snd = (0 : Int) ∧
 ¬(strictF (2 : Int) (2 : Int) (2 : Int)).snd = (0 : Int) ∧ false = true)) ∧
 ((!(strictF (2 : Int) (2 : Int) (2 : Int)).fst) = false →
 (!(strictF (2 : Int) (2 : Int) (2 : Int)).fst) = false ∧
 (!(strictF (2 : Int) (2 : Int) (2 : Int)).fst) = false ∧ (!(strictF (2 : Int) (2 : Int) (2 : Int)).fst) = false ∧ false = true)) ∧
 (¬(routeF (2 : Int) (2 : Int) (2 : Int) [(2 : Int), (0 : Int), (1 : Int), (3 : Int)]).snd = (0 : Int) →
 ¬(routeF (2 : Int) (2 : Int) (2 : Int) [(2 : Int), (0 : Int), (1 : Int), (3 : Int)]).snd = (0 : Int) ∧
 ¬(routeF (2 : Int) (2 : Int) (2 : Int) [(2 : Int), (0 : Int), (1 : Int), (3 : Int)]).snd = (0 : Int) ∧
 ¬(routeF (2 : Int) (2 : Int) (2 : Int) [(2 : Int), (0 : Int), (1 : Int), (3 : Int)]).snd = (0 : Int) ∧ false = true)) ∧
 (decide ((routeF (2 : Int) (2 : Int) (2 : Int) [(2 : Int), (0 : Int), (1 : Int), (3 : Int)]).fst = [(0 : Int), (1 : Int), (0 : Int), (1 : Int)]) = false →
 decide ((routeF (2 : Int) (2 : Int) (2 : Int) [(2 : Int), (0 : Int), (1 : Int), (3 : Int)]).fst = [(0 : Int), (1 : Int), (0 : Int), (1 : Int)]) = false ∧
 decide ((routeF (2 : Int) (2 : Int) (2 : Int) [(2 : Int), (0 : Int), (1 : Int), (3 : Int)]).fst = [(0 : Int), (1 : Int), (0 : Int), (1 : Int)]) = false ∧
 false = true)) := by
 kernel_rfl

theorem g17_eq (l : List Int) : g17 l = (
 ((0 : Int) ≤ (↑(0 : Nat) : Int) ∧ (↑(0 : Nat) : Int) ≤ min (↑l.length : Int) (13 : Int) ∧ min (↑l.length : Int) (13 : Int) ≤ (↑l.length : Int)) ∧
 True ∧
 Small ((0 : Nat) + (List.drop (↑(0 : Nat) : Int).toNat (List.take (min (↑l.length : Int) (13 : Int)).toNat l)).length) ∧
 List.drop (↑(0 : Nat) : Int).toNat (List.take (min (↑l.length : Int) (13 : Int)).toNat l) = List.take (13 : Nat) l) := by
 kernel_rfl

theorem g21_eq (a : Int) (b : Int) (c : Int) : g21 a b c = (
 (b ≤ a → b ≤ a ∧ b ≤ a ∧ decide (a ≤ c) = decide (b ≤ a ∧ a ≤ c)) ∧ (¬b ≤ a → ¬b ≤ a ∧ ¬b ≤ a ∧ false = decide (b ≤ a ∧ a ≤ c))) := by
 kernel_rfl

theorem g24_eq (n : Int) (r : Int) (m : Int) : g24 n r m = (
 True ∧
 (decide ((1 : Int) ≤ n ∧ n ≤ (12 : Int)) = true →
 decide ((1 : Int) ≤ n ∧ n ≤ (12 : Int)) = true ∧
 decide ((1 : Int) ≤ n ∧ n ≤ (12 : Int)) = true ∧
 True ∧
 (decide ((1 : Int) ≤ r ∧ r ≤ (12 : Int)) = true →
 decide ((1 : Int) ≤ r ∧ r ≤ (12 : Int)) = true ∧
 decide ((1 : Int) ≤ r ∧ r ≤ (12 : Int)) = true ∧
 decide ((1 : Int) ≤ r ∧ r ≤ (12 : Int)) = true ∧
 Fits IntKind.i64 (n * r) ∧
 (n * r ≤ (12 : Int) →
 n * r ≤ (12 : Int) ∧ n * r ≤ (12 : Int) ∧ n * r ≤ (12 : Int) ∧ True ∧ decide ((1 : Int) ≤ m ∧ m ≤ (12 : Int)) = decide (ClosP n r m)) ∧
 (¬n * r ≤ (12 : Int) → ¬n * r ≤ (12 : Int) ∧ ¬n * r ≤ (12 : Int) ∧ ¬n * r ≤ (12 : Int) ∧ false = decide (ClosP n r m))) ∧
 (decide ((1 : Int) ≤ r ∧ r ≤ (12 : Int)) = false →
 decide ((1 : Int) ≤ r ∧ r ≤ (12 : Int)) = false ∧
 decide ((1 : Int) ≤ r ∧ r ≤ (12 : Int)) = false ∧ decide ((1 : Int) ≤ r ∧ r ≤ (12 : Int)) = false ∧ false = decide (ClosP n r m))) ∧
 (decide ((1 : Int) ≤ n ∧ n ≤ (12 : Int)) = false →
 decide ((1 : Int) ≤ n ∧ n ≤ (12 : Int)) = false ∧ decide ((1 : Int) ≤ n ∧ n ≤ (12 : Int)) = false ∧ false = decide (ClosP n r m))) := by
 kernel_rfl

theorem g34_eq (l : List Int) (x : Int) : g34 l x = (
 (∃ (x0 : Nat), (x0 ≤ l.length ∧ ¬x ∈ List.take x0 l) ∧ True ∧ (0 : Int) = (↑x0 : Int) ∧ l = l ∧ x = x ∧ True) ∧
 ∀ (x_1 : Nat),
 x_1 ≤ l.length ∧ ¬x ∈ List.take x_1 l →
 ((↑x_1 : Int) < (↑l.length : Int) →
 (↑x_1 : Int) < (↑l.length : Int) ∧
 ((0 : Int) ≤ (↑x_1 : Int) ∧ (↑x_1 : Int) < (↑l.length : Int)) ∧
 (l.getD (↑x_1 : Int).toNat (0 : Int) = x → l.getD (↑x_1 : Int).toNat (0 : Int) = x ∧ true = decide (x ∈ l)) ∧
 (¬l.getD (↑x_1 : Int).toNat (0 : Int) = x →
 ¬l.getD (↑x_1 : Int).toNat (0 : Int) = x ∧
 Fits IntKind.i64 ((↑x_1 : Int) + (1 : Int)) ∧
 ∃ (x' : Nat),
 (x' ≤ l.length ∧ ¬x ∈ List.take x' l) ∧ l.length - x' < l.length - x_1 ∧ True ∧ (↑x_1 : Int) + (1 : Int) = (↑x' : Int) ∧ l = l ∧ x = x ∧ True)) ∧
 (¬(↑x_1 : Int) < (↑l.length : Int) → ¬(↑x_1 : Int) < (↑l.length : Int) ∧ false = decide (x ∈ l))) := by
 kernel_rfl

theorem g22_eq (n : Int) (l : List Int) : g22 n l = (
 (∃ (x0 : Nat), (x0 ≤ l.length ∧ (∀ (x : Int), x ∈ List.take x0 l → (0 : Int) ≤ x ∧ x < n) ∧ (List.take x0 l).Nodup) ∧ True ∧ (0 : Int) = (↑x0 : Int) ∧ n = n ∧ l = l ∧ True) ∧
 ∀ (x : Nat),
 x ≤ l.length ∧ (∀ (x_1 : Int), x_1 ∈ List.take x l → (0 : Int) ≤ x_1 ∧ x_1 < n) ∧ (List.take x l).Nodup →
 ((↑x : Int) < (↑l.length : Int) →
 (↑x : Int) < (↑l.length : Int) ∧
 ((0 : Int) ≤ (↑x : Int) ∧ (↑x : Int) < (↑l.length : Int)) ∧
 Fits IntKind.i64 (n - (1 : Int)) ∧
 True ∧
 ((!decide ((0 : Int) ≤ l.getD (↑x : Int).toNat (0 : Int) ∧ l.getD (↑x : Int).toNat (0 : Int) ≤ n - (1 : Int))) = true →
 (!decide ((0 : Int) ≤ l.getD (↑x : Int).toNat (0 : Int) ∧ l.getD (↑x : Int).toNat (0 : Int) ≤ n - (1 : Int))) = true ∧
 (!decide ((0 : Int) ≤ l.getD (↑x : Int).toNat (0 : Int) ∧ l.getD (↑x : Int).toNat (0 : Int) ≤ n - (1 : Int))) = true ∧ false = decide (PermP l n)) ∧
 ((!decide ((0 : Int) ≤ l.getD (↑x : Int).toNat (0 : Int) ∧ l.getD (↑x : Int).toNat (0 : Int) ≤ n - (1 : Int))) = false →
 (!decide ((0 : Int) ≤ l.getD (↑x : Int).toNat (0 : Int) ∧ l.getD (↑x : Int).toNat (0 : Int) ≤ n - (1 : Int))) = false ∧
 (!decide ((0 : Int) ≤ l.getD (↑x : Int).toNat (0 : Int) ∧ l.getD (↑x : Int).toNat (0 : Int) ≤ n - (1 : Int))) = false ∧
 ((0 : Int) ≤ (↑(0 : Nat) : Int) ∧ (↑(0 : Nat) : Int) ≤ (↑x : Int) ∧ (↑x : Int) ≤ (↑l.length : Int)) ∧
 True ∧
 ((0 : Int) ≤ (↑x : Int) ∧ (↑x : Int) < (↑l.length : Int)) ∧
 (List.drop (↑(0 : Nat) : Int).toNat (List.take (↑x : Int).toNat l)).length ≤ (1000 : Nat) ∧
 (decide (l.getD (↑x : Int).toNat (0 : Int) ∈ List.drop (↑(0 : Nat) : Int).toNat (List.take (↑x : Int).toNat l)) = true →
 decide (l.getD (↑x : Int).toNat (0 : Int) ∈ List.drop (↑(0 : Nat) : Int).toNat (List.take (↑x : Int).toNat l)) = true ∧
 decide (l.getD (↑x : Int).toNat (0 : Int) ∈ List.drop (↑(0 : Nat) : Int).toNat (List.take (↑x : Int).toNat l)) = true ∧
 false = decide (PermP l n)) ∧
 (decide (l.getD (↑x : Int).toNat (0 : Int) ∈ List.drop (↑(0 : Nat) : Int).toNat (List.take (↑x : Int).toNat l)) = false →
 decide (l.getD (↑x : Int).toNat (0 : Int) ∈ List.drop (↑(0 : Nat) : Int).toNat (List.take (↑x : Int).toNat l)) = false ∧
 decide (l.getD (↑x : Int).toNat (0 : Int) ∈ List.drop (↑(0 : Nat) : Int).toNat (List.take (↑x : Int).toNat l)) = false ∧
 Fits IntKind.i64 ((↑x : Int) + (1 : Int)) ∧
 ∃ (x' : Nat),
 (x' ≤ l.length ∧ (∀ (x : Int), x ∈ List.take x' l → (0 : Int) ≤ x ∧ x < n) ∧ (List.take x' l).Nodup) ∧
 l.length - x' < l.length - x ∧ True ∧ (↑x : Int) + (1 : Int) = (↑x' : Int) ∧ n = n ∧ l = l ∧ True))) ∧
 (¬(↑x : Int) < (↑l.length : Int) → ¬(↑x : Int) < (↑l.length : Int) ∧ decide ((↑l.length : Int) = n) = decide (PermP l n))) := by
 kernel_rfl

theorem g32_eq (k : Int) : g32 k = (
 (k = (1 : Int) → k = (1 : Int) ∧ (1 : Int) = switchesF k) ∧
 (¬k = (1 : Int) →
 ¬k = (1 : Int) ∧
 ((0 : Int) ≤ k ∧ k < (64 : Int)) ∧
 Fits IntKind.i64 ((1 : Int) * (2 : Int) ^ k.toNat) ∧
 Fits IntKind.i64 (k - (1 : Int)) ∧
 (((1 : Int) ≤ k - (1 : Int) ∧ k - (1 : Int) ≤ (3 : Int)) ∧ (k - (1 : Int)).toNat < k.toNat) ∧
 Fits IntKind.i64 ((2 : Int) * switchesF (k - (1 : Int))) ∧
 Fits IntKind.i64 ((1 : Int) * (2 : Int) ^ k.toNat + (2 : Int) * switchesF (k - (1 : Int))) ∧
 (1 : Int) * (2 : Int) ^ k.toNat + (2 : Int) * switchesF (k - (1 : Int)) = switchesF k)) := by
 kernel_rfl

theorem g55_eq (x : Int) (n : Int) : g55 x n = (
 (∃ (x0 : Nat), (x0 ≤ n.toNat ∧ True) ∧ True ∧ (0 : Int) = (↑x0 : Int) ∧ ByteArray.mk #[] = writ x.toNat x0 ∧ x = x ∧ n = n ∧ True) ∧
 ∀ (x_1 : Nat),
 x_1 ≤ n.toNat ∧ True →
 ((↑x_1 : Int) < n →
 (↑x_1 : Int) < n ∧
 ((0 : Int) ≤ (↑x_1 : Int) ∧ (↑x_1 : Int) < (64 : Int)) ∧
 Fits IntKind.i64 ((48 : Int) + bitsF BinOp.and IntKind.i64 (x / (2 : Int) ^ (↑x_1 : Int).toNat) (1 : Int)) ∧
 Small ((writ x.toNat x_1).size + (strOf [IntKind.u8.wrap ((48 : Int) + bitsF BinOp.and IntKind.i64 (x / (2 : Int) ^ (↑x_1 : Int).toNat) (1 : Int))]).size) ∧
 Fits IntKind.i64 ((↑x_1 : Int) + (1 : Int)) ∧
 ∃ (x' : Nat),
 (x' ≤ n.toNat ∧ True) ∧
 n.toNat - x' < n.toNat - x_1 ∧
 True ∧
 (↑x_1 : Int) + (1 : Int) = (↑x' : Int) ∧
 writ x.toNat x_1 ++ strOf [IntKind.u8.wrap ((48 : Int) + bitsF BinOp.and IntKind.i64 (x / (2 : Int) ^ (↑x_1 : Int).toNat) (1 : Int))] =
 writ x.toNat x' ∧
 x = x ∧ n = n ∧ True) ∧
 (¬(↑x_1 : Int) < n → ¬(↑x_1 : Int) < n ∧ writ x.toNat x_1 = writ x.toNat n.toNat)) := by
 kernel_rfl

theorem g23_eq (k : Int) (l : List Int) : g23 k l = (
 ((1 : Int) ≤ k ∧ k ≤ (3 : Int)) ∧
 (∃ (x0 : Nat),
 (x0 ≤ (2 : Nat) ^ swN k.toNat ∧ True) ∧ True ∧ (0 : Int) = (↑x0 : Int) ∧ (0 : Int) = (↑(waysTo k.toNat l x0) : Int) ∧ switchesF k = switchesF k ∧ k = k ∧ l = l ∧ True) ∧
 ∀ (x : Nat),
 x ≤ (2 : Nat) ^ swN k.toNat ∧ True →
 ((0 : Int) ≤ switchesF k ∧ switchesF k < (64 : Int)) ∧
 Fits IntKind.i64 ((1 : Int) * (2 : Int) ^ (switchesF k).toNat) ∧
 ((↑x : Int) < (1 : Int) * (2 : Int) ^ (switchesF k).toNat →
 (↑x : Int) < (1 : Int) * (2 : Int) ^ (switchesF k).toNat ∧
 ((0 : Int) ≤ (↑x : Int) ∧ (↑x : Int) < (64 : Int) ∧ (0 : Int) ≤ switchesF k ∧ switchesF k ≤ (6 : Int)) ∧
 (((1 : Int) ≤ k ∧ k ≤ (3 : Int)) ∧
 (writ (↑x : Int).toNat (switchesF k).toNat).size = swN k.toNat ∧
 ∀ (i : Nat),
 i < (writ (↑x : Int).toNat (switchesF k).toNat).size →
 bt (writ (↑x : Int).toNat (switchesF k).toNat) i = (48 : Int) ∨ bt (writ (↑x : Int).toNat (switchesF k).toNat) i = (49 : Int)) ∧
 ((applyF k.toNat (writ (↑x : Int).toNat (switchesF k).toNat)).length ≤ (1000 : Nat) ∧ l.length ≤ (1000 : Nat)) ∧
 (decide (applyF k.toNat (writ (↑x : Int).toNat (switchesF k).toNat) = l) = true →
 decide (applyF k.toNat (writ (↑x : Int).toNat (switchesF k).toNat) = l) = true ∧
 Fits IntKind.i64 ((↑(waysTo k.toNat l x) : Int) + (1 : Int)) ∧
 Fits IntKind.i64 ((↑x : Int) + (1 : Int)) ∧
 ∃ (x' : Nat),
 (x' ≤ (2 : Nat) ^ swN k.toNat ∧ True) ∧
 (2 : Nat) ^ swN k.toNat - x' < (2 : Nat) ^ swN k.toNat - x ∧
 True ∧
 (↑x : Int) + (1 : Int) = (↑x' : Int) ∧
 (↑(waysTo k.toNat l x) : Int) + (1 : Int) = (↑(waysTo k.toNat l x') : Int) ∧ switchesF k = switchesF k ∧ k = k ∧ l = l ∧ True) ∧
 (decide (applyF k.toNat (writ (↑x : Int).toNat (switchesF k).toNat) = l) = false →
 decide (applyF k.toNat (writ (↑x : Int).toNat (switchesF k).toNat) = l) = false ∧
 Fits IntKind.i64 ((↑x : Int) + (1 : Int)) ∧
 ∃ (x' : Nat),
 (x' ≤ (2 : Nat) ^ swN k.toNat ∧ True) ∧
 (2 : Nat) ^ swN k.toNat - x' < (2 : Nat) ^ swN k.toNat - x ∧
 True ∧
 (↑x : Int) + (1 : Int) = (↑x' : Int) ∧
 (↑(waysTo k.toNat l x) : Int) = (↑(waysTo k.toNat l x') : Int) ∧ switchesF k = switchesF k ∧ k = k ∧ l = l ∧ True)) ∧
 (¬(↑x : Int) < (1 : Int) * (2 : Int) ^ (switchesF k).toNat →
 ¬(↑x : Int) < (1 : Int) * (2 : Int) ^ (switchesF k).toNat ∧ (↑(waysTo k.toNat l x) : Int) = (↑(waysTo k.toNat l ((2 : Nat) ^ swN k.toNat)) : Int))) := by
 kernel_rfl

end Go.SX.Pa

/- Chapter 06, part 7: the contracts of what all laws call. -/
namespace Go.SX.Pa
open Go Go.Proofs

def zeros6 : ByteArray := ByteArray.mk #[48, 48, 48, 48, 48, 48]
theorem live1 : routeF 2 2 2 [2, 0, 1, 3] = ([0, 1, 0, 1], 0) := by decide +kernel
theorem live2 : strictF 2 2 2 = (false, 0) := by decide +kernel
theorem live3 : applyP 2 (ByteArray.mk #[48, 48, 48, 48, 48, 48]) = ([0, 1, 2, 3], 0) := by decide +kernel
theorem live4 : waysF 2 [0, 1, 2, 3] = (4, 0) := by decide +kernel
theorem live5 : waksF 3 = (17, 0) := by decide +kernel
theorem live6 : colorsF 2 2 [(0, 0), (0, 0), (1, 1)] = ([0, 1, 0], 0) := by decide +kernel

theorem ok25 : p25.OK Tryd.prog := p25.ok (fun _ => cx [p38.ci, p20.ci, p45.ci, p18.ci, p19.ci, p26.ci, p28.ci] []) (fun _ => cx_ok (cs := [p38.ci, p20.ci, p45.ci, p18.ci, p19.ci, p26.ci, p28.ci]) ⟨PC.OK.ci ok38, PC.OK.ci ok20, PC.OK.ci ok45, PC.OK.ci ok18, PC.OK.ci ok19, PC.OK.ci ok26, PC.OK.ci ok28, trivial⟩ _) (fn := Tryd.f25) rfl (by decide +kernel) rfl fun x _ => by
  obtain ⟨⟩ := x
  refine g25_eq.mpr ?_
  simp only [live1, live2, live3, live4, live5, live6, pp1, eq_self, and_true, true_and, and_self, decide_true, forall_const, List.length_cons, List.length_nil]
  simp
  try decide

theorem ok17 : p17.OK Tryd.prog := p17.ok (fun _ => cx [] []) (fun _ => cx0) (fn := Tryd.f17) rfl (by decide +kernel) rfl fun (l : List Int) _ => by
  refine (g17_eq l).mpr ?_
  simp only [pp1, eq_self, and_true, true_and, and_self, Int.toNat_natCast, List.drop_zero]
  have e : (min (l.length : Int) 13).toNat = min l.length 13 := by omega
  rw [e]
  refine ⟨by omega, by unfold Small; rw [List.length_take]; omega, ?_⟩
  rcases Nat.le_total l.length 13 with h | h
  · rw [Nat.min_eq_left h, List.take_of_length_le (Nat.le_refl _), List.take_of_length_le h]
  · rw [Nat.min_eq_right h]

theorem ok21 : p21.OK Tryd.prog := p21.ok (fun _ => cx [] []) (fun _ => cx0) (fn := Tryd.f21) rfl (by decide +kernel) rfl fun (p : Int × Int × Int) _ => by
  obtain ⟨a, b, c⟩ := p
  refine (g21_eq a b c).mpr ?_
  simp only [pp1, eq_self, and_true, true_and, and_self]
  exact ⟨fun h => decide_eq_decide.2 (by omega), fun h => (decide_eq_false (by omega)).symm⟩

theorem ok24 : p24.OK Tryd.prog := p24.ok (fun _ => cx [p21.ci] []) (fun _ => cx1 (PC.OK.ci ok21)) (fn := Tryd.f24) rfl (by decide +kernel) rfl fun (p : Int × Int × Int) _ => by
  obtain ⟨n, r, m⟩ := p
  refine (g24_eq n r m).mpr ?_
  simp only [pp1, eq_self, and_true, true_and, and_self]
  refine ⟨fun h1 => ⟨fun h2 => ?_, fun h2 => ?_⟩, fun h1 => ?_⟩
  · have h1 := of_decide_eq_true h1
    have h2 := of_decide_eq_true h2
    refine ⟨mul_fits (by omega) (by omega) (by omega) (by omega), fun h3 => decide_eq_decide.2 ?_, fun h3 => (decide_eq_false fun h => h3 h.2.2.1).symm⟩
    unfold ClosP
    omega
  · have h2 := of_decide_eq_false h2
    exact (decide_eq_false fun h => h2 h.2.1).symm
  · have h1 := of_decide_eq_false h1
    exact (decide_eq_false fun h => h1 h.1).symm

theorem ok34 : p34.OK Tryd.prog := p34.ok C34 (fun _ => cx0) (fn := Tryd.f34) rfl (by decide +kernel) rfl fun (p : List Int × Int) hp => by
  obtain ⟨l, x⟩ := p
  refine (g34_eq l x).mpr ?_
  have hp : l.length ≤ 1000 := hp
  simp only [pp1, eq_self, and_true, true_and, and_self, Int.toNat_natCast]
  refine ⟨⟨0, ⟨by omega, by simp⟩, rfl⟩, fun k ⟨hk, hno⟩ => ⟨fun h1 => ?_, fun h1 => ?_⟩⟩
  · have hk' : k < l.length := by omega
    refine ⟨by omega, fun h2 => (decide_eq_true ?_).symm, fun h2 => ⟨fits_nat (by omega), k + 1, ⟨by omega, fun h3 => ?_⟩, by omega, by simp⟩⟩
    · rw [← h2]; exact getD_mem l 0 hk'
    · rcases (take_mem l 0 x k hk').1 h3 with h4 | h4
      · exact hno h4
      · exact h2 h4.symm
  · have : l.take k = l := List.take_of_length_le (by omega)
    rw [this] at hno
    exact (decide_eq_false hno).symm

theorem ok22 : p22.OK Tryd.prog := p22.ok C22 (fun _ => cx2 (PC.OK.ci ok21) (PC.OK.ci ok34)) (fn := Tryd.f22) rfl (by decide +kernel) rfl fun (p : Int × List Int) hp => by
  obtain ⟨n, l⟩ := p
  refine (g22_eq n l).mpr ?_
  obtain ⟨q1, q2, q3⟩ := hp
  have q1 : l.length ≤ 1000 := q1
  have q2 : (0 : Int) ≤ n := q2
  have q3 : n ≤ (1000000 : Int) := q3
  simp only [pp1, eq_self, and_true, true_and, and_self, Int.toNat_natCast, List.drop_zero]
  refine ⟨⟨0, ⟨by omega, by simp, by simp⟩, rfl⟩, fun k ⟨hk, hr, hn⟩ => ⟨fun h1 => ?_, fun h1 => ?_⟩⟩
  · have hk' : k < l.length := by omega
    have hm : l.getD k 0 ∈ l := getD_mem l 0 hk'
    refine ⟨by omega, fits_i64 (by omega) (by omega), fun h2 => ?_, fun h2 => ⟨by omega, by omega, by rw [List.length_take]; omega, fun h3 => ?_, fun h3 => ⟨fits_nat (by omega), k + 1, ⟨by omega, fun x hx => ?_, ?_⟩, by omega, by simp⟩⟩⟩
    · rw [Bool.not_eq_true'] at h2
      have h2 := of_decide_eq_false h2
      exact (decide_eq_false fun h => h2 (by have := h.2.1 _ hm; omega)).symm
    · have h3 := of_decide_eq_true h3
      refine (decide_eq_false fun h => ?_).symm
      have h7 : (l.take (k + 1)).Nodup := h.2.2.sublist (List.take_sublist _ _)
      rw [take_snoc l 0 k hk', List.nodup_append] at h7
      exact h7.2.2 _ h3 _ (by simp) rfl
    · rcases (take_mem l 0 x k hk').1 hx with h4 | h4
      · exact hr x h4
      · subst h4
        rw [Bool.not_eq_false'] at h2
        have h2 := of_decide_eq_true h2
        omega
    · rw [take_snoc l 0 k hk']; exact nodup_snoc hn (of_decide_eq_false h3)
  · have : l.take k = l := List.take_of_length_le (by omega)
    rw [this] at hr hn
    apply decide_eq_decide.2
    exact ⟨fun h => ⟨h, hr, hn⟩, fun h => h.1⟩

theorem ok32 : p32.OK Tryd.prog := p32.rec_ok (fn := Tryd.f32) (fun k : Int => k.toNat) C32 (fun _ h => cx1 (PC.OK.ci h)) rfl (by decide +kernel) rfl fun (k : Int) hk => by
  refine (g32_eq k).mpr ?_
  have hk : 1 ≤ k ∧ k ≤ 3 := hk
  have h3 : k = 1 ∨ k = 2 ∨ k = 3 := by omega
  simp only [pp1, eq_self, and_true, true_and, and_self]
  rcases h3 with rfl | rfl | rfl
  · exact ⟨fun _ => by decide, fun h => absurd rfl h⟩
  · exact ⟨fun h => absurd h (by decide), fun _ => ⟨by decide, fits_i64 (by decide) (by decide), fits_i64 (by decide) (by decide), by decide, fits_i64 (by decide) (by decide), fits_i64 (by decide) (by decide), by decide⟩⟩
  · exact ⟨fun h => absurd h (by decide), fun _ => ⟨by decide, fits_i64 (by decide) (by decide), fits_i64 (by decide) (by decide), by decide, fits_i64 (by decide) (by decide), fits_i64 (by decide) (by decide), by decide⟩⟩

theorem letter_eq1 {x i : Nat} (h : x < 64) : bitsF .and .i64 ((x : Int) / 2 ^ i) 1 = (((x >>> i) % 2 : Nat) : Int) := by
  have e : (x : Int) / 2 ^ i = ((x / 2 ^ i : Nat) : Int) := by simp
  have hle : x / 2 ^ i ≤ x := Nat.div_le_self _ _
  rw [e, Nat.shiftRight_eq_div_pow]
  generalize x / 2 ^ i = d at hle ⊢
  rw [and_one (by omega)]
  omega
theorem strOf_append (a b : List Int) : strOf a ++ strOf b = strOf (a ++ b) := by
  unfold strOf
  rw [List.map_append]
  apply ByteArray.ext
  simp
theorem writ_succ (x n : Nat) : writ x n ++ strOf [((48 + (x >>> n) % 2 : Nat) : Int)] = writ x (n + 1) := by
  unfold writ
  rw [strOf_append]
  simp [letters, List.range_succ]

theorem ok55 : p55.OK Tryd.prog := p55.ok C55 (fun _ => cx0) (fn := Tryd.f55) rfl (by decide +kernel) rfl fun (p : Int × Int) hp => by
  obtain ⟨x, n⟩ := p
  refine (g55_eq x n).mpr ?_
  obtain ⟨q1, q2, q3, q4⟩ := hp
  have q1 : (0 : Int) ≤ x := q1
  have q2 : x < (64 : Int) := q2
  have q3 : (0 : Int) ≤ n := q3
  have q4 : n ≤ (6 : Int) := q4
  obtain ⟨X, rfl⟩ : ∃ X : Nat, x = (X : Nat) := ⟨x.toNat, by omega⟩
  simp only [pp1, eq_self, and_true, true_and, and_self, Int.toNat_natCast]
  refine ⟨⟨0, by omega, rfl, rfl⟩, fun k hk => ⟨fun h1 => ?_, fun h1 => ?_⟩⟩
  · rw [letter_eq1 (by omega)]
    have ew : IntKind.u8.wrap (48 + ((X >>> k % 2 : Nat) : Int)) = ((48 + (X >>> k) % 2 : Nat) : Int) := by
      rw [wrap_small (by omega)]; omega
    rw [ew, writ_succ, writ_size]
    refine ⟨by omega, fits_i64 (by omega) (by omega), ?_, fits_nat (by omega), k + 1, by omega, by omega, by simp, rfl⟩
    have : (strOf [((48 + (X >>> k) % 2 : Nat) : Int)]).size = 1 := rfl
    rw [this]; unfold Small; omega
  · have : k = n.toNat := by omega
    rw [this]
end Go.SX.Pa

/- Chapter 06 in plain words, part N: permutations by number. -/
namespace Go.SX.Pa
def nthAt (code : List Int) (i : Nat) : Nat := if i < code.length then (code.getD i 0).toNat % (i + 1) else 0
def nthTo (code : List Int) : Nat → List Int
  | 0 => []
  | i + 1 => (nthTo code i).take (nthAt code i) ++ [(i : Int)] ++ (nthTo code i).drop (nthAt code i)
/-- The digits of a number that stand for a permutation. -/
def codeTo (p : Nat) : Nat → List Int × Nat
  | 0 => ([], p)
  | i + 1 => ((codeTo p i).1 ++ [(((codeTo p i).2 % (i + 1) : Nat) : Int)], (codeTo p i).2 / (i + 1))
def permAt (K p : Nat) : List Int := nthTo (codeTo p (2 ^ K)).1 (2 ^ K)
def facN : Nat → Nat
  | 0 => 1
  | i + 1 => (i + 1) * facN i
def sumTo (K : Nat) : Nat → Nat
  | 0 => 0
  | p + 1 => sumTo K p + waysTo K (permAt K p) (2 ^ swN K)
def netF (x : Int × Int × Int) : Int × Int × Int := (x.1 % 12 + 1, x.2.1 % (12 / (x.1 % 12 + 1)) + 1, x.2.2 % 12 + 1)
def graphTo (x : List Ed) (i : Nat) : List Ed := (x.take i).map fun p => (p.1 % 6, p.2 % 6)
def graphX (x : List Ed) : List Ed := graphTo x 12
def Byte2 (p : Ed) : Prop := (0 ≤ p.1 ∧ p.1 ≤ 255) ∧ 0 ≤ p.2 ∧ p.2 ≤ 255
def Byte3 (p : Int × Int × Int) : Prop := (0 ≤ p.1 ∧ p.1 ≤ 255) ∧ (0 ≤ p.2.1 ∧ p.2.1 ≤ 255) ∧ 0 ≤ p.2.2 ∧ p.2.2 ≤ 255
def Bytes (l : List Int) : Prop := l.length ≤ maxLen ∧ ∀ b ∈ l, 0 ≤ b ∧ b ≤ 255
end Go.SX.Pa

/- Chapter 06, part 12: permutations by number. -/
namespace Go.SX.Pa
open Go Go.Proofs
noncomputable section
@[reducible] def p31 : PC := ⟨31, [aI, aBs], [aIs], fun p => (0 ≤ p.1 ∧ p.1 ≤ 100) ∧ p.2.length ≤ maxLen ∧ ∀ b ∈ p.2, 0 ≤ b ∧ b ≤ 255, fun p => nthTo p.2 p.1.toNat⟩
@[reducible] def A31 (n : Int) (code : List Int) : Ann where
  τ := Nat
  pre := []
  preC := []
  keep := [0, 1]
  slots k := [(6, .c (.int .i64 k)), (5, .c (.ro (.int .i64) (nthTo code k)))]
  ents _ := [(0, .dead)]
  ok k := k ≤ n.toNat
  m k := n.toNat - k
@[reducible] def C31 (p : Int × List Int) : Ctx := cx [] [(0, fun _ => A31 p.1 p.2)]
def g31 (n : Int) (code : List Int) : Prop := p31.VC (C31 (n, code)) Tryd.f31 (n, code)
end
end Go.SX.Pa

/- Printed by VC.lean: what the executor asks. -/
namespace Go.SX.Pa
open Go Go.Proofs
theorem g31_eq (n : Int) (code : List Int) : g31 n code = (
 (∃ (x0 : Nat), x0 ≤ n.toNat ∧ (True ∧ True) ∧ (0 : Int) = (↑x0 : Int) ∧ [] = nthTo code x0 ∧ n = n ∧ code = code ∧ True) ∧
 ∀ (x : Nat),
 x ≤ n.toNat →
 ((↑x : Int) < n →
 (↑x : Int) < n ∧
 ((↑x : Int) < (↑code.length : Int) →
 (↑x : Int) < (↑code.length : Int) ∧
 ((0 : Int) ≤ (↑x : Int) ∧ (↑x : Int) < (↑code.length : Int)) ∧
 Fits IntKind.i64 (code.getD (↑x : Int).toNat (0 : Int)) ∧
 Fits IntKind.i64 ((↑x : Int) + (1 : Int)) ∧
 ((0 : Int) ≤ code.getD (↑x : Int).toNat (0 : Int) ∧ (0 : Int) < (↑x : Int) + (1 : Int)) ∧
 ((0 : Int) ≤ (↑(0 : Nat) : Int) ∧
 (↑(0 : Nat) : Int) ≤ code.getD (↑x : Int).toNat (0 : Int) % ((↑x : Int) + (1 : Int)) ∧
 code.getD (↑x : Int).toNat (0 : Int) % ((↑x : Int) + (1 : Int)) ≤ (↑(nthTo code x).length : Int)) ∧
 True ∧
 ((0 : Int) ≤ code.getD (↑x : Int).toNat (0 : Int) % ((↑x : Int) + (1 : Int)) ∧
 code.getD (↑x : Int).toNat (0 : Int) % ((↑x : Int) + (1 : Int)) ≤ (↑(nthTo code x).length : Int) ∧
 (↑(nthTo code x).length : Int) ≤ (↑(nthTo code x).length : Int)) ∧
 True ∧
 ((Small
 ((0 : Nat) +
 (List.drop (↑(0 : Nat) : Int).toNat
 (List.take (code.getD (↑x : Int).toNat (0 : Int) % ((↑x : Int) + (1 : Int))).toNat (nthTo code x))).length) ∧
 Small
 ((List.drop (↑(0 : Nat) : Int).toNat
 (List.take (code.getD (↑x : Int).toNat (0 : Int) % ((↑x : Int) + (1 : Int))).toNat (nthTo code x))).length +
 ((0 : Nat) + (1 : Nat))) ∧
 Small
 ((List.drop (↑(0 : Nat) : Int).toNat
 (List.take (code.getD (↑x : Int).toNat (0 : Int) % ((↑x : Int) + (1 : Int))).toNat (nthTo code x)) ++
 [(↑x : Int)]).length +
 (List.drop (code.getD (↑x : Int).toNat (0 : Int) % ((↑x : Int) + (1 : Int))).toNat
 (List.take (↑(nthTo code x).length : Int).toNat (nthTo code x))).length) ∧
 Fits IntKind.i64 ((↑x : Int) + (1 : Int)) ∧
 ∃ (x' : Nat),
 x' ≤ n.toNat ∧
 n.toNat - x' < n.toNat - x ∧
 (True ∧ True) ∧
 (↑x : Int) + (1 : Int) = (↑x' : Int) ∧
 List.drop (↑(0 : Nat) : Int).toNat
 (List.take (code.getD (↑x : Int).toNat (0 : Int) % ((↑x : Int) + (1 : Int))).toNat (nthTo code x)) ++
 [(↑x : Int)] ++
 List.drop (code.getD (↑x : Int).toNat (0 : Int) % ((↑x : Int) + (1 : Int))).toNat
 (List.take (↑(nthTo code x).length : Int).toNat (nthTo code x)) =
 nthTo code x' ∧
 n = n ∧ code = code ∧ True) ∧
 Small
 ((0 : Nat) +
 (List.drop (↑(0 : Nat) : Int).toNat
 (List.take (code.getD (↑x : Int).toNat (0 : Int) % ((↑x : Int) + (1 : Int))).toNat (nthTo code x))).length) ∧
 Small
 ((List.drop (↑(0 : Nat) : Int).toNat
 (List.take (code.getD (↑x : Int).toNat (0 : Int) % ((↑x : Int) + (1 : Int))).toNat (nthTo code x))).length +
 ((0 : Nat) + (1 : Nat))) ∧
 Small
 ((List.drop (↑(0 : Nat) : Int).toNat
 (List.take (code.getD (↑x : Int).toNat (0 : Int) % ((↑x : Int) + (1 : Int))).toNat (nthTo code x)) ++
 [(↑x : Int)]).length +
 (List.drop (code.getD (↑x : Int).toNat (0 : Int) % ((↑x : Int) + (1 : Int))).toNat
 (List.take (↑(nthTo code x).length : Int).toNat (nthTo code x))).length) ∧
 Fits IntKind.i64 ((↑x : Int) + (1 : Int)) ∧
 ∃ (x' : Nat),
 x' ≤ n.toNat ∧
 n.toNat - x' < n.toNat - x ∧
 (True ∧ True) ∧
 (↑x : Int) + (1 : Int) = (↑x' : Int) ∧
 List.drop (↑(0 : Nat) : Int).toNat
 (List.take (code.getD (↑x : Int).toNat (0 : Int) % ((↑x : Int) + (1 : Int))).toNat (nthTo code x)) ++
 [(↑x : Int)] ++
 List.drop (code.getD (↑x : Int).toNat (0 : Int) % ((↑x : Int) + (1 : Int))).toNat
 (List.take (↑(nthTo code x).length : Int).toNat (nthTo code x)) =
 nthTo code x' ∧
 n = n ∧ code = code ∧ True) ∧
 Small
 ((0 : Nat) +
 (List.drop (↑(0 : Nat) : Int).toNat
 (List.take (code.getD (↑x : Int).toNat (0 : Int) % ((↑x : Int) + (1 : Int))).toNat (nthTo code x))).length) ∧
 Small
 ((List.drop (↑(0 : Nat) : Int).toNat
 (List.take (code.getD (↑x : Int).toNat (0 : Int) % ((↑x : Int) + (1 : Int))).toNat (nthTo code x))).length +
 ((0 : Nat) + (1 : Nat))) ∧
 Small
 ((List.drop (↑(0 : Nat) : Int).toNat
 (List.take (code.getD (↑x : Int).toNat (0 : Int) % ((↑x : Int) + (1 : Int))).toNat (nthTo code x)) ++
 [(↑x : Int)]).length +
 (List.drop (code.getD (↑x : Int).toNat (0 : Int) % ((↑x : Int) + (1 : Int))).toNat
 (List.take (↑(nthTo code x).length : Int).toNat (nthTo code x))).length) ∧
 Fits IntKind.i64 ((↑x : Int) + (1 : Int)) ∧
 ∃ (x' : Nat),
 x' ≤ n.toNat ∧
 n.toNat - x' < n.toNat - x ∧
 (True ∧ True) ∧
 (↑x : Int) + (1 : Int) = (↑x' : Int) ∧
 List.drop (↑(0 : Nat) : Int).toNat
 (List.take (code.getD (↑x : Int).toNat (0 : Int) % ((↑x : Int) + (1 : Int))).toNat (nthTo code x)) ++
 [(↑x : Int)] ++
 List.drop (code.getD (↑x : Int).toNat (0 : Int) % ((↑x : Int) + (1 : Int))).toNat
 (List.take (↑(nthTo code x).length : Int).toNat (nthTo code x)) =
 nthTo code x' ∧
 n = n ∧ code = code ∧ True) ∧
 (¬(↑x : Int) < (↑code.length : Int) →
 ¬(↑x : Int) < (↑code.length : Int) ∧
 ((0 : Int) ≤ (↑(0 : Nat) : Int) ∧ (↑(0 : Nat) : Int) ≤ (0 : Int) ∧ (0 : Int) ≤ (↑(nthTo code x).length : Int)) ∧
 True ∧
 ((0 : Int) ≤ (0 : Int) ∧ (0 : Int) ≤ (↑(nthTo code x).length : Int) ∧ (↑(nthTo code x).length : Int) ≤ (↑(nthTo code x).length : Int)) ∧
 True ∧
 ((Small ((0 : Nat) + (List.drop (↑(0 : Nat) : Int).toNat (List.take (Int.toNat (0 : Int)) (nthTo code x))).length) ∧
 Small ((List.drop (↑(0 : Nat) : Int).toNat (List.take (Int.toNat (0 : Int)) (nthTo code x))).length + ((0 : Nat) + (1 : Nat))) ∧
 Small
 ((List.drop (↑(0 : Nat) : Int).toNat (List.take (Int.toNat (0 : Int)) (nthTo code x)) ++ [(↑x : Int)]).length +
 (List.drop (Int.toNat (0 : Int)) (List.take (↑(nthTo code x).length : Int).toNat (nthTo code x))).length) ∧
 Fits IntKind.i64 ((↑x : Int) + (1 : Int)) ∧
 ∃ (x' : Nat),
 x' ≤ n.toNat ∧
 n.toNat - x' < n.toNat - x ∧
 (True ∧ True) ∧
 (↑x : Int) + (1 : Int) = (↑x' : Int) ∧
 List.drop (↑(0 : Nat) : Int).toNat (List.take (Int.toNat (0 : Int)) (nthTo code x)) ++ [(↑x : Int)] ++
 List.drop (Int.toNat (0 : Int)) (List.take (↑(nthTo code x).length : Int).toNat (nthTo code x)) =
 nthTo code x' ∧
 n = n ∧ code = code ∧ True) ∧
 Small ((0 : Nat) + (List.drop (↑(0 : Nat) : Int).toNat (List.take (Int.toNat (0 : Int)) (nthTo code x))).length) ∧
 Small ((List.drop (↑(0 : Nat) : Int).toNat (List.take (Int.toNat (0 : Int)) (nthTo code x))).length + ((0 : Nat) + (1 : Nat))) ∧
 Small
 ((List.drop (↑(0 : Nat) : Int).toNat (List.take (Int.toNat (0 : Int)) (nthTo code x)) ++ [(↑x : Int)]).length +
 (List.drop (Int.toNat (0 : Int)) (List.take (↑(nthTo code x).length : Int).toNat (nthTo code x))).length) ∧
 Fits IntKind.i64 ((↑x : Int) + (1 : Int)) ∧
 ∃ (x' : Nat),
 x' ≤ n.toNat ∧
 n.toNat - x' < n.toNat - x ∧
 (True ∧ True) ∧
 (↑x : Int) + (1 : Int) = (↑x' : Int) ∧
 List.drop (↑(0 : Nat) : Int).toNat (List.take (Int.toNat (0 : Int)) (nthTo code x)) ++ [(↑x : Int)] ++
 List.drop (Int.toNat (0 : Int)) (List.take (↑(nthTo code x).length : Int).toNat (nthTo code x)) =
 nthTo code x' ∧
 n = n ∧ code = code ∧ True) ∧
 Small ((0 : Nat) + (List.drop (↑(0 : Nat) : Int).toNat (List.take (Int.toNat (0 : Int)) (nthTo code x))).length) ∧
 Small ((List.drop (↑(0 : Nat) : Int).toNat (List.take (Int.toNat (0 : Int)) (nthTo code x))).length + ((0 : Nat) + (1 : Nat))) ∧
 Small
 ((List.drop (↑(0 : Nat) : Int).toNat (List.take (Int.toNat (0 : Int)) (nthTo code x)) ++ [(↑x : Int)]).length +
 (List.drop (Int.toNat (0 : Int)) (List.take (↑(nthTo code x).length : Int).toNat (nthTo code x))).length) ∧
 Fits IntKind.i64 ((↑x : Int) + (1 : Int)) ∧
 ∃ (x' : Nat),
 x' ≤ n.toNat ∧
 n.toNat - x' < n.toNat - x ∧
 (True ∧ True) ∧
 (↑x : Int) + (1 : Int) = (↑x' : Int) ∧
 List.drop (↑(0 : Nat) : Int).toNat (List.take (Int.toNat (0 : Int)) (nthTo code x)) ++ [(↑x : Int)] ++
 List.drop (Int.toNat (0 : Int)) (List.take (↑(nthTo code x).length : Int).toNat (nthTo code x)) =
 nthTo code x' ∧
 n = n ∧ code = code ∧ True)) ∧
 (¬(↑x : Int) < n → ¬(↑x : Int) < n ∧ nthTo code x = nthTo code n.toNat)) := by
 kernel_rfl

end Go.SX.Pa

/- Chapter 06, part 12: permutations by number: the contract. -/
namespace Go.SX.Pa
open Go Go.Proofs

theorem nthAt_le (code : List Int) (i : Nat) : nthAt code i ≤ i := by
  unfold nthAt
  split
  · have : (code.getD i 0).toNat % (i + 1) < i + 1 := Nat.mod_lt _ (Nat.succ_pos i); omega
  · omega
theorem nthTo_succ (code : List Int) (i : Nat) : nthTo code (i + 1) = (nthTo code i).take (nthAt code i) ++ [(i : Int)] ++ (nthTo code i).drop (nthAt code i) := rfl
theorem nthTo_length (code : List Int) : (i : Nat) → (nthTo code i).length = i
  | 0 => rfl
  | i + 1 => by
    have := nthTo_length code i
    have h2 := nthAt_le code i
    simp [nthTo, this]; omega
theorem nthTo_mem (code : List Int) : (i : Nat) → ∀ x, x ∈ nthTo code i ↔ 0 ≤ x ∧ x < i
  | 0, x => by simp [nthTo] <;> omega
  | i + 1, x => by
    have ih := nthTo_mem code i x
    have : x ∈ nthTo code (i + 1) ↔ x ∈ nthTo code i ∨ x = i := by
      rw [show x ∈ nthTo code i ↔ x ∈ (nthTo code i).take (nthAt code i) ++ (nthTo code i).drop (nthAt code i) by rw [List.take_append_drop]]
      simp only [nthTo, List.mem_append, List.mem_singleton]
      constructor
      · rintro ((h | h) | h)
        · exact .inl (.inl h)
        · exact .inr h
        · exact .inl (.inr h)
      · rintro ((h | h) | h)
        · exact .inl (.inl h)
        · exact .inr h
        · exact .inl (.inr h)
    rw [this, ih]; omega
theorem nthTo_nodup (code : List Int) : (i : Nat) → (nthTo code i).Nodup
  | 0 => by simp [nthTo]
  | i + 1 => by
    have ih := nthTo_nodup code i
    have hi : (i : Int) ∉ nthTo code i := fun h => by have := (nthTo_mem code i i).1 h; omega
    rw [← List.take_append_drop (nthAt code i) (nthTo code i)] at ih hi
    unfold nthTo
    generalize (nthTo code i).take (nthAt code i) = a at ih hi ⊢
    generalize (nthTo code i).drop (nthAt code i) = b at ih hi ⊢
    rw [List.mem_append] at hi
    rw [List.nodup_append] at ih
    obtain ⟨h1, h2, h3⟩ := ih
    rw [List.append_assoc, List.nodup_append]
    refine ⟨h1, ?_, fun x hx y hy => ?_⟩
    · rw [List.singleton_append, List.nodup_cons]
      exact ⟨fun h => hi (.inr h), h2⟩
    · rw [List.singleton_append, List.mem_cons] at hy
      rcases hy with rfl | hy
      · rintro rfl; exact hi (.inl hx)
      · exact h3 x hx y hy
theorem nth_perm (code : List Int) (n : Nat) : PermP (nthTo code n) n := ⟨by rw [nthTo_length], fun x hx => (nthTo_mem code n x).1 hx, nthTo_nodup code n⟩

theorem ok31 : p31.OK Tryd.prog := p31.ok C31 (fun _ => cx0) (fn := Tryd.f31) rfl (by decide +kernel) rfl fun (p : Int × List Int) hp => by
  obtain ⟨n, code⟩ := p
  refine (g31_eq n code).mpr ?_
  have hp : (0 ≤ n ∧ n ≤ 100) ∧ code.length ≤ maxLen ∧ ∀ b ∈ code, 0 ≤ b ∧ b ≤ 255 := hp
  obtain ⟨hn, _, hb⟩ := hp
  simp only [pp1, eq_self, and_true, true_and, and_self, Int.toNat_natCast, List.drop_zero]
  refine ⟨⟨0, by omega, rfl, rfl⟩, fun x hx => ⟨fun h1 => ⟨fun h2 => ?_, fun h2 => ?_⟩, fun h1 => ?_⟩⟩
  · have hl := nthTo_length code x
    have hx' : x < code.length := by omega
    have hbx := hb _ (getD_mem code 0 hx')
    have hm0 : 0 ≤ code.getD x 0 % ((x : Int) + 1) := Int.emod_nonneg _ (by omega)
    have hm1 : code.getD x 0 % ((x : Int) + 1) < (x : Int) + 1 := Int.emod_lt_of_pos _ (by omega)
    have hat : nthAt code x = (code.getD x 0 % ((x : Int) + 1)).toNat := by
      unfold nthAt; rw [if_pos hx']
      obtain ⟨m, hm⟩ : ∃ m : Nat, code.getD x 0 = (m : Int) := ⟨_, (Int.toNat_of_nonneg hbx.1).symm⟩
      rw [hm, Int.toNat_natCast, show ((x : Int) + 1) = ((x + 1 : Nat) : Int) by omega, ← Int.natCast_emod, Int.toNat_natCast]
    refine ⟨by omega, fits_i64 (by omega) (by omega), fits_i64 (by omega) (by omega), by omega, by omega, by omega, ?_, ?_, ?_, fits_i64 (by omega) (by omega), x + 1, by omega, by omega, by omega, ?_⟩
    · unfold Small; simp; omega
    · unfold Small; simp; omega
    · unfold Small; simp; omega
    · rw [nthTo_succ, hat, List.take_length]
  · have hl := nthTo_length code x
    have hat : nthAt code x = 0 := by unfold nthAt; rw [if_neg (by omega)]
    refine ⟨by omega, by omega, ?_, ?_, ?_, fits_i64 (by omega) (by omega), x + 1, by omega, by omega, by omega, ?_⟩
    · unfold Small; simp
    · unfold Small; simp
    · unfold Small; simp; omega
    · rw [nthTo_succ, hat, List.take_length]
      rfl
  · rw [show n.toNat = x by omega]
end Go.SX.Pa

/- Chapter 06 in plain words, part C: the reference's colourings. -/
namespace Go.SX.Pa
def properF (es : List Ed) (l : List Int) : Bool := (List.range l.length).all fun i => !clashF es l i
/-- The reference's search: f more edges. -/
def refG (es : List Ed) (m : Nat) : Nat → List Int → Option (List Int)
  | 0, l => if properF es l = true then some l else none
  | f + 1, l => if properF es l = true then (List.range m).findSome? fun c : Nat => refG es m f (l ++ [(c : Int)]) else none
def refC (es : List Ed) (m : Int) (l : List Int) : Option (List Int) := refG es m.toNat (es.length - l.length) l
def noRef (es : List Ed) (m : Int) (l : List Int) (k : Nat) : Prop := ∀ c : Nat, c < k → refC es m (l ++ [(c : Int)]) = none
def cntA (es : List Ed) (v : Nat) : Int := (es.countP fun e => decide (e.1 = (v : Int)) : Nat)
def cntB (es : List Ed) (v : Nat) : Int := (es.countP fun e => decide (e.2 = (v : Int)) : Nat)
def degR (es : List Ed) : Nat → Int
  | 0 => 0
  | v + 1 => max (max (degR es v) (cntA es v)) (cntB es v)
def graphF (a c : Int) (es : List Ed) : Int := if 12 < es.length then 3 else if ¬ (1 ≤ a ∧ a ≤ 6) ∨ ¬ (1 ≤ c ∧ c ≤ 6) ∨ es.any (badEd a c) = true then 1 else 0
end Go.SX.Pa

/- Chapter 06, part 10: the reference's colourings. -/
namespace Go.SX.Pa
open Go Go.Proofs
noncomputable section
@[reducible] def p35 : PC := ⟨35, [aEds, aIs], [aB], fun p => p.1.length ≤ 1000 ∧ p.2.length ≤ p.1.length, fun p => properF p.1 p.2⟩
@[reducible] def C35 (p : List Ed × List Int) : Ctx := cx [] [(0, fun _ => upTo p.2.length 5 [0, 1] fun i => ∀ a, a < i → clashF p.1 p.2 a = false), (1, withI 5 fun i => upTo i.toNat 6 [0, 1, 5] fun j => ∀ b, b < j → touch p.1 p.2 i.toNat b = false)]
def g35 (es : List Ed) (l : List Int) : Prop := p35.VC (C35 (es, l)) Tryd.f35 (es, l)
@[reducible] def p30 : PC := ⟨30, [aEds], [aI], fun es => es.length ≤ 1000, fun es => degR es 6⟩
@[reducible] def C30 (es : List Ed) : Ctx := cx [] [(0, fun _ => upToS 6 4 [0] (fun _ => True) fun v => [(3, .c (.int .i64 (degR es v)))]),
  (1, withI 4 fun v => upToS es.length 7 [0, 3, 4] (fun _ => True) fun j => [(5, .c (.int .i64 (cntA (es.take j) v.toNat))), (6, .c (.int .i64 (cntB (es.take j) v.toNat)))])]
def g30 (es : List Ed) : Prop := p30.VC (C30 es) Tryd.f30 es
@[reducible] def p27 : PC := ⟨27, [aI, aI, aEds], [aI], fun p => p.2.2.length ≤ 1000, fun p => graphF p.1 p.2.1 p.2.2⟩
@[reducible] def C27 (p : Int × Int × List Ed) : Ctx := cx [p21.ci] [(0, fun _ => upTo p.2.2.length 7 [0, 1, 2] fun k => (p.2.2.take k).any (badEd p.1 p.2.1) = false)]
def g27 (a c : Int) (es : List Ed) : Prop := p27.VC (C27 (a, c, es)) Tryd.f27 (a, c, es)
@[reducible] def n29 : NC := ⟨29, [aEds, aI, aIs], .int .i64, fun p => (p.1.length ≤ 1000 ∧ p.2.2.length ≤ p.1.length) ∧ 0 ≤ p.2.1 ∧ p.2.1 ≤ 1000, fun p => refC p.1 p.2.1 p.2.2⟩
@[reducible] def m29 (p : List Ed × Int × List Int) : Nat := p.1.length - p.2.2.length
@[reducible] def C29 (p : List Ed × Int × List Int) : Ctx := cx [p35.ci, (n29.below m29 (m29 p)).ci] [(0, fun _ => { τ := Nat, pre := [], preC := [], keep := [0, 1, 2], slots := fun k => [(7, .c (.int .i64 k))], ents := fun _ => [], ok := fun k => (k : Int) ≤ p.2.1 ∧ noRef p.1 p.2.1 p.2.2 k, m := fun k => p.2.1.toNat - k })]
def g29 (es : List Ed) (m : Int) (l : List Int) : Prop := NilVC (C29 (es, m, l)) Tryd.f29 n29 (es, m, l)
end
end Go.SX.Pa

/- Printed by VC.lean: what the executor asks. -/
namespace Go.SX.Pa
open Go Go.Proofs
theorem g35_eq (es : List Ed) (l : List Int) : g35 es l = (
 (∃ (x0 : Nat), (x0 ≤ l.length ∧ ∀ (a : Nat), a < x0 → clashF es l a = false) ∧ True ∧ (0 : Int) = (↑x0 : Int) ∧ es = es ∧ l = l ∧ True) ∧
 ∀ (x : Nat),
 (x ≤ l.length ∧ ∀ (a : Nat), a < x → clashF es l a = false) →
 ((↑x : Int) < (↑l.length : Int) →
 (↑x : Int) < (↑l.length : Int) ∧
 (∃ (x0 : Nat),
 (x0 ≤ (↑x : Int).toNat ∧ ∀ (b : Nat), b < x0 → touch es l (↑x : Int).toNat b = false) ∧
 True ∧ (0 : Int) = (↑x0 : Int) ∧ (↑x : Int) = (↑x : Int) ∧ es = es ∧ l = l ∧ True) ∧
 ∀ (x_1 : Nat),
 (x_1 ≤ (↑x : Int).toNat ∧ ∀ (b : Nat), b < x_1 → touch es l (↑x : Int).toNat b = false) →
 ((↑x_1 : Int) < (↑x : Int) →
 (↑x_1 : Int) < (↑x : Int) ∧
 ((0 : Int) ≤ (↑x : Int) ∧ (↑x : Int) < (↑l.length : Int)) ∧
 ((0 : Int) ≤ (↑x_1 : Int) ∧ (↑x_1 : Int) < (↑l.length : Int)) ∧
 (l.getD (↑x : Int).toNat (0 : Int) = l.getD (↑x_1 : Int).toNat (0 : Int) →
 l.getD (↑x : Int).toNat (0 : Int) = l.getD (↑x_1 : Int).toNat (0 : Int) ∧
 l.getD (↑x : Int).toNat (0 : Int) = l.getD (↑x_1 : Int).toNat (0 : Int) ∧
 ((0 : Int) ≤ (↑x : Int) ∧ (↑x : Int) < (↑es.length : Int)) ∧
 ((0 : Int) ≤ (↑x_1 : Int) ∧ (↑x_1 : Int) < (↑es.length : Int)) ∧
 ((es.getD (↑x : Int).toNat ((0 : Int), (0 : Int))).fst = (es.getD (↑x_1 : Int).toNat ((0 : Int), (0 : Int))).fst →
 (es.getD (↑x : Int).toNat ((0 : Int), (0 : Int))).fst = (es.getD (↑x_1 : Int).toNat ((0 : Int), (0 : Int))).fst ∧
 (es.getD (↑x : Int).toNat ((0 : Int), (0 : Int))).fst = (es.getD (↑x_1 : Int).toNat ((0 : Int), (0 : Int))).fst ∧
 false = properF es l) ∧
 (¬(es.getD (↑x : Int).toNat ((0 : Int), (0 : Int))).fst = (es.getD (↑x_1 : Int).toNat ((0 : Int), (0 : Int))).fst →
 ¬(es.getD (↑x : Int).toNat ((0 : Int), (0 : Int))).fst = (es.getD (↑x_1 : Int).toNat ((0 : Int), (0 : Int))).fst ∧
 ¬(es.getD (↑x : Int).toNat ((0 : Int), (0 : Int))).fst = (es.getD (↑x_1 : Int).toNat ((0 : Int), (0 : Int))).fst ∧
 ((0 : Int) ≤ (↑x : Int) ∧ (↑x : Int) < (↑es.length : Int)) ∧
 ((0 : Int) ≤ (↑x_1 : Int) ∧ (↑x_1 : Int) < (↑es.length : Int)) ∧
 ((es.getD (↑x : Int).toNat ((0 : Int), (0 : Int))).snd = (es.getD (↑x_1 : Int).toNat ((0 : Int), (0 : Int))).snd →
 (es.getD (↑x : Int).toNat ((0 : Int), (0 : Int))).snd = (es.getD (↑x_1 : Int).toNat ((0 : Int), (0 : Int))).snd ∧
 (es.getD (↑x : Int).toNat ((0 : Int), (0 : Int))).snd = (es.getD (↑x_1 : Int).toNat ((0 : Int), (0 : Int))).snd ∧
 (es.getD (↑x : Int).toNat ((0 : Int), (0 : Int))).snd = (es.getD (↑x_1 : Int).toNat ((0 : Int), (0 : Int))).snd ∧
 false = properF es l) ∧
 (¬(es.getD (↑x : Int).toNat ((0 : Int), (0 : Int))).snd = (es.getD (↑x_1 : Int).toNat ((0 : Int), (0 : Int))).snd →
 ¬(es.getD (↑x : Int).toNat ((0 : Int), (0 : Int))).snd = (es.getD (↑x_1 : Int).toNat ((0 : Int), (0 : Int))).snd ∧
 ¬(es.getD (↑x : Int).toNat ((0 : Int), (0 : Int))).snd = (es.getD (↑x_1 : Int).toNat ((0 : Int), (0 : Int))).snd ∧
 ¬(es.getD (↑x : Int).toNat ((0 : Int), (0 : Int))).snd = (es.getD (↑x_1 : Int).toNat ((0 : Int), (0 : Int))).snd ∧
 Fits IntKind.i64 ((↑x_1 : Int) + (1 : Int)) ∧
 ∃ (x' : Nat),
 (x' ≤ (↑x : Int).toNat ∧ ∀ (b : Nat), b < x' → touch es l (↑x : Int).toNat b = false) ∧
 (↑x : Int).toNat - x' < (↑x : Int).toNat - x_1 ∧
 True ∧ (↑x_1 : Int) + (1 : Int) = (↑x' : Int) ∧ (↑x : Int) = (↑x : Int) ∧ es = es ∧ l = l ∧ True))) ∧
 (¬l.getD (↑x : Int).toNat (0 : Int) = l.getD (↑x_1 : Int).toNat (0 : Int) →
 ¬l.getD (↑x : Int).toNat (0 : Int) = l.getD (↑x_1 : Int).toNat (0 : Int) ∧
 ¬l.getD (↑x : Int).toNat (0 : Int) = l.getD (↑x_1 : Int).toNat (0 : Int) ∧
 Fits IntKind.i64 ((↑x_1 : Int) + (1 : Int)) ∧
 ∃ (x' : Nat),
 (x' ≤ (↑x : Int).toNat ∧ ∀ (b : Nat), b < x' → touch es l (↑x : Int).toNat b = false) ∧
 (↑x : Int).toNat - x' < (↑x : Int).toNat - x_1 ∧
 True ∧ (↑x_1 : Int) + (1 : Int) = (↑x' : Int) ∧ (↑x : Int) = (↑x : Int) ∧ es = es ∧ l = l ∧ True)) ∧
 (¬(↑x_1 : Int) < (↑x : Int) →
 ¬(↑x_1 : Int) < (↑x : Int) ∧
 Fits IntKind.i64 ((↑x : Int) + (1 : Int)) ∧
 ∃ (x' : Nat),
 (x' ≤ l.length ∧ ∀ (a : Nat), a < x' → clashF es l a = false) ∧
 l.length - x' < l.length - x ∧ True ∧ (↑x : Int) + (1 : Int) = (↑x' : Int) ∧ es = es ∧ l = l ∧ True)) ∧
 (¬(↑x : Int) < (↑l.length : Int) → ¬(↑x : Int) < (↑l.length : Int) ∧ true = properF es l)) := by
 kernel_rfl

theorem g30_eq (es : List Ed) : g30 es = (
 (∃ (x0 : Nat), (x0 ≤ (6 : Nat) ∧ True) ∧ True ∧ (0 : Int) = (↑x0 : Int) ∧ (0 : Int) = degR es x0 ∧ es = es ∧ True) ∧
 ∀ (x : Nat),
 x ≤ (6 : Nat) ∧ True →
 ((↑x : Int) < (6 : Int) →
 (↑x : Int) < (6 : Int) ∧
 (∃ (x0 : Nat),
 (x0 ≤ es.length ∧ True) ∧
 True ∧
 (0 : Int) = (↑x0 : Int) ∧
 (0 : Int) = cntA (List.take x0 es) (↑x : Int).toNat ∧
 (0 : Int) = cntB (List.take x0 es) (↑x : Int).toNat ∧ (↑x : Int) = (↑x : Int) ∧ degR es x = degR es x ∧ es = es ∧ True) ∧
 ∀ (x_1 : Nat),
 x_1 ≤ es.length ∧ True →
 ((↑x_1 : Int) < (↑es.length : Int) →
 (↑x_1 : Int) < (↑es.length : Int) ∧
 ((0 : Int) ≤ (↑x_1 : Int) ∧ (↑x_1 : Int) < (↑es.length : Int)) ∧
 ((es.getD (↑x_1 : Int).toNat ((0 : Int), (0 : Int))).fst = (↑x : Int) →
 (es.getD (↑x_1 : Int).toNat ((0 : Int), (0 : Int))).fst = (↑x : Int) ∧
 Fits IntKind.i64 (cntA (List.take x_1 es) (↑x : Int).toNat + (1 : Int)) ∧
 ((0 : Int) ≤ (↑x_1 : Int) ∧ (↑x_1 : Int) < (↑es.length : Int)) ∧
 ((es.getD (↑x_1 : Int).toNat ((0 : Int), (0 : Int))).snd = (↑x : Int) →
 (es.getD (↑x_1 : Int).toNat ((0 : Int), (0 : Int))).snd = (↑x : Int) ∧
 Fits IntKind.i64 (cntB (List.take x_1 es) (↑x : Int).toNat + (1 : Int)) ∧
 Fits IntKind.i64 ((↑x_1 : Int) + (1 : Int)) ∧
 ∃ (x' : Nat),
 (x' ≤ es.length ∧ True) ∧
 es.length - x' < es.length - x_1 ∧
 True ∧
 (↑x_1 : Int) + (1 : Int) = (↑x' : Int) ∧
 cntA (List.take x_1 es) (↑x : Int).toNat + (1 : Int) = cntA (List.take x' es) (↑x : Int).toNat ∧
 cntB (List.take x_1 es) (↑x : Int).toNat + (1 : Int) = cntB (List.take x' es) (↑x : Int).toNat ∧
 (↑x : Int) = (↑x : Int) ∧ degR es x = degR es x ∧ es = es ∧ True) ∧
 (¬(es.getD (↑x_1 : Int).toNat ((0 : Int), (0 : Int))).snd = (↑x : Int) →
 ¬(es.getD (↑x_1 : Int).toNat ((0 : Int), (0 : Int))).snd = (↑x : Int) ∧
 Fits IntKind.i64 ((↑x_1 : Int) + (1 : Int)) ∧
 ∃ (x' : Nat),
 (x' ≤ es.length ∧ True) ∧
 es.length - x' < es.length - x_1 ∧
 True ∧
 (↑x_1 : Int) + (1 : Int) = (↑x' : Int) ∧
 cntA (List.take x_1 es) (↑x : Int).toNat + (1 : Int) = cntA (List.take x' es) (↑x : Int).toNat ∧
 cntB (List.take x_1 es) (↑x : Int).toNat = cntB (List.take x' es) (↑x : Int).toNat ∧
 (↑x : Int) = (↑x : Int) ∧ degR es x = degR es x ∧ es = es ∧ True)) ∧
 (¬(es.getD (↑x_1 : Int).toNat ((0 : Int), (0 : Int))).fst = (↑x : Int) →
 ¬(es.getD (↑x_1 : Int).toNat ((0 : Int), (0 : Int))).fst = (↑x : Int) ∧
 ((0 : Int) ≤ (↑x_1 : Int) ∧ (↑x_1 : Int) < (↑es.length : Int)) ∧
 ((es.getD (↑x_1 : Int).toNat ((0 : Int), (0 : Int))).snd = (↑x : Int) →
 (es.getD (↑x_1 : Int).toNat ((0 : Int), (0 : Int))).snd = (↑x : Int) ∧
 Fits IntKind.i64 (cntB (List.take x_1 es) (↑x : Int).toNat + (1 : Int)) ∧
 Fits IntKind.i64 ((↑x_1 : Int) + (1 : Int)) ∧
 ∃ (x' : Nat),
 (x' ≤ es.length ∧ True) ∧
 es.length - x' < es.length - x_1 ∧
 True ∧
 (↑x_1 : Int) + (1 : Int) = (↑x' : Int) ∧
 cntA (List.take x_1 es) (↑x : Int).toNat = cntA (List.take x' es) (↑x : Int).toNat ∧
 cntB (List.take x_1 es) (↑x : Int).toNat + (1 : Int) = cntB (List.take x' es) (↑x : Int).toNat ∧
 (↑x : Int) = (↑x : Int) ∧ degR es x = degR es x ∧ es = es ∧ True) ∧
 (¬(es.getD (↑x_1 : Int).toNat ((0 : Int), (0 : Int))).snd = (↑x : Int) →
 ¬(es.getD (↑x_1 : Int).toNat ((0 : Int), (0 : Int))).snd = (↑x : Int) ∧
 Fits IntKind.i64 ((↑x_1 : Int) + (1 : Int)) ∧
 ∃ (x' : Nat),
 (x' ≤ es.length ∧ True) ∧
 es.length - x' < es.length - x_1 ∧
 True ∧
 (↑x_1 : Int) + (1 : Int) = (↑x' : Int) ∧
 cntA (List.take x_1 es) (↑x : Int).toNat = cntA (List.take x' es) (↑x : Int).toNat ∧
 cntB (List.take x_1 es) (↑x : Int).toNat = cntB (List.take x' es) (↑x : Int).toNat ∧
 (↑x : Int) = (↑x : Int) ∧ degR es x = degR es x ∧ es = es ∧ True))) ∧
 (¬(↑x_1 : Int) < (↑es.length : Int) →
 ¬(↑x_1 : Int) < (↑es.length : Int) ∧
 Fits IntKind.i64 ((↑x : Int) + (1 : Int)) ∧
 ∃ (x' : Nat),
 (x' ≤ (6 : Nat) ∧ True) ∧
 (6 : Nat) - x' < (6 : Nat) - x ∧
 True ∧
 (↑x : Int) + (1 : Int) = (↑x' : Int) ∧
 max (max (degR es x) (cntA (List.take x_1 es) (↑x : Int).toNat)) (cntB (List.take x_1 es) (↑x : Int).toNat) = degR es x' ∧ es = es ∧ True)) ∧
 (¬(↑x : Int) < (6 : Int) → ¬(↑x : Int) < (6 : Int) ∧ degR es x = degR es (6 : Nat))) := by
 kernel_rfl

theorem g27_eq (a : Int) (c : Int) (es : List Ed) : g27 a c es = (
 ((12 : Int) < (↑es.length : Int) → (12 : Int) < (↑es.length : Int) ∧ (3 : Int) = graphF a c es) ∧
 (¬(12 : Int) < (↑es.length : Int) →
 ¬(12 : Int) < (↑es.length : Int) ∧
 True ∧
 ((!decide ((1 : Int) ≤ a ∧ a ≤ (6 : Int))) = true →
 (!decide ((1 : Int) ≤ a ∧ a ≤ (6 : Int))) = true ∧ (!decide ((1 : Int) ≤ a ∧ a ≤ (6 : Int))) = true ∧ (1 : Int) = graphF a c es) ∧
 ((!decide ((1 : Int) ≤ a ∧ a ≤ (6 : Int))) = false →
 (!decide ((1 : Int) ≤ a ∧ a ≤ (6 : Int))) = false ∧
 (!decide ((1 : Int) ≤ a ∧ a ≤ (6 : Int))) = false ∧
 True ∧
 ((!decide ((1 : Int) ≤ c ∧ c ≤ (6 : Int))) = true →
 (!decide ((1 : Int) ≤ c ∧ c ≤ (6 : Int))) = true ∧ (!decide ((1 : Int) ≤ c ∧ c ≤ (6 : Int))) = true ∧ (1 : Int) = graphF a c es) ∧
 ((!decide ((1 : Int) ≤ c ∧ c ≤ (6 : Int))) = false →
 (!decide ((1 : Int) ≤ c ∧ c ≤ (6 : Int))) = false ∧
 (!decide ((1 : Int) ≤ c ∧ c ≤ (6 : Int))) = false ∧
 (∃ (x0 : Nat), (x0 ≤ es.length ∧ (List.take x0 es).any (badEd a c) = false) ∧ True ∧ (0 : Int) = (↑x0 : Int) ∧ a = a ∧ c = c ∧ es = es ∧ True) ∧
 ∀ (x : Nat),
 x ≤ es.length ∧ (List.take x es).any (badEd a c) = false →
 ((↑x : Int) < (↑es.length : Int) →
 (↑x : Int) < (↑es.length : Int) ∧
 ((0 : Int) ≤ (↑x : Int) ∧ (↑x : Int) < (↑es.length : Int)) ∧
 Fits IntKind.i64 (a - (1 : Int)) ∧
 True ∧
 ((!decide
 ((0 : Int) ≤ (es.getD (↑x : Int).toNat ((0 : Int), (0 : Int))).fst ∧
 (es.getD (↑x : Int).toNat ((0 : Int), (0 : Int))).fst ≤ a - (1 : Int))) =
 true →
 (!decide
 ((0 : Int) ≤ (es.getD (↑x : Int).toNat ((0 : Int), (0 : Int))).fst ∧
 (es.getD (↑x : Int).toNat ((0 : Int), (0 : Int))).fst ≤ a - (1 : Int))) =
 true ∧
 (!decide
 ((0 : Int) ≤ (es.getD (↑x : Int).toNat ((0 : Int), (0 : Int))).fst ∧
 (es.getD (↑x : Int).toNat ((0 : Int), (0 : Int))).fst ≤ a - (1 : Int))) =
 true ∧
 (1 : Int) = graphF a c es) ∧
 ((!decide
 ((0 : Int) ≤ (es.getD (↑x : Int).toNat ((0 : Int), (0 : Int))).fst ∧
 (es.getD (↑x : Int).toNat ((0 : Int), (0 : Int))).fst ≤ a - (1 : Int))) =
 false →
 (!decide
 ((0 : Int) ≤ (es.getD (↑x : Int).toNat ((0 : Int), (0 : Int))).fst ∧
 (es.getD (↑x : Int).toNat ((0 : Int), (0 : Int))).fst ≤ a - (1 : Int))) =
 false ∧
 (!decide
 ((0 : Int) ≤ (es.getD (↑x : Int).toNat ((0 : Int), (0 : Int))).fst ∧
 (es.getD (↑x : Int).toNat ((0 : Int), (0 : Int))).fst ≤ a - (1 : Int))) =
 false ∧
 ((0 : Int) ≤ (↑x : Int) ∧ (↑x : Int) < (↑es.length : Int)) ∧
 Fits IntKind.i64 (c - (1 : Int)) ∧
 True ∧
 ((!decide
 ((0 : Int) ≤ (es.getD (↑x : Int).toNat ((0 : Int), (0 : Int))).snd ∧
 (es.getD (↑x : Int).toNat ((0 : Int), (0 : Int))).snd ≤ c - (1 : Int))) =
 true →
 (!decide
 ((0 : Int) ≤ (es.getD (↑x : Int).toNat ((0 : Int), (0 : Int))).snd ∧
 (es.getD (↑x : Int).toNat ((0 : Int), (0 : Int))).snd ≤ c - (1 : Int))) =
 true ∧
 (!decide
 ((0 : Int) ≤ (es.getD (↑x : Int).toNat ((0 : Int), (0 : Int))).snd ∧
 (es.getD (↑x : Int).toNat ((0 : Int), (0 : Int))).snd ≤ c - (1 : Int))) =
 true ∧
 (1 : Int) = graphF a c es) ∧
 ((!decide
 ((0 : Int) ≤ (es.getD (↑x : Int).toNat ((0 : Int), (0 : Int))).snd ∧
 (es.getD (↑x : Int).toNat ((0 : Int), (0 : Int))).snd ≤ c - (1 : Int))) =
 false →
 (!decide
 ((0 : Int) ≤ (es.getD (↑x : Int).toNat ((0 : Int), (0 : Int))).snd ∧
 (es.getD (↑x : Int).toNat ((0 : Int), (0 : Int))).snd ≤ c - (1 : Int))) =
 false ∧
 (!decide
 ((0 : Int) ≤ (es.getD (↑x : Int).toNat ((0 : Int), (0 : Int))).snd ∧
 (es.getD (↑x : Int).toNat ((0 : Int), (0 : Int))).snd ≤ c - (1 : Int))) =
 false ∧
 Fits IntKind.i64 ((↑x : Int) + (1 : Int)) ∧
 ∃ (x' : Nat),
 (x' ≤ es.length ∧ (List.take x' es).any (badEd a c) = false) ∧
 es.length - x' < es.length - x ∧
 True ∧ (↑x : Int) + (1 : Int) = (↑x' : Int) ∧ a = a ∧ c = c ∧ es = es ∧ True))) ∧
 (¬(↑x : Int) < (↑es.length : Int) → ¬(↑x : Int) < (↑es.length : Int) ∧ (0 : Int) = graphF a c es))))) := by
 kernel_rfl

theorem g29_eq (es : List Ed) (m : Int) (l : List Int) : g29 es m l = (
 (es.length ≤ (1000 : Nat) ∧ l.length ≤ es.length) ∧
 ((!properF es l) = true → (!properF es l) = true ∧ refC es m l = none) ∧
 ((!properF es l) = false →
 (!properF es l) = false ∧
 ((↑l.length : Int) = (↑es.length : Int) → (↑l.length : Int) = (↑es.length : Int) ∧ refC es m l = some l) ∧
 (¬(↑l.length : Int) = (↑es.length : Int) →
 ¬(↑l.length : Int) = (↑es.length : Int) ∧
 (∃ (x0 : Nat), ((↑x0 : Int) ≤ m ∧ ∀ (c : Nat), c < x0 → refC es m (l ++ [(↑c : Int)]) = none) ∧ True ∧ (0 : Int) = (↑x0 : Int) ∧ es = es ∧ m = m ∧ l = l ∧ True) ∧
 ∀ (x : Nat),
 ((↑x : Int) ≤ m ∧ ∀ (c : Nat), c < x → refC es m (l ++ [(↑c : Int)]) = none) →
 ((↑x : Int) < m →
 (↑x : Int) < m ∧
 Small ((0 : Nat) + l.length) ∧
 Small (l.length + ((0 : Nat) + (1 : Nat))) ∧
 (((es.length ≤ (1000 : Nat) ∧ (l ++ [(↑x : Int)]).length ≤ es.length) ∧ (0 : Int) ≤ m ∧ m ≤ (1000 : Int)) ∧
 m29 (es, m, l ++ [(↑x : Int)]) < m29 (es, m, l)) ∧
 (refC es m (l ++ [(↑x : Int)]) = none →
 Fits IntKind.i64 ((↑x : Int) + (1 : Int)) ∧
 ∃ (x' : Nat),
 ((↑x' : Int) ≤ m ∧ ∀ (c : Nat), c < x' → refC es m (l ++ [(↑c : Int)]) = none) ∧
 m.toNat - x' < m.toNat - x ∧ True ∧ (↑x : Int) + (1 : Int) = (↑x' : Int) ∧ es = es ∧ m = m ∧ l = l ∧ True) ∧
 ∀ (ys : List Int), refC es m (l ++ [(↑x : Int)]) = some ys → ys ≠ [] ∧ refC es m l = some ys) ∧
 (¬(↑x : Int) < m → ¬(↑x : Int) < m ∧ refC es m l = none)))) := by
 kernel_rfl

end Go.SX.Pa

/- Chapter 06, part 10: the contracts of the reference's colourings. -/
namespace Go.SX.Pa
open Go Go.Proofs

theorem proper_bad {es : List Ed} {l : List Int} {i : Nat} (hi : i < l.length) (h : clashF es l i = true) : properF es l = false := by
  unfold properF
  rw [List.all_eq_false]
  exact ⟨i, List.mem_range.2 hi, by rw [h]; simp⟩
theorem proper_good {es : List Ed} {l : List Int} (h : ∀ a, a < l.length → clashF es l a = false) : properF es l = true := by
  unfold properF
  rw [List.all_eq_true]
  intro i hi
  rw [h i (List.mem_range.1 hi)]; rfl

theorem ok35 : p35.OK Tryd.prog := p35.ok C35 (fun _ => cx0) (fn := Tryd.f35) rfl (by decide +kernel) rfl fun (p : List Ed × List Int) hp => by
  obtain ⟨es, l⟩ := p
  refine (g35_eq es l).mpr ?_
  obtain ⟨q1, q2⟩ := hp
  have q1 : es.length ≤ 1000 := q1
  have q2 : l.length ≤ es.length := q2
  simp only [pp1, eq_self, and_true, true_and, and_self, Int.toNat_natCast]
  refine ⟨⟨0, ⟨by omega, fun a ha => by omega⟩, rfl⟩, fun i ⟨hi, hok⟩ => ⟨fun h1 => ⟨⟨0, ⟨by omega, fun a ha => by omega⟩, rfl⟩, fun j ⟨hj, hno⟩ => ⟨fun h2 => ?_, fun h2 => ?_⟩⟩, fun h1 => ?_⟩⟩
  · have hi' : i < l.length := by omega
    have hj' : j < i := by omega
    have step : touch es l i j = false → Fits IntKind.i64 ((j : Int) + 1) ∧ ∃ x', (x' ≤ i ∧ ∀ (b : Nat), b < x' → touch es l i b = false) ∧ i - x' < i - j ∧ (j : Int) + 1 = (x' : Nat) := fun h =>
      ⟨fits_nat (by omega), j + 1, ⟨by omega, all_below hno h⟩, by omega, by simp⟩
    refine ⟨by omega, by omega, fun e1 => ⟨by omega, by omega, fun e2 => ?_, fun e2 => ⟨by omega, by omega, fun e3 => ?_, fun e3 => step ?_⟩⟩, fun e1 => step ?_⟩
    · exact (proper_bad hi' (touch_clash hj' (decide_eq_true ⟨e1.symm, .inl e2.symm⟩))).symm
    · exact (proper_bad hi' (touch_clash hj' (decide_eq_true ⟨e1.symm, .inr e3.symm⟩))).symm
    · exact decide_eq_false fun h => h.2.elim (fun h => e2 h.symm) (fun h => e3 h.symm)
    · exact decide_eq_false fun h => e1 h.1.symm
  · have : j = i := by omega
    subst this
    exact ⟨fits_nat (by omega), j + 1, ⟨by omega, all_below hok (no_clash hno)⟩, by omega, by simp⟩
  · have : i = l.length := by omega
    subst this
    exact (proper_good hok).symm

theorem cntA_succ (es : List Ed) (v k : Nat) (h : k < es.length) : cntA (es.take (k + 1)) v = cntA (es.take k) v + if (es.getD k (0, 0)).1 = (v : Int) then 1 else 0 := by
  unfold cntA
  rw [take_snoc es (0, 0) k h, List.countP_append]
  simp only [List.countP_cons, List.countP_nil, Nat.zero_add, decide_eq_true_eq]
  split <;> simp
theorem cntB_succ (es : List Ed) (v k : Nat) (h : k < es.length) : cntB (es.take (k + 1)) v = cntB (es.take k) v + if (es.getD k (0, 0)).2 = (v : Int) then 1 else 0 := by
  unfold cntB
  rw [take_snoc es (0, 0) k h, List.countP_append]
  simp only [List.countP_cons, List.countP_nil, Nat.zero_add, decide_eq_true_eq]
  split <;> simp
theorem cntA_le (es : List Ed) (v : Nat) : 0 ≤ cntA es v ∧ cntA es v ≤ es.length := by
  have : es.countP (fun e => decide (e.1 = (v : Int))) ≤ es.length := List.countP_le_length
  unfold cntA; omega
theorem cntB_le (es : List Ed) (v : Nat) : 0 ≤ cntB es v ∧ cntB es v ≤ es.length := by
  have : es.countP (fun e => decide (e.2 = (v : Int))) ≤ es.length := List.countP_le_length
  unfold cntB; omega

theorem ok30 : p30.OK Tryd.prog := p30.ok C30 (fun _ => cx0) (fn := Tryd.f30) rfl (by decide +kernel) rfl fun (es : List Ed) hp => by
  refine (g30_eq es).mpr ?_
  have hp : es.length ≤ 1000 := hp
  simp only [pp1, eq_self, and_true, true_and, and_self, Int.toNat_natCast]
  refine ⟨⟨0, by omega, rfl, rfl⟩, fun v hv => ⟨fun h1 => ⟨⟨0, by omega, rfl, rfl, rfl⟩, fun k hk => ⟨fun h2 => ?_, fun h2 => ?_⟩⟩, fun h1 => ?_⟩⟩
  · have hk' : k < es.length := by omega
    have a1 := cntA_succ es v k hk'
    have b1 := cntB_succ es v k hk'
    have a2 := cntA_le (es.take k) v
    have b2 := cntB_le (es.take k) v
    have hl : (es.take k).length = k := by rw [List.length_take]; omega
    rw [hl] at a2 b2
    refine ⟨by omega, fun e1 => ?_, fun e1 => ?_⟩
    · rw [if_pos e1] at a1
      refine ⟨fits_i64 (by omega) (by omega), by omega, fun e2 => ?_, fun e2 => ?_⟩
      · rw [if_pos e2] at b1
        exact ⟨fits_i64 (by omega) (by omega), fits_nat (by omega), k + 1, by omega, by omega, by simp, a1.symm, b1.symm⟩
      · rw [if_neg e2] at b1
        exact ⟨fits_nat (by omega), k + 1, by omega, by omega, by simp, a1.symm, by omega⟩
    · rw [if_neg e1] at a1
      refine ⟨by omega, fun e2 => ?_, fun e2 => ?_⟩
      · rw [if_pos e2] at b1
        exact ⟨fits_i64 (by omega) (by omega), fits_nat (by omega), k + 1, by omega, by omega, by simp, by omega, b1.symm⟩
      · rw [if_neg e2] at b1
        exact ⟨fits_nat (by omega), k + 1, by omega, by omega, by simp, by omega, by omega⟩
  · have : es.take k = es := List.take_of_length_le (by omega)
    rw [this]
    exact ⟨fits_nat (by omega), v + 1, by omega, by omega, by simp, rfl⟩
  · have : v = 6 := by omega
    rw [this]

theorem ok27 : p27.OK Tryd.prog := p27.ok C27 (fun _ => cx1 (PC.OK.ci ok21)) (fn := Tryd.f27) rfl (by decide +kernel) rfl fun (p : Int × Int × List Ed) hp => by
  obtain ⟨a, c, es⟩ := p
  refine (g27_eq a c es).mpr ?_
  have hp : es.length ≤ 1000 := hp
  simp only [pp1, eq_self, and_true, true_and, and_self, Int.toNat_natCast]
  unfold graphF
  refine ⟨fun h => by rw [if_pos (by omega)], fun h => ⟨fun h1 => ?_, fun h1 => ⟨fun h2 => ?_, fun h2 => ⟨⟨0, ⟨by omega, by simp⟩, rfl⟩, fun k ⟨hk, hok⟩ => ⟨fun h3 => ?_, fun h3 => ?_⟩⟩⟩⟩⟩
  · rw [Bool.not_eq_true'] at h1
    rw [if_neg (by omega), if_pos (.inl (of_decide_eq_false h1))]
  · rw [Bool.not_eq_true'] at h2
    rw [if_neg (by omega), if_pos (.inr (.inl (of_decide_eq_false h2)))]
  · rw [Bool.not_eq_false'] at h1 h2
    have h1 := of_decide_eq_true h1
    have h2 := of_decide_eq_true h2
    have hk' : k < es.length := by omega
    have bad : badEd a c (es.getD k (0, 0)) = true → 1 = (if 12 < es.length then (3 : Int) else if ¬ (1 ≤ a ∧ a ≤ 6) ∨ ¬ (1 ≤ c ∧ c ≤ 6) ∨ es.any (badEd a c) = true then 1 else 0) := fun hb => by
      rw [if_neg (by omega), if_pos (.inr (.inr (any_of_get (0, 0) hk' hb)))]
    refine ⟨by omega, fits_i64 (by omega) (by omega), fun h4 => bad ?_, fun h4 => ⟨by omega, fits_i64 (by omega) (by omega), fun h5 => bad ?_, fun h5 => ⟨fits_nat (by omega), k + 1, ⟨by omega, ?_⟩, by omega, by simp⟩⟩⟩
    · rw [Bool.not_eq_true'] at h4
      have h4 := of_decide_eq_false h4
      exact decide_eq_true (by omega)
    · rw [Bool.not_eq_true'] at h5
      have h5 := of_decide_eq_false h5
      exact decide_eq_true (by omega)
    · rw [Bool.not_eq_false'] at h4 h5
      have h4 := of_decide_eq_true h4
      have h5 := of_decide_eq_true h5
      rw [take_any _ _ (0, 0) k hk', hok, Bool.false_or]
      exact decide_eq_false (by omega)
  · rw [Bool.not_eq_false'] at h1 h2
    have h1 := of_decide_eq_true h1
    have h2 := of_decide_eq_true h2
    have : k = es.length := by omega
    subst this
    rw [List.take_length] at hok
    rw [if_neg (by omega), if_neg (by rw [hok]; simp; omega)]

theorem refC_bad {es : List Ed} {m : Int} {l : List Int} (h : properF es l = false) : refC es m l = none := by
  unfold refC
  cases es.length - l.length with
  | zero => unfold refG; rw [h]; rfl
  | succ n => unfold refG; rw [h]; rfl
theorem refC_done {es : List Ed} {m : Int} {l : List Int} (h : properF es l = true) (hl : l.length = es.length) : refC es m l = some l := by
  unfold refC
  rw [hl, Nat.sub_self]
  unfold refG
  rw [if_pos h]
theorem refC_step {es : List Ed} {m : Int} {l : List Int} (h : properF es l = true) (hl : l.length < es.length) : refC es m l = (List.range m.toNat).findSome? fun c : Nat => refC es m (l ++ [(c : Int)]) := by
  conv => lhs; unfold refC
  obtain ⟨f, hf⟩ : ∃ f, es.length - l.length = f + 1 := ⟨es.length - l.length - 1, by omega⟩
  rw [hf]
  unfold refG
  rw [if_pos h]
  congr 1
  funext c
  unfold refC
  rw [List.length_append, List.length_singleton, show es.length - (l.length + 1) = f by omega]
theorem refG_length (es : List Ed) (m : Nat) : (f : Nat) → (l ys : List Int) → refG es m f l = some ys → ys.length = l.length + f
  | 0, l, ys, h => by
    unfold refG at h
    split at h
    · cases h; rfl
    · cases h
  | f + 1, l, ys, h => by
    unfold refG at h
    split at h
    · obtain ⟨c, _, hc⟩ := List.exists_of_findSome?_eq_some h
      have := refG_length es m f _ _ hc
      simp at this
      omega
    · cases h

theorem ok29 : NilOK Tryd.prog n29 := n29.rec_ok (fn := Tryd.f29) m29 C29 (fun _ h => cx2 (PC.OK.ci ok35) h.ci) rfl (by decide +kernel) rfl fun (p : List Ed × Int × List Int) hp => by
  obtain ⟨es, m, l⟩ := p
  refine (g29_eq es m l).mpr ?_
  obtain ⟨⟨q1, q2⟩, q3, q4⟩ := hp
  have q1 : es.length ≤ 1000 := q1
  have q2 : l.length ≤ es.length := q2
  have q3 : (0 : Int) ≤ m := q3
  have q4 : m ≤ (1000 : Int) := q4
  simp only [pp1, eq_self, and_true, true_and, and_self, Int.toNat_natCast]
  refine ⟨⟨q1, q2⟩, fun h => refC_bad (by simpa using h), fun h => ?_⟩
  have h : properF es l = true := by simpa using h
  refine ⟨fun h1 => refC_done h (by omega), fun h1 => ⟨⟨0, ⟨by omega, fun c hc => by omega⟩, rfl⟩, fun k ⟨hk, hno⟩ => ⟨fun h2 => ?_, fun h2 => ?_⟩⟩⟩
  · have hl1 : (l ++ [(k : Int)]).length = l.length + 1 := by simp
    refine ⟨by unfold Small; omega, by unfold Small; omega, ⟨⟨⟨q1, by omega⟩, by omega, by omega⟩, ?_⟩, fun h3 => ⟨fits_nat (by omega), k + 1, ⟨by omega, fun c hc => ?_⟩, by omega, by simp⟩, fun ys h3 => ⟨fun e => ?_, ?_⟩⟩
    · show es.length - (l ++ [(k : Int)]).length < es.length - l.length
      omega
    · rcases Nat.lt_succ_iff_lt_or_eq.1 hc with h4 | h4
      · exact hno c h4
      · subst h4; exact h3
    · have := refG_length _ _ _ _ _ h3
      rw [e] at this
      simp at this
      omega
    · rw [refC_step h (by omega)]
      exact findSome_at (x := k) (by omega) (fun c hc => hno c hc) h3
  · rw [refC_step h (by omega)]
    exact findSome_no fun c hc => hno c (by omega)
end Go.SX.Pa

/- Chapter 06, part 11: the law PatchColors; the plain law behind it. -/
namespace Go.SX.Pa
open Go Go.Proofs

/-! ### The two searches are one -/
theorem touch_append (es : List Ed) (l : List Int) (c : Int) {i j : Nat} (hi : i < l.length) (hj : j < l.length) : touch es (l ++ [c]) i j = touch es l i j := by
  unfold touch
  apply decide_eq_decide.2
  simp only [List.getD, List.getElem?_append_left hi, List.getElem?_append_left hj]
theorem clash_append (es : List Ed) (l : List Int) (c : Int) {i : Nat} (hi : i < l.length) : clashF es (l ++ [c]) i = clashF es l i := by
  unfold clashF
  apply Bool.eq_iff_iff.2
  rw [List.any_eq_true, List.any_eq_true]
  constructor
  · rintro ⟨j, hj, h⟩
    rw [touch_append es l c hi (by have := List.mem_range.1 hj; omega)] at h
    exact ⟨j, hj, h⟩
  · rintro ⟨j, hj, h⟩
    refine ⟨j, hj, ?_⟩
    rw [touch_append es l c hi (by have := List.mem_range.1 hj; omega)]
    exact h
theorem proper_append (es : List Ed) (l : List Int) (c : Int) (h : properF es l = true) : properF es (l ++ [c]) = !clashF es (l ++ [c]) l.length := by
  unfold properF at h ⊢
  rw [List.length_append, List.length_singleton, List.range_succ, List.all_append]
  have : (List.range l.length).all (fun i => !clashF es (l ++ [c]) i) = true := by
    rw [List.all_eq_true] at h ⊢
    intro i hi
    rw [clash_append es l c (List.mem_range.1 hi)]
    exact h i hi
  rw [this]
  simp
theorem ref_ext (es : List Ed) (m : Nat) : (f : Nat) → (l : List Int) → properF es l = true → refG es m f l = extF es m f l
  | 0, l, h => by unfold refG extF; rw [if_pos h]
  | f + 1, l, h => by
    unfold refG extF
    rw [if_pos h]
    congr 1
    funext c
    have hp := proper_append es l (c : Int) h
    cases hc : clashF es (l ++ [(c : Int)]) l.length with
    | true =>
      rw [hc] at hp
      rw [if_pos rfl]
      cases f with
      | zero => unfold refG; rw [hp]; rfl
      | succ n => unfold refG; rw [hp]; rfl
    | false =>
      rw [hc] at hp
      rw [if_neg (by decide)]
      exact ref_ext es m f _ hp
theorem refC_nil (es : List Ed) (m : Int) : refC es m [] = extR es m [] := ref_ext es m.toNat _ [] rfl

/-! ### The greatest degree -/
theorem degR_le (es : List Ed) (x : Int) : (n : Nat) → (degR es n ≤ x ↔ 0 ≤ x ∧ ∀ v, v < n → cntA es v ≤ x ∧ cntB es v ≤ x)
  | 0 => by simp [degR]
  | n + 1 => by
    have ih := degR_le es x n
    unfold degR
    constructor
    · intro h
      have h1 : degR es n ≤ x := by omega
      obtain ⟨h2, h3⟩ := ih.1 h1
      refine ⟨h2, fun v hv => ?_⟩
      rcases Nat.lt_succ_iff_lt_or_eq.1 hv with h4 | h4
      · exact h3 v h4
      · subst h4; omega
    · rintro ⟨h1, h2⟩
      have h3 := ih.2 ⟨h1, fun v hv => h2 v (by omega)⟩
      have h4 := h2 n (by omega)
      omega
theorem degTo_degR (es : List Ed) (hb : ∀ e ∈ es, (0 ≤ e.1 ∧ e.1 < 6) ∧ 0 ≤ e.2 ∧ e.2 < 6) : (k : Nat) → k ≤ es.length → (degTo es k).2.2 = degR (es.take k) 6
  | 0, _ => by simp [degTo, degR, cntA, cntB]
  | k + 1, h => by
    have ih := degTo_degR es hb k (by omega)
    have hk : k < es.length := by omega
    have he := hb _ (getD_mem es (0, 0) hk)
    have la := (degTo_look es (es.getD k (0, 0)).1 (k + 1) h).1
    have lb := (degTo_look es (es.getD k (0, 0)).2 (k + 1) h).2
    rw [degTo_succ es k hk] at la lb ⊢
    have cA := fun v => cntA_succ es v k hk
    have cB := fun v => cntB_succ es v k hk
    obtain ⟨A, hA⟩ : ∃ A : Nat, (es.getD k (0, 0)).1 = (A : Int) := ⟨(es.getD k (0, 0)).1.toNat, by omega⟩
    obtain ⟨B, hB⟩ : ∃ B : Nat, (es.getD k (0, 0)).2 = (B : Int) := ⟨(es.getD k (0, 0)).2.toNat, by omega⟩
    have eA : (((es.take (k + 1)).countP fun e => decide (e.1 = (es.getD k (0, 0)).1) : Nat) : Int) = cntA (es.take (k + 1)) A := by unfold cntA; rw [hA]
    have eB : (((es.take (k + 1)).countP fun e => decide (e.2 = (es.getD k (0, 0)).2) : Nat) : Int) = cntB (es.take (k + 1)) B := by unfold cntB; rw [hB]
    rw [eA] at la
    rw [eB] at lb
    have hAB : A < 6 ∧ B < 6 := by omega
    have hst : (degStep (degTo es k) (es.getD k (0, 0))).2.2 = max (max (degTo es k).2.2 (cntA (es.take (k + 1)) A)) (cntB (es.take (k + 1)) B) := by
      rw [← la, ← lb]; rfl
    rw [hst, ih]
    have D1 := (degR_le (es.take (k + 1)) (degR (es.take (k + 1)) 6) 6).1 (Int.le_refl _)
    have D0 := (degR_le (es.take k) (degR (es.take k) 6) 6).1 (Int.le_refl _)
    apply Int.le_antisymm
    · have m0 : degR (es.take k) 6 ≤ degR (es.take (k + 1)) 6 := (degR_le _ _ 6).2 ⟨D1.1, fun v hv => by
        have h1 := D1.2 v hv
        rw [cA v, cB v] at h1
        split at h1 <;> split at h1 <;> omega⟩
      have h1 := (D1.2 A hAB.1).1
      have h2 := (D1.2 B hAB.2).2
      omega
    · refine (degR_le _ _ 6).2 ⟨by omega, fun v hv => ?_⟩
      have h0 := D0.2 v hv
      have h1 := cA v
      have h2 := cB v
      constructor
      · by_cases e : v = A
        · subst e; omega
        · rw [if_neg (by omega)] at h1; omega
      · by_cases e : v = B
        · subst e; omega
        · rw [if_neg (by omega)] at h2; omega
theorem degF_degR (es : List Ed) (hb : ∀ e ∈ es, (0 ≤ e.1 ∧ e.1 < 6) ∧ 0 ≤ e.2 ∧ e.2 < 6) : degF es = degR es 6 := by
  have := degTo_degR es hb es.length (Nat.le_refl _)
  rw [List.take_length] at this
  exact this
theorem colF_refC (es : List Ed) (hb : ∀ e ∈ es, (0 ≤ e.1 ∧ e.1 < 6) ∧ 0 ≤ e.2 ∧ e.2 < 6) : colF es (degF es) = refC es (degR es 6) [] := by
  unfold colF
  rw [if_pos (Int.le_refl _), refC_nil, degF_degR es hb]

noncomputable section
@[reducible] def p4 : PC := ⟨4, [aI, aI, aEds], [aB], fun _ => True, fun _ => true⟩
def g4 (a c : Int) (es : List Ed) : Prop := p4.VC (cx [p26.ci, p27.ci, p25.ci, p30.ci, n29.ci, p28.ci] []) Tryd.f4 (a, c, es)
end
end Go.SX.Pa

/- Printed by VC.lean: what the executor asks. -/
namespace Go.SX.Pa
open Go Go.Proofs
theorem g4_eq (a : Int) (c : Int) (es : List Ed) : g4 a c es = (
 ((0 : Int) ≤ (↑(0 : Nat) : Int) ∧ (↑(0 : Nat) : Int) ≤ min (↑es.length : Int) (13 : Int) ∧ min (↑es.length : Int) (13 : Int) ≤ (↑es.length : Int)) ∧
 True ∧
 Small ((0 : Nat) + (List.drop (↑(0 : Nat) : Int).toNat (List.take (min (↑es.length : Int) (13 : Int)).toNat es)).length) ∧
 (List.drop (↑(0 : Nat) : Int).toNat (List.take (min (↑es.length : Int) (13 : Int)).toNat es)).length ≤ (1000 : Nat) ∧
 (List.drop (↑(0 : Nat) : Int).toNat (List.take (min (↑es.length : Int) (13 : Int)).toNat es)).length ≤ (1000 : Nat) ∧
 (¬graphF a c (List.drop (↑(0 : Nat) : Int).toNat (List.take (min (↑es.length : Int) (13 : Int)).toNat es)) = (0 : Int) →
 ¬graphF a c (List.drop (↑(0 : Nat) : Int).toNat (List.take (min (↑es.length : Int) (13 : Int)).toNat es)) = (0 : Int) ∧
 ((↑(colorsF a c (List.drop (↑(0 : Nat) : Int).toNat (List.take (min (↑es.length : Int) (13 : Int)).toNat es))).fst.length : Int) = (0 : Int) →
 (↑(colorsF a c (List.drop (↑(0 : Nat) : Int).toNat (List.take (min (↑es.length : Int) (13 : Int)).toNat es))).fst.length : Int) = (0 : Int) ∧
 (↑(colorsF a c (List.drop (↑(0 : Nat) : Int).toNat (List.take (min (↑es.length : Int) (13 : Int)).toNat es))).fst.length : Int) = (0 : Int) ∧
 ((colorsF a c (List.drop (↑(0 : Nat) : Int).toNat (List.take (min (↑es.length : Int) (13 : Int)).toNat es))).snd =
 graphF a c (List.drop (↑(0 : Nat) : Int).toNat (List.take (min (↑es.length : Int) (13 : Int)).toNat es)) →
 (colorsF a c (List.drop (↑(0 : Nat) : Int).toNat (List.take (min (↑es.length : Int) (13 : Int)).toNat es))).snd =
 graphF a c (List.drop (↑(0 : Nat) : Int).toNat (List.take (min (↑es.length : Int) (13 : Int)).toNat es)) ∧
 (colorsF a c (List.drop (↑(0 : Nat) : Int).toNat (List.take (min (↑es.length : Int) (13 : Int)).toNat es))).snd =
 graphF a c (List.drop (↑(0 : Nat) : Int).toNat (List.take (min (↑es.length : Int) (13 : Int)).toNat es)) ∧
 (colorsF a c (List.drop (↑(0 : Nat) : Int).toNat (List.take (min (↑es.length : Int) (13 : Int)).toNat es))).snd =
 graphF a c (List.drop (↑(0 : Nat) : Int).toNat (List.take (min (↑es.length : Int) (13 : Int)).toNat es)) ∧
 True ∧ true = true) ∧
 (¬(colorsF a c (List.drop (↑(0 : Nat) : Int).toNat (List.take (min (↑es.length : Int) (13 : Int)).toNat es))).snd =
 graphF a c (List.drop (↑(0 : Nat) : Int).toNat (List.take (min (↑es.length : Int) (13 : Int)).toNat es)) →
 ¬(colorsF a c (List.drop (↑(0 : Nat) : Int).toNat (List.take (min (↑es.length : Int) (13 : Int)).toNat es))).snd =
 graphF a c (List.drop (↑(0 : Nat) : Int).toNat (List.take (min (↑es.length : Int) (13 : Int)).toNat es)) ∧
 ¬(colorsF a c (List.drop (↑(0 : Nat) : Int).toNat (List.take (min (↑es.length : Int) (13 : Int)).toNat es))).snd =
 graphF a c (List.drop (↑(0 : Nat) : Int).toNat (List.take (min (↑es.length : Int) (13 : Int)).toNat es)) ∧
 ¬(colorsF a c (List.drop (↑(0 : Nat) : Int).toNat (List.take (min (↑es.length : Int) (13 : Int)).toNat es))).snd =
 graphF a c (List.drop (↑(0 : Nat) : Int).toNat (List.take (min (↑es.length : Int) (13 : Int)).toNat es)) ∧
 false = true)) ∧
 (¬(↑(colorsF a c (List.drop (↑(0 : Nat) : Int).toNat (List.take (min (↑es.length : Int) (13 : Int)).toNat es))).fst.length : Int) = (0 : Int) →
 ¬(↑(colorsF a c (List.drop (↑(0 : Nat) : Int).toNat (List.take (min (↑es.length : Int) (13 : Int)).toNat es))).fst.length : Int) = (0 : Int) ∧
 ¬(↑(colorsF a c (List.drop (↑(0 : Nat) : Int).toNat (List.take (min (↑es.length : Int) (13 : Int)).toNat es))).fst.length : Int) = (0 : Int) ∧
 false = true)) ∧
 (¬¬graphF a c (List.drop (↑(0 : Nat) : Int).toNat (List.take (min (↑es.length : Int) (13 : Int)).toNat es)) = (0 : Int) →
 ¬¬graphF a c (List.drop (↑(0 : Nat) : Int).toNat (List.take (min (↑es.length : Int) (13 : Int)).toNat es)) = (0 : Int) ∧
 (List.drop (↑(0 : Nat) : Int).toNat (List.take (min (↑es.length : Int) (13 : Int)).toNat es)).length ≤ (1000 : Nat) ∧
 (((List.drop (↑(0 : Nat) : Int).toNat (List.take (min (↑es.length : Int) (13 : Int)).toNat es)).length ≤ (1000 : Nat) ∧
 (0 : Nat) ≤ (List.drop (↑(0 : Nat) : Int).toNat (List.take (min (↑es.length : Int) (13 : Int)).toNat es)).length) ∧
 (0 : Int) ≤ degR (List.drop (↑(0 : Nat) : Int).toNat (List.take (min (↑es.length : Int) (13 : Int)).toNat es)) (6 : Nat) ∧
 degR (List.drop (↑(0 : Nat) : Int).toNat (List.take (min (↑es.length : Int) (13 : Int)).toNat es)) (6 : Nat) ≤ (1000 : Int)) ∧
 (refC (List.drop (↑(0 : Nat) : Int).toNat (List.take (min (↑es.length : Int) (13 : Int)).toNat es))
 (degR (List.drop (↑(0 : Nat) : Int).toNat (List.take (min (↑es.length : Int) (13 : Int)).toNat es)) (6 : Nat)) [] =
 none →
 ((colorsF a c (List.drop (↑(0 : Nat) : Int).toNat (List.take (min (↑es.length : Int) (13 : Int)).toNat es))).fst.length ≤ (1000 : Nat) ∧
 (0 : Nat) ≤ (1000 : Nat)) ∧
 (decide ((colorsF a c (List.drop (↑(0 : Nat) : Int).toNat (List.take (min (↑es.length : Int) (13 : Int)).toNat es))).fst = []) = true →
 decide ((colorsF a c (List.drop (↑(0 : Nat) : Int).toNat (List.take (min (↑es.length : Int) (13 : Int)).toNat es))).fst = []) = true ∧
 decide ((colorsF a c (List.drop (↑(0 : Nat) : Int).toNat (List.take (min (↑es.length : Int) (13 : Int)).toNat es))).fst = []) = true ∧
 ((colorsF a c (List.drop (↑(0 : Nat) : Int).toNat (List.take (min (↑es.length : Int) (13 : Int)).toNat es))).snd = (0 : Int) →
 (colorsF a c (List.drop (↑(0 : Nat) : Int).toNat (List.take (min (↑es.length : Int) (13 : Int)).toNat es))).snd = (0 : Int) ∧
 (colorsF a c (List.drop (↑(0 : Nat) : Int).toNat (List.take (min (↑es.length : Int) (13 : Int)).toNat es))).snd = (0 : Int) ∧
 (colorsF a c (List.drop (↑(0 : Nat) : Int).toNat (List.take (min (↑es.length : Int) (13 : Int)).toNat es))).snd = (0 : Int) ∧
 True ∧ true = true) ∧
 (¬(colorsF a c (List.drop (↑(0 : Nat) : Int).toNat (List.take (min (↑es.length : Int) (13 : Int)).toNat es))).snd = (0 : Int) →
 ¬(colorsF a c (List.drop (↑(0 : Nat) : Int).toNat (List.take (min (↑es.length : Int) (13 : Int)).toNat es))).snd = (0 : Int) ∧
 ¬(colorsF a c (List.drop (↑(0 : Nat) : Int).toNat (List.take (min (↑es.length : Int) (13 : Int)).toNat es))).snd = (0 : Int) ∧
 ¬(colorsF a c (List.drop (↑(0 : Nat) : Int).toNat (List.take (min (↑es.length : Int) (13 : Int)).toNat es))).snd = (0 : Int) ∧
 false = true)) ∧
 (decide ((colorsF a c (List.drop (↑(0 : Nat) : Int).toNat (List.take (min (↑es.length : Int) (13 : Int)).toNat es))).fst = []) = false →
 decide ((colorsF a c (List.drop (↑(0 : Nat) : Int).toNat (List.take (min (↑es.length : Int) (13 : Int)).toNat es))).fst = []) = false ∧
 decide ((colorsF a c (List.drop (↑(0 : Nat) : Int).toNat (List.take (min (↑es.length : Int) (13 : Int)).toNat es))).fst = []) = false ∧
 false = true)) ∧
 ∀ (ys : List Int),
 refC (List.drop (↑(0 : Nat) : Int).toNat (List.take (min (↑es.length : Int) (13 : Int)).toNat es))
 (degR (List.drop (↑(0 : Nat) : Int).toNat (List.take (min (↑es.length : Int) (13 : Int)).toNat es)) (6 : Nat)) [] =
 some ys →
 ((colorsF a c (List.drop (↑(0 : Nat) : Int).toNat (List.take (min (↑es.length : Int) (13 : Int)).toNat es))).fst.length ≤ (1000 : Nat) ∧
 ys.length ≤ (1000 : Nat)) ∧
 (decide ((colorsF a c (List.drop (↑(0 : Nat) : Int).toNat (List.take (min (↑es.length : Int) (13 : Int)).toNat es))).fst = ys) = true →
 decide ((colorsF a c (List.drop (↑(0 : Nat) : Int).toNat (List.take (min (↑es.length : Int) (13 : Int)).toNat es))).fst = ys) = true ∧
 decide ((colorsF a c (List.drop (↑(0 : Nat) : Int).toNat (List.take (min (↑es.length : Int) (13 : Int)).toNat es))).fst = ys) = true ∧
 ((colorsF a c (List.drop (↑(0 : Nat) : Int).toNat (List.take (min (↑es.length : Int) (13 : Int)).toNat es))).snd = (0 : Int) →
 (colorsF a c (List.drop (↑(0 : Nat) : Int).toNat (List.take (min (↑es.length : Int) (13 : Int)).toNat es))).snd = (0 : Int) ∧
 (colorsF a c (List.drop (↑(0 : Nat) : Int).toNat (List.take (min (↑es.length : Int) (13 : Int)).toNat es))).snd = (0 : Int) ∧
 (colorsF a c (List.drop (↑(0 : Nat) : Int).toNat (List.take (min (↑es.length : Int) (13 : Int)).toNat es))).snd = (0 : Int) ∧
 True ∧ true = true) ∧
 (¬(colorsF a c (List.drop (↑(0 : Nat) : Int).toNat (List.take (min (↑es.length : Int) (13 : Int)).toNat es))).snd = (0 : Int) →
 ¬(colorsF a c (List.drop (↑(0 : Nat) : Int).toNat (List.take (min (↑es.length : Int) (13 : Int)).toNat es))).snd = (0 : Int) ∧
 ¬(colorsF a c (List.drop (↑(0 : Nat) : Int).toNat (List.take (min (↑es.length : Int) (13 : Int)).toNat es))).snd = (0 : Int) ∧
 ¬(colorsF a c (List.drop (↑(0 : Nat) : Int).toNat (List.take (min (↑es.length : Int) (13 : Int)).toNat es))).snd = (0 : Int) ∧
 false = true)) ∧
 (decide ((colorsF a c (List.drop (↑(0 : Nat) : Int).toNat (List.take (min (↑es.length : Int) (13 : Int)).toNat es))).fst = ys) = false →
 decide ((colorsF a c (List.drop (↑(0 : Nat) : Int).toNat (List.take (min (↑es.length : Int) (13 : Int)).toNat es))).fst = ys) = false ∧
 decide ((colorsF a c (List.drop (↑(0 : Nat) : Int).toNat (List.take (min (↑es.length : Int) (13 : Int)).toNat es))).fst = ys) = false ∧
 false = true))) := by
 kernel_rfl

end Go.SX.Pa

/- Chapter 06, part 11: the law PatchColors: its contract. -/
namespace Go.SX.Pa
open Go Go.Proofs

theorem colors_graph (a c : Int) (es : List Ed) :
    (graphF a c es ≠ 0 → colorsF a c es = ([], graphF a c es)) ∧ (graphF a c es = 0 → colorsF a c es = ((refC es (degR es 6) []).getD [], 0) ∧ es.length ≤ 12) := by
  unfold graphF colorsF
  by_cases h : 12 < es.length
  · rw [if_pos h, if_pos h]
    exact ⟨fun _ => rfl, fun h => absurd h (by decide)⟩
  · rw [if_neg h, if_neg h]
    by_cases h2 : min a c < 1 ∨ 6 < max a c ∨ es.any (badEd a c) = true
    · rw [if_pos h2, if_pos (by
        rcases h2 with h2 | h2 | h2
        · by_cases h3 : 1 ≤ a ∧ a ≤ 6
          · exact .inr (.inl (by omega))
          · exact .inl h3
        · by_cases h3 : 1 ≤ a ∧ a ≤ 6
          · exact .inr (.inl (by omega))
          · exact .inl h3
        · exact .inr (.inr h2))]
      exact ⟨fun _ => rfl, fun h => absurd h (by decide)⟩
    · have h2' : ¬ min a c < 1 ∧ ¬ 6 < max a c ∧ es.any (badEd a c) = false := ⟨fun h => h2 (.inl h), fun h => h2 (.inr (.inl h)), by cases hb : es.any (badEd a c) with | true => exact absurd (.inr (.inr hb)) h2 | false => rfl⟩
      obtain ⟨k1, k2, k3⟩ := h2'
      rw [if_neg h2, if_neg (by rw [k3]; simp; omega)]
      refine ⟨fun h => absurd rfl h, fun _ => ⟨?_, by omega⟩⟩
      rw [colF_refC es fun e he => ?_]
      have := List.any_eq_false.1 k3 e he
      unfold badEd at this
      rw [decide_eq_true_eq] at this
      omega

theorem ok4 : p4.OK Tryd.prog := p4.ok (fun _ => cx [p26.ci, p27.ci, p25.ci, p30.ci, n29.ci, p28.ci] []) (fun _ => cx_ok (cs := [p26.ci, p27.ci, p25.ci, p30.ci, n29.ci, p28.ci]) ⟨PC.OK.ci ok26, PC.OK.ci ok27, PC.OK.ci ok25, PC.OK.ci ok30, ok29.ci, PC.OK.ci ok28, trivial⟩ _) (fn := Tryd.f4) rfl (by decide +kernel) rfl fun (p : Int × Int × List Ed) _ => by
  obtain ⟨a, c, es⟩ := p
  refine (g4_eq a c es).mpr ?_
  simp only [pp1, eq_self, and_true, true_and, and_self, Int.toNat_natCast, List.drop_zero]
  have hq : (es.take (min (es.length : Int) 13).toNat).length ≤ 13 := by rw [List.length_take]; omega
  have hm : (0 : Int) ≤ (0 : Nat) ∧ (0 : Int) ≤ min (es.length : Int) 13 ∧ min (es.length : Int) 13 ≤ es.length := by omega
  generalize es.take (min (es.length : Int) 13).toNat = q at hq ⊢
  obtain ⟨h1, h2⟩ := colors_graph a c q
  have hd : 0 ≤ degR q 6 ∧ degR q 6 ≤ 1000 := ⟨((degR_le q _ 6).1 (Int.le_refl _)).1, (degR_le q 1000 6).2 ⟨by omega, fun v _ => by have := cntA_le q v; have := cntB_le q v; omega⟩⟩
  refine ⟨by omega, by unfold Small; omega, by omega, by omega, fun hg => ?_, fun hg => ?_⟩
  · have hg : graphF a c q ≠ 0 := hg
    rw [h1 hg]
    exact ⟨fun _ => ⟨fun _ => rfl, fun h => absurd rfl h⟩, fun h => absurd rfl h⟩
  · have hg : graphF a c q = 0 := Classical.not_not.1 hg
    obtain ⟨e1, e2⟩ := h2 hg
    rw [e1]
    refine ⟨by omega, ⟨⟨by omega, by omega⟩, by omega, by omega⟩, fun h3 => ?_, fun ys h3 => ?_⟩
    · rw [h3]
      exact ⟨⟨by simp, by omega⟩, fun _ => ⟨fun _ => rfl, fun h => absurd rfl h⟩, fun h => by simp at h⟩
    · rw [h3]
      have hl := refG_length _ _ _ _ _ h3
      simp at hl
      refine ⟨⟨?_, by omega⟩, fun _ => ⟨fun _ => rfl, fun h => absurd rfl h⟩, fun h => by simp at h⟩
      show ys.length ≤ 1000
      omega
end Go.SX.Pa

/- Chapter 06 in plain words, part K: every bipartite multigraph of degree at most d has a colouring of its edges with d numbers (Konig), by Kempe's chains. -/
namespace Go.SX.Pa

/-- A list shorter than d lacks a number below d. -/
theorem lacks (d : Nat) (l : List Nat) (h : l.length < d) : ∃ x, x < d ∧ x ∉ l := by
  refine Classical.byContradiction fun hno => ?_
  have hall : ∀ x ∈ List.range d, x ∈ l := fun x hx => Classical.byContradiction fun hn => hno ⟨x, List.mem_range.1 hx, hn⟩
  have key : ∀ (a b : List Nat), a.Nodup → (∀ x ∈ a, x ∈ b) → a.length ≤ b.length := by
    intro a
    induction a with
    | nil => intro b _ _; simp
    | cons x a ih =>
      intro b hn hs
      have hx := hs x (by simp)
      have h1 := ih (b.erase x) (List.nodup_cons.1 hn).2 (fun y hy => by
        refine (List.mem_erase_of_ne ?_).2 (hs y (by simp [hy]))
        rintro rfl
        exact (List.nodup_cons.1 hn).1 hy)
      rw [List.length_erase_of_mem hx] at h1
      have : 0 < b.length := List.length_pos_of_mem hx
      simp only [List.length_cons]
      omega
  have := key _ _ List.nodup_range hall
  rw [List.length_range] at this
  omega

section
variable (a b : Nat → Int)
/-- The colours c of the first k edges are proper. -/
def PropN (c : Nat → Nat) (k : Nat) : Prop := ∀ i j, i < k → j < k → i ≠ j → c i = c j → a i ≠ a j ∧ b i ≠ b j

variable (c : Nat → Nat) (k α β : Nat) (v : Int)
/-- The chain: (true, y): a second vertex; (false, x): a first one. -/
inductive Chain : Bool → Int → Prop
  | start : Chain true v
  | back (i : Nat) : i < k → c i = α → Chain true (b i) → Chain false (a i)
  | forth (i : Nat) : i < k → c i = β → Chain false (a i) → Chain true (b i)

open Classical in
noncomputable def swapped (i : Nat) : Nat := if c i = α ∧ Chain a b c k α β v true (b i) then β else if c i = β ∧ Chain a b c k α β v false (a i) then α else c i

variable {a b c k α β v}
theorem chain_first (h : PropN a b c k) {i : Nat} (hi : i < k) (hc : c i = α) : Chain a b c k α β v false (a i) ↔ Chain a b c k α β v true (b i) := by
  constructor
  · intro hch
    generalize hx : a i = x at hch
    cases hch with
    | back j hj hcj hb =>
      by_cases e : i = j
      · subst e; exact hb
      · exact absurd hx (h i j hi hj e (hc.trans hcj.symm)).1
  · exact fun hch => .back i hi hc hch
theorem chain_second (h : PropN a b c k) (hv : ∀ j, j < k → c j = β → b j ≠ v) {i : Nat} (hi : i < k) (hc : c i = β) : Chain a b c k α β v true (b i) ↔ Chain a b c k α β v false (a i) := by
  constructor
  · intro hch
    generalize hx : b i = x at hch
    cases hch with
    | start => exact absurd hx (hv i hi hc)
    | forth j hj hcj hb =>
      by_cases e : i = j
      · subst e; exact hb
      · exact absurd hx (h i j hi hj e (hc.trans hcj.symm)).2
  · exact fun hch => .forth i hi hc hch

open Classical in
theorem swap_ne {α β x y : Nat} {Tx Fx Ty Fy S : Prop} (hab : α ≠ β) (hne : x ≠ y) (h1 : x = α → (Tx ↔ S)) (h2 : x = β → (Fx ↔ S)) (h3 : y = α → (Ty ↔ S)) (h4 : y = β → (Fy ↔ S)) :
    (if x = α ∧ Tx then β else if x = β ∧ Fx then α else x) ≠ (if y = α ∧ Ty then β else if y = β ∧ Fy then α else y) := by
  have e1 : (x = α ∧ Tx) = (x = α ∧ S) := propext (and_congr_right h1)
  have e2 : (x = β ∧ Fx) = (x = β ∧ S) := propext (and_congr_right h2)
  have e3 : (y = α ∧ Ty) = (y = α ∧ S) := propext (and_congr_right h3)
  have e4 : (y = β ∧ Fy) = (y = β ∧ S) := propext (and_congr_right h4)
  simp only [e1, e2, e3, e4]
  by_cases hS : S
  · simp only [hS, and_true]
    split <;> split <;> (try split) <;> (try split) <;> omega
  · simp only [hS, and_false, if_false]
    exact hne
theorem swapped_proper (h : PropN a b c k) (hab : α ≠ β) (hv : ∀ j, j < k → c j = β → b j ≠ v) : PropN a b (swapped a b c k α β v) k := by
  -- the swap looks at one vertex only
  have key : ∀ i, i < k → ∀ j, j < k → i ≠ j → (a i = a j ∨ b i = b j) → swapped a b c k α β v i ≠ swapped a b c k α β v j := by
    intro i hi j hj hij hs
    have hne : c i ≠ c j := fun e => by
      have := h i j hi hj hij e
      rcases hs with h1 | h1
      · exact this.1 h1
      · exact this.2 h1
    have f1 := fun (hc : c i = α) => chain_first (α := α) (β := β) (v := v) h hi hc
    have f2 := fun (hc : c j = α) => chain_first (α := α) (β := β) (v := v) h hj hc
    have s1 := fun (hc : c i = β) => chain_second (α := α) h hv hi hc
    have s2 := fun (hc : c j = β) => chain_second (α := α) h hv hj hc
    unfold swapped
    rcases hs with h1 | h1
    · refine swap_ne (S := Chain a b c k α β v false (a i)) hab hne (fun e => (f1 e).symm) (fun e => Iff.rfl) (fun e => ?_) (fun e => ?_)
      · rw [h1]; exact (f2 e).symm
      · rw [h1]
    · refine swap_ne (S := Chain a b c k α β v true (b i)) hab hne (fun e => Iff.rfl) (fun e => (s1 e).symm) (fun e => ?_) (fun e => ?_)
      · rw [h1]
      · rw [h1]; exact (s2 e).symm
  intro i j hi hj hij hc
  exact ⟨fun e => key i hi j hj hij (.inl e) hc, fun e => key i hi j hj hij (.inr e) hc⟩

theorem swapped_lt {d : Nat} (hα : α < d) (hβ : β < d) {i : Nat} (h : c i < d) : swapped a b c k α β v i < d := by
  unfold swapped
  split
  · exact hβ
  · split
    · exact hα
    · exact h
end

/-- The degree in the first k edges. -/
def cntN (a : Nat → Int) (v : Int) (k : Nat) : Nat := (List.range k).countP fun i => decide (a i = v)
theorem cntN_succ (a : Nat → Int) (v : Int) (k : Nat) : cntN a v (k + 1) = cntN a v k + if a k = v then 1 else 0 := by
  unfold cntN
  rw [List.range_succ, List.countP_append]
  by_cases h : a k = v <;> simp [h]
theorem free_at (a : Nat → Int) (c : Nat → Nat) (v : Int) (k d : Nat) (h : cntN a v k < d) : ∃ x, x < d ∧ ∀ i, i < k → a i = v → c i ≠ x := by
  obtain ⟨x, h1, h2⟩ := lacks d (((List.range k).filter fun i => decide (a i = v)).map c) (by rw [List.length_map, ← List.countP_eq_length_filter]; exact h)
  refine ⟨x, h1, fun i hi hv he => h2 ?_⟩
  rw [List.mem_map]
  exact ⟨i, List.mem_filter.2 ⟨List.mem_range.2 hi, by simpa using hv⟩, he⟩

theorem konig (a b : Nat → Int) (d : Nat) : (n : Nat) → (∀ v, cntN a v n ≤ d) → (∀ v, cntN b v n ≤ d) → ∃ c : Nat → Nat, (∀ i, i < n → c i < d) ∧ PropN a b c n
  | 0, _, _ => ⟨fun _ => 0, fun i h => absurd h (Nat.not_lt_zero _), fun i _ h => absurd h (Nat.not_lt_zero _)⟩
  | n + 1, ha, hb => by
    have la : ∀ v, cntN a v n ≤ d := fun v => by have := ha v; rw [cntN_succ] at this; omega
    have lb : ∀ v, cntN b v n ≤ d := fun v => by have := hb v; rw [cntN_succ] at this; omega
    obtain ⟨c, hc, hp⟩ := konig a b d n la lb
    have ua : cntN a (a n) n < d := by have := ha (a n); rw [cntN_succ, if_pos rfl] at this; omega
    have ub : cntN b (b n) n < d := by have := hb (b n); rw [cntN_succ, if_pos rfl] at this; omega
    obtain ⟨α, hα, fα⟩ := free_at a c (a n) n d ua
    obtain ⟨β, hβ, fβ⟩ := free_at b c (b n) n d ub
    -- it suffices to colour the first n edges so that some colour is free at both ends
    have fin : ∀ (c' : Nat → Nat) (x : Nat), x < d → (∀ i, i < n → c' i < d) → PropN a b c' n → (∀ i, i < n → a i = a n → c' i ≠ x) → (∀ i, i < n → b i = b n → c' i ≠ x) →
        ∃ c : Nat → Nat, (∀ i, i < n + 1 → c i < d) ∧ PropN a b c (n + 1) := by
      intro c' x hx h1 h2 h3 h4
      refine ⟨fun i => if i = n then x else c' i, fun i hi => ?_, fun i j hi hj hij he => ?_⟩
      · simp only
        split
        · exact hx
        · exact h1 i (by omega)
      · simp only at he
        by_cases e1 : i = n
        · have e2 : j ≠ n := fun e => hij (e1.trans e.symm)
          rw [if_pos e1, if_neg e2] at he
          subst e1
          exact ⟨fun e => h3 j (by omega) e.symm he.symm, fun e => h4 j (by omega) e.symm he.symm⟩
        · rw [if_neg e1] at he
          by_cases e2 : j = n
          · rw [if_pos e2] at he
            subst e2
            exact ⟨fun e => h3 i (by omega) e he, fun e => h4 i (by omega) e he⟩
          · rw [if_neg e2] at he
            exact h2 i j (by omega) (by omega) hij he
    by_cases hab : α = β
    · subst hab
      exact fin c α hα hc hp (fun i hi e => fα i hi e) (fun i hi e => fβ i hi e)
    · have hv : ∀ j, j < n → c j = β → b j ≠ b n := fun j hj hcj e => fβ j hj e hcj
      refine fin (swapped a b c n α β (b n)) α hα (fun i hi => swapped_lt hα hβ (hc i hi)) (swapped_proper hp hab hv) (fun i hi e => ?_) (fun i hi e => ?_)
      · -- the first end is not on the chain
        have hno : ¬ Chain a b c n α β (b n) false (a n) := by
          intro hch
          generalize hx : a n = x at hch
          cases hch with
          | back j hj hcj _ => exact fα j hj hx.symm hcj
        unfold swapped
        have hci := fα i hi e
        rw [if_neg (fun h => hci h.1), e, if_neg (fun h => hno h.2)]
        exact hci
      · -- the second end begins the chain
        have hyes : Chain a b c n α β (b n) true (b i) := by rw [e]; exact .start
        unfold swapped
        by_cases h1 : c i = α
        · rw [if_pos ⟨h1, hyes⟩]; exact Ne.symm hab
        · rw [if_neg (fun h => h1 h.1), if_neg (fun h => hv i hi h.1 e)]
          exact h1
end Go.SX.Pa

/- Chapter 06 in plain words, part L: the search finds a colouring if there is one; with as many numbers as the degree says there is one. -/
namespace Go.SX.Pa

/-- A proper colouring with the numbers below m. -/
def GoodC (es : List Ed) (m : Int) (l : List Int) : Prop := l.length = es.length ∧ (∀ x ∈ l, 0 ≤ x ∧ x < m) ∧ ∀ i, i < l.length → clashF es l i = false

theorem clash_iff {es : List Ed} {l : List Int} {i : Nat} : clashF es l i = false ↔ ∀ j, j < i → touch es l i j = false := by
  unfold clashF
  rw [List.any_eq_false]
  constructor
  · intro h j hj
    have := h j (List.mem_range.2 hj)
    simpa using this
  · intro h j hj
    rw [h j (List.mem_range.1 hj)]
    decide
theorem touch_pre (es : List Ed) {l l' : List Int} {i j n : Nat} (h : ∀ k, k < n → l.getD k 0 = l'.getD k 0) (hi : i < n) (hj : j < n) : touch es l i j = touch es l' i j := by
  unfold touch; rw [h i hi, h j hj]
theorem clash_pre (es : List Ed) {l l' : List Int} {i n : Nat} (h : ∀ k, k < n → l.getD k 0 = l'.getD k 0) (hi : i < n) : clashF es l i = clashF es l' i := by
  apply Bool.eq_iff_iff.2
  unfold clashF
  rw [List.any_eq_true, List.any_eq_true]
  constructor
  · rintro ⟨j, hj, hc⟩; exact ⟨j, hj, by rw [← touch_pre es h hi (by have := List.mem_range.1 hj; omega)]; exact hc⟩
  · rintro ⟨j, hj, hc⟩; exact ⟨j, hj, by rw [touch_pre es h hi (by have := List.mem_range.1 hj; omega)]; exact hc⟩

/-- What the search returns. -/
theorem extF_good (es : List Ed) (m : Nat) : (f : Nat) → (out l : List Int) → extF es m f out = some l → (∀ x ∈ out, 0 ≤ x ∧ x < (m : Int)) → (∀ i, i < out.length → clashF es out i = false) →
    (∀ x ∈ l, 0 ≤ x ∧ x < (m : Int)) ∧ ∀ i, i < l.length → clashF es l i = false
  | 0, out, l, h, h1, h2 => by
    simp [extF] at h; subst h; exact ⟨h1, h2⟩
  | f + 1, out, l, h, h1, h2 => by
    unfold extF at h
    obtain ⟨c, hc1, hc⟩ := List.exists_of_findSome?_eq_some h
    split at hc
    · cases hc
    · rename_i hcl
      have hcm := List.mem_range.1 hc1
      refine extF_good es m f _ _ hc (fun x hx => ?_) (fun i hi => ?_)
      · rcases List.mem_append.1 hx with h3 | h3
        · exact h1 x h3
        · simp at h3; omega
      · simp at hi
        by_cases e : i = out.length
        · subst e; simpa using hcl
        · rw [← clash_pre es (l := out) (n := out.length) (fun k hk => by simp [List.getD, List.getElem?_append_left hk]) (by omega)]
          exact h2 i (by omega)

/-- The search does not miss a colouring. -/
theorem extF_some (es : List Ed) (m : Nat) (l : List Int) (hm : ∀ x ∈ l, 0 ≤ x ∧ x < (m : Int)) (hc : ∀ i, i < l.length → clashF es l i = false) : (f k : Nat) → k + f = l.length → extF es m f (l.take k) ≠ none
  | 0, k, _, h => by simp [extF] at h
  | f + 1, k, hk, h => by
    unfold extF at h
    have hkl : k < l.length := by omega
    have hlen : (l.take k).length = k := by simp; omega
    have hx := hm _ (getD_mem l 0 hkl)
    obtain ⟨c, hcx⟩ : ∃ c : Nat, l.getD k 0 = (c : Int) := ⟨(l.getD k 0).toNat, by omega⟩
    have hsn : l.take k ++ [(c : Int)] = l.take (k + 1) := by rw [take_snoc l 0 k hkl, hcx]
    have h1 := List.findSome?_eq_none_iff.1 h c (List.mem_range.2 (by omega))
    rw [hsn, hlen] at h1
    have hcl : clashF es (l.take (k + 1)) k = false := by
      rw [clash_pre es (l' := l) (n := k + 1) (fun j hj => getD_take l 0 hj) (by omega)]
      exact hc k hkl
    rw [hcl] at h1
    exact extF_some es m l hm hc f (k + 1) (by omega) (by simpa using h1)

/-! ### The greatest degree -/
theorem countP_range {α : Type} (l : List α) (d : α) (p : α → Bool) (k : Nat) (h : k ≤ l.length) : (List.range k).countP (fun i => p (l.getD i d)) = (l.take k).countP p := by
  induction k with
  | zero => simp
  | succ k ih =>
    rw [List.range_succ, take_snoc l d k (by omega), List.countP_append, List.countP_append, ih (by omega)]
    simp [List.countP_cons]
def endA (es : List Ed) (i : Nat) : Int := (es.getD i (0, 0)).1
def endB (es : List Ed) (i : Nat) : Int := (es.getD i (0, 0)).2
theorem cntN_endA (es : List Ed) (v : Int) {k : Nat} (h : k ≤ es.length) : cntN (endA es) v k = (es.take k).countP fun e => decide (e.1 = v) := countP_range es (0, 0) (fun e => decide (e.1 = v)) k h
theorem cntN_endB (es : List Ed) (v : Int) {k : Nat} (h : k ≤ es.length) : cntN (endB es) v k = (es.take k).countP fun e => decide (e.2 = v) := countP_range es (0, 0) (fun e => decide (e.2 = v)) k h
theorem degTo_cnt (es : List Ed) {k : Nat} (h : k < es.length) : (degTo es (k + 1)).2.2 = max (max (degTo es k).2.2 (cntN (endA es) (endA es k) (k + 1))) (cntN (endB es) (endB es k) (k + 1)) := by
  have la := (degTo_look es (endA es k) (k + 1) h).1
  have lb := (degTo_look es (endB es k) (k + 1) h).2
  rw [cntN_endA es _ h, cntN_endB es _ h, ← la, ← lb, degTo_succ es k h]
  rfl
/-- It is at least each degree, and one of them. -/
theorem degTo_ge (es : List Ed) : (k : Nat) → k ≤ es.length → ∀ v, (cntN (endA es) v k : Int) ≤ (degTo es k).2.2 ∧ (cntN (endB es) v k : Int) ≤ (degTo es k).2.2
  | 0, _, v => by simp [cntN, degTo]
  | k + 1, h, v => by
    obtain ⟨h1, h2⟩ := degTo_ge es k (by omega) v
    rw [degTo_cnt es (by omega)]
    refine ⟨?_, ?_⟩
    · by_cases e : endA es k = v
      · subst e; omega
      · rw [cntN_succ, if_neg e]; omega
    · by_cases e : endB es k = v
      · subst e; omega
      · rw [cntN_succ, if_neg e]; omega
theorem degTo_at (es : List Ed) : (k : Nat) → k ≤ es.length → (degTo es k).2.2 = 0 ∨ (∃ v j, j ≤ k ∧ (cntN (endA es) v j : Int) = (degTo es k).2.2) ∨ ∃ v j, j ≤ k ∧ (cntN (endB es) v j : Int) = (degTo es k).2.2
  | 0, _ => .inl rfl
  | k + 1, h => by
    have ih := degTo_at es k (by omega)
    rw [degTo_cnt es (by omega)]
    by_cases h1 : (cntN (endB es) (endB es k) (k + 1) : Int) ≤ (degTo es k).2.2 ∧ (cntN (endA es) (endA es k) (k + 1) : Int) ≤ (degTo es k).2.2
    · have e : max (max (degTo es k).2.2 (cntN (endA es) (endA es k) (k + 1))) (cntN (endB es) (endB es k) (k + 1)) = (degTo es k).2.2 := by omega
      rw [e]
      rcases ih with h2 | ⟨v, j, hj, h2⟩ | ⟨v, j, hj, h2⟩
      · exact .inl h2
      · exact .inr (.inl ⟨v, j, by omega, h2⟩)
      · exact .inr (.inr ⟨v, j, by omega, h2⟩)
    · by_cases h2 : (cntN (endB es) (endB es k) (k + 1) : Int) ≤ cntN (endA es) (endA es k) (k + 1)
      · exact .inr (.inl ⟨endA es k, k + 1, Nat.le_refl _, by omega⟩)
      · exact .inr (.inr ⟨endB es k, k + 1, Nat.le_refl _, by omega⟩)

/-! ### With as many numbers as the degree there is a colouring -/
theorem colF_some {es : List Ed} {m : Int} (h : degF es ≤ m) : ∃ l, colF es m = some l := by
  have h0 := degF_bound es
  have hg := degTo_ge es es.length (Nat.le_refl _)
  have hd : (degTo es es.length).2.2 = degF es := rfl
  rw [hd] at hg
  obtain ⟨c, hc, hp⟩ := konig (endA es) (endB es) m.toNat es.length (fun v => by have := (hg v).1; omega) (fun v => by have := (hg v).2; omega)
  let l : List Int := (List.range es.length).map fun i => (c i : Int)
  have hl : l.length = es.length := by simp [l]
  have hget : ∀ i, i < es.length → l.getD i 0 = (c i : Int) := fun i hi => by simp [l, List.getD, hi]
  have h1 : ∀ x ∈ l, 0 ≤ x ∧ x < (m.toNat : Int) := fun x hx => by
    obtain ⟨i, hi, rfl⟩ := List.mem_map.1 hx
    have := hc i (List.mem_range.1 hi)
    omega
  have h2 : ∀ i, i < l.length → clashF es l i = false := fun i hi => clash_iff.2 fun j hj => by
    unfold touch
    rw [hget i (by omega), hget j (by omega), decide_eq_false_iff_not]
    rintro ⟨h3, h4⟩
    have := hp j i (by omega) (by omega) (by omega) (by omega)
    unfold endA endB at this
    rcases h4 with h4 | h4
    · exact this.1 h4
    · exact this.2 h4
  have h3 := extF_some es m.toNat l h1 h2 es.length 0 (by omega)
  unfold colF
  rw [if_pos h]
  unfold extR
  rw [List.take_zero] at h3
  cases he : extF es m.toNat (es.length - ([] : List Int).length) [] with
  | none => exact absurd he h3
  | some l => exact ⟨l, rfl⟩

/-- What is found is one. -/
theorem colF_good {es : List Ed} {m : Int} {l : List Int} (hm : 0 ≤ m) (h : colF es m = some l) : GoodC es m l := by
  have hl := colF_length h
  unfold colF at h
  split at h
  · obtain ⟨h1, h2⟩ := extF_good es m.toNat _ [] l h (fun x hx => by cases hx) (fun i hi => by simp at hi)
    exact ⟨hl, fun x hx => by have := h1 x hx; omega, h2⟩
  · cases h

/-! ### As many numbers are used as the degree says -/
def seenF (l : List Int) : List Int := l.foldl (fun s x => if x ∈ s then s else s ++ [x]) []
theorem seenF_succ (l : List Int) (k : Nat) (h : k < l.length) : seenF (l.take (k + 1)) = if l.getD k 0 ∈ seenF (l.take k) then seenF (l.take k) else seenF (l.take k) ++ [l.getD k 0] := by
  unfold seenF; rw [take_snoc l 0 k h, List.foldl_append]; rfl
theorem seen_take (l : List Int) : (k : Nat) → k ≤ l.length → (∀ x, x ∈ seenF (l.take k) ↔ x ∈ l.take k) ∧ (seenF (l.take k)).Nodup
  | 0, _ => by simp [seenF]
  | k + 1, h => by
    obtain ⟨h1, h2⟩ := seen_take l k (by omega)
    rw [seenF_succ l k (by omega)]
    split
    · rename_i h3
      refine ⟨fun x => ?_, h2⟩
      rw [h1, take_mem l 0 x k (by omega)]
      constructor
      · exact .inl
      · rintro (h4 | h4)
        · exact h4
        · rw [h4]; exact (h1 _).1 h3
    · rename_i h3
      refine ⟨fun x => ?_, nodup_snoc h2 h3⟩
      rw [List.mem_append, List.mem_singleton, h1, take_mem l 0 x k (by omega)]
theorem mem_seen (l : List Int) (x : Int) : x ∈ seenF l ↔ x ∈ l := by
  have := (seen_take l l.length (Nat.le_refl _)).1 x
  rwa [List.take_length] at this
theorem seen_nodup (l : List Int) : (seenF l).Nodup := by
  have := (seen_take l l.length (Nat.le_refl _)).2
  rwa [List.take_length] at this
theorem seenF_length (l : List Int) : (seenF l).length ≤ l.length := List.Nodup.length_le_of_subset (seen_nodup l) fun x hx => (mem_seen l x).1 hx
/-- The edges at a vertex have numbers of their own. -/
theorem seen_at {es : List Ed} {l : List Int} (hl : l.length = es.length) (h : ∀ i, i < l.length → clashF es l i = false) (a : Nat → Int) (ha : a = endA es ∨ a = endB es) (v : Int) {k : Nat} (hk : k ≤ es.length) : cntN a v k ≤ (seenF l).length := by
  have key : ∀ i j, i < k → j < k → i ≠ j → a i = v → a j = v → l.getD i 0 ≠ l.getD j 0 := by
    have half : ∀ i j, i < k → j < i → a i = v → a j = v → l.getD i 0 ≠ l.getD j 0 := by
      intro i j hi hj h1 h2 he
      have := clash_iff.1 (h i (by omega)) j hj
      unfold touch at this
      rw [decide_eq_false_iff_not] at this
      refine this ⟨he.symm, ?_⟩
      rcases ha with e | e <;> subst e
      · exact .inl (h2.trans h1.symm)
      · exact .inr (h2.trans h1.symm)
    intro i j hi hj hij h1 h2 he
    rcases Nat.lt_or_gt_of_ne hij with h3 | h3
    · exact half j i hj h3 h2 h1 he.symm
    · exact half i j hi h3 h1 h2 he
  have hn : (((List.range k).filter fun i => decide (a i = v)).map fun i => l.getD i 0).Nodup := by
    refine List.pairwise_map.2 (List.Pairwise.imp_of_mem ?_ (List.nodup_range.filter _))
    intro i j hi hj hij
    obtain ⟨i1, i2⟩ := List.mem_filter.1 hi
    obtain ⟨j1, j2⟩ := List.mem_filter.1 hj
    exact key i j (List.mem_range.1 i1) (List.mem_range.1 j1) hij (by simpa using i2) (by simpa using j2)
  have := List.Nodup.length_le_of_subset hn (l₂ := seenF l) fun x hx => by
    obtain ⟨i, hi, rfl⟩ := List.mem_map.1 hx
    rw [mem_seen]
    have := List.mem_range.1 (List.mem_filter.1 hi).1
    exact getD_mem l 0 (by omega)
  rw [List.length_map, ← List.countP_eq_length_filter] at this
  exact this
theorem seen_deg {es : List Ed} {l : List Int} (h : colF es (degF es) = some l) : ((seenF l).length : Int) = degF es := by
  have h0 := degF_bound es
  obtain ⟨h1, h2, h3⟩ := colF_good h0.1 h
  have hle : (seenF l).length ≤ (degF es).toNat := by
    have hn := seen_nodup l
    have := List.Nodup.length_le_of_subset hn (l₂ := (List.range (degF es).toNat).map fun i : Nat => (i : Int)) fun x hx => by
      have := h2 x ((mem_seen l x).1 hx)
      exact List.mem_map.2 ⟨x.toNat, List.mem_range.2 (by omega), by omega⟩
    simpa using this
  rcases degTo_at es es.length (Nat.le_refl _) with h4 | ⟨v, j, hj, h4⟩ | ⟨v, j, hj, h4⟩
  · have h5 : degF es = 0 := h4
    omega
  · have h5 := seen_at h1 h3 (endA es) (.inl rfl) v hj
    have h6 : (cntN (endA es) v j : Int) = degF es := h4
    omega
  · have h5 := seen_at h1 h3 (endB es) (.inr rfl) v hj
    have h6 : (cntN (endB es) v j : Int) = degF es := h4
    omega
end Go.SX.Pa

/- Chapter 06, part 13: the laws' makers of inputs; the laws PatchCount, PatchKonig, PatchEdges. -/
namespace Go.SX.Pa
open Go Go.Proofs
noncomputable section
@[reducible] def p33 : PC := ⟨33, [aB2s], [aEds], fun x => x.length ≤ maxLen ∧ ∀ p ∈ x, Byte2 p, graphX⟩
@[reducible] def A33 (x : List Ed) : Ann where
  τ := Nat
  pre := []
  preC := []
  keep := [0]
  slots k := [(4, .c (.int .i64 k)), (3, .c (.own 0 1))]
  ents k := [(0, .row 58 tEd 0 (graphTo x k))]
  ok k := k ≤ x.length ∧ k ≤ 12
  m k := 12 - k
@[reducible] def C33 (x : List Ed) : Ctx := cx [] [(0, fun _ => A33 x)]
def g33 (x : List Ed) : Prop := p33.VC (C33 x) Tryd.f33 x
@[reducible] def p36 : PC := ⟨36, [aIs, aI, aI], [aB], fun p => p.1.length ≤ 1000 ∧ -1000 ≤ p.2.2 ∧ p.2.2 ≤ 1000, fun p => decide ((∀ x ∈ p.1, 0 ≤ x ∧ x < p.2.2) ∧ (p.1.length : Int) = p.2.1)⟩
@[reducible] def C36 (p : List Int × Int × Int) : Ctx := cx [p21.ci] [(0, fun _ => upTo p.1.length 7 [0, 1, 2] fun k => ∀ x ∈ p.1.take k, 0 ≤ x ∧ x < p.2.2)]
def g36 (l : List Int) (n r : Int) : Prop := p36.VC (C36 (l, n, r)) Tryd.f36 (l, n, r)
@[reducible] def p37 : PC := ⟨37, [aB3], [aI, aI, aI], Byte3, netF⟩
def g37 (x : Int × Int × Int) : Prop := p37.VC (cx [] []) Tryd.f37 x

@[reducible] def p6 : PC := ⟨6, [aB2s], [aB], fun x => x.length ≤ maxLen ∧ ∀ p ∈ x, Byte2 p, fun _ => true⟩
@[reducible] def A6 (c : List Int) : Ann where
  τ := Nat
  pre := []
  preC := []
  keep := [3, 4, 5]
  slots k := [(7, .c (.int .i64 k)), (6, .c (.own 0 1))]
  ents k := [(0, .row 3 (.int .i64) 0 (seenF (c.take k)))]
  ok k := k ≤ c.length
  m k := c.length - k
@[reducible] def C6 (x : List Ed) : Ctx := cx [p33.ci, p26.ci, p34.ci, p35.ci, p30.ci, p36.ci, p25.ci] [(0, fun _ => A6 (colorsF 6 6 (graphX x)).1)]
def g6 (x : List Ed) : Prop := p6.VC (C6 x) Tryd.f6 x

@[reducible] def p7 : PC := ⟨7, [aB3, aBs], [aB], fun p => Byte3 p.1 ∧ Bytes p.2, fun _ => true⟩
@[reducible] def A7 (n r : Int) (perm : List Int) : Ann where
  τ := Nat
  pre := []
  preC := []
  keep := [5, 6, 8]
  slots k := [(10, .c (.int .i64 k)), (9, .c (.own 1 1))]
  ents k := [(1, .row 58 tEd 0 (edgesTo n perm k))]
  ok k := k ≤ n * r
  m k := (n * r).toNat - k
@[reducible] def C7 (p : (Int × Int × Int) × List Int) : Ctx := cx [p37.ci, p25.ci, p31.ci, p38.ci, p26.ci, p28.ci, p35.ci] [(0, fun _ => A7 (netF p.1).1 (netF p.1).2.1 (nthTo p.2 ((netF p.1).1 * (netF p.1).2.1).toNat))]
def g7 (x : Int × Int × Int) (code : List Int) : Prop := p7.VC (C7 (x, code)) Tryd.f7 (x, code)

@[reducible] def p5 : PC := ⟨5, [aU], [aB], fun x => 0 ≤ x ∧ x ≤ 255, fun _ => true⟩
def kOf (x : Int) : Nat := (x % 2 + 1).toNat
@[reducible] def A5a (K : Nat) : Ann where
  τ := Nat
  pre := []
  preC := []
  keep := [4]
  slots i := [(3, .c (.int .i64 K)), (6, .c (.int .i64 i)), (5, .c (.int .i64 (facN (i - 1))))]
  ents _ := []
  ok i := 2 ≤ i ∧ i ≤ 2 ^ K + 1
  m i := 2 ^ K + 1 - i
@[reducible] def A5b (K : Nat) : Ann where
  τ := Nat
  pre := []
  preC := []
  keep := [3]
  slots p := [(7, .c (.int .i64 p)), (4, .c (.int .i64 (sumTo K p))), (5, .c (.int .i64 (facN (2 ^ K))))]
  ents _ := []
  ok p := p ≤ facN (2 ^ K)
  m p := facN (2 ^ K) - p
@[reducible] def A5c (K : Nat) (p : Nat) : Ann where
  τ := Nat
  pre := []
  preC := []
  keep := [3, 4, 5, 7]
  slots i := [(10, .c (.int .i64 i)), (9, .c (.int .i64 (codeTo p i).2)), (8, .c (.own 0 1))]
  ents i := [(0, .row 5 (.int .u8) 0 (codeTo p i).1)]
  ok i := i ≤ 2 ^ K
  m i := 2 ^ K - i
@[reducible] def C5 (x : Int) : Ctx := cx [p31.ci, p18.ci, p19.ci, p32.ci, p25.ci] [(0, fun _ => A5a (kOf x)), (1, fun _ => A5b (kOf x)), (2, withI 7 fun p => A5c (kOf x) p.toNat)]
def g5 (x : Int) : Prop := p5.VC (C5 x) Tryd.f5 x
end
end Go.SX.Pa

/- Printed by VC.lean: what the executor asks. -/
namespace Go.SX.Pa
open Go Go.Proofs
theorem g33_eq (x : List Ed) : g33 x = (
 (∃ (x0 : Nat), (x0 ≤ x.length ∧ x0 ≤ (12 : Nat)) ∧ ([] = graphTo x x0 ∧ True) ∧ (0 : Int) = (↑x0 : Int) ∧ True ∧ x = x ∧ True) ∧
 ∀ (x_1 : Nat),
 x_1 ≤ x.length ∧ x_1 ≤ (12 : Nat) →
 ((↑x_1 : Int) < (↑x.length : Int) →
 (↑x_1 : Int) < (↑x.length : Int) ∧
 (↑x_1 : Int) < (↑x.length : Int) ∧
 ((↑x_1 : Int) < (12 : Int) →
 (↑x_1 : Int) < (12 : Int) ∧
 (↑x_1 : Int) < (12 : Int) ∧
 ((0 : Int) ≤ (↑x_1 : Int) ∧ (↑x_1 : Int) < (↑x.length : Int)) ∧
 Fits IntKind.i64 (x.getD (↑x_1 : Int).toNat ((0 : Int), (0 : Int))).fst ∧
 ((0 : Int) ≤ (x.getD (↑x_1 : Int).toNat ((0 : Int), (0 : Int))).fst ∧ (0 : Int) < (6 : Int)) ∧
 ((0 : Int) ≤ (↑x_1 : Int) ∧ (↑x_1 : Int) < (↑x.length : Int)) ∧
 Fits IntKind.i64 (x.getD (↑x_1 : Int).toNat ((0 : Int), (0 : Int))).snd ∧
 ((0 : Int) ≤ (x.getD (↑x_1 : Int).toNat ((0 : Int), (0 : Int))).snd ∧ (0 : Int) < (6 : Int)) ∧
 Small ((graphTo x x_1).length + ((0 : Nat) + (1 : Nat))) ∧
 Fits IntKind.i64 ((↑x_1 : Int) + (1 : Int)) ∧
 ∃ (x' : Nat),
 (x' ≤ x.length ∧ x' ≤ (12 : Nat)) ∧
 (12 : Nat) - x' < (12 : Nat) - x_1 ∧
 (graphTo x x_1 ++
 [((x.getD (↑x_1 : Int).toNat ((0 : Int), (0 : Int))).fst % (6 : Int),
 (x.getD (↑x_1 : Int).toNat ((0 : Int), (0 : Int))).snd % (6 : Int))] =
 graphTo x x' ∧
 True) ∧
 (↑x_1 : Int) + (1 : Int) = (↑x' : Int) ∧ True ∧ x = x ∧ True) ∧
 (¬(↑x_1 : Int) < (12 : Int) → ¬(↑x_1 : Int) < (12 : Int) ∧ ¬(↑x_1 : Int) < (12 : Int) ∧ graphTo x x_1 = graphX x)) ∧
 (¬(↑x_1 : Int) < (↑x.length : Int) → ¬(↑x_1 : Int) < (↑x.length : Int) ∧ ¬(↑x_1 : Int) < (↑x.length : Int) ∧ graphTo x x_1 = graphX x)) := by
 kernel_rfl

theorem g36_eq (l : List Int) (n : Int) (r : Int) : g36 l n r = (
 (∃ (x0 : Nat), (x0 ≤ l.length ∧ ∀ (x : Int), x ∈ List.take x0 l → (0 : Int) ≤ x ∧ x < r) ∧ True ∧ (0 : Int) = (↑x0 : Int) ∧ l = l ∧ n = n ∧ r = r ∧ True) ∧
 ∀ (x : Nat),
 (x ≤ l.length ∧ ∀ (x_1 : Int), x_1 ∈ List.take x l → (0 : Int) ≤ x_1 ∧ x_1 < r) →
 ((↑x : Int) < (↑l.length : Int) →
 (↑x : Int) < (↑l.length : Int) ∧
 ((0 : Int) ≤ (↑x : Int) ∧ (↑x : Int) < (↑l.length : Int)) ∧
 Fits IntKind.i64 (r - (1 : Int)) ∧
 True ∧
 ((!decide ((0 : Int) ≤ l.getD (↑x : Int).toNat (0 : Int) ∧ l.getD (↑x : Int).toNat (0 : Int) ≤ r - (1 : Int))) = true →
 (!decide ((0 : Int) ≤ l.getD (↑x : Int).toNat (0 : Int) ∧ l.getD (↑x : Int).toNat (0 : Int) ≤ r - (1 : Int))) = true ∧
 false = decide ((∀ (x : Int), x ∈ l → (0 : Int) ≤ x ∧ x < r) ∧ (↑l.length : Int) = n)) ∧
 ((!decide ((0 : Int) ≤ l.getD (↑x : Int).toNat (0 : Int) ∧ l.getD (↑x : Int).toNat (0 : Int) ≤ r - (1 : Int))) = false →
 (!decide ((0 : Int) ≤ l.getD (↑x : Int).toNat (0 : Int) ∧ l.getD (↑x : Int).toNat (0 : Int) ≤ r - (1 : Int))) = false ∧
 Fits IntKind.i64 ((↑x : Int) + (1 : Int)) ∧
 ∃ (x' : Nat),
 (x' ≤ l.length ∧ ∀ (x : Int), x ∈ List.take x' l → (0 : Int) ≤ x ∧ x < r) ∧
 l.length - x' < l.length - x ∧ True ∧ (↑x : Int) + (1 : Int) = (↑x' : Int) ∧ l = l ∧ n = n ∧ r = r ∧ True)) ∧
 (¬(↑x : Int) < (↑l.length : Int) →
 ¬(↑x : Int) < (↑l.length : Int) ∧ decide ((↑l.length : Int) = n) = decide ((∀ (x : Int), x ∈ l → (0 : Int) ≤ x ∧ x < r) ∧ (↑l.length : Int) = n))) := by
 kernel_rfl

theorem g37_eq (x : Int × Int × Int) : g37 x = (
 Fits IntKind.i64 x.fst ∧
 ((0 : Int) ≤ x.fst ∧ (0 : Int) < (12 : Int)) ∧
 Fits IntKind.i64 (x.fst % (12 : Int) + (1 : Int)) ∧
 Fits IntKind.i64 x.snd.fst ∧
 ((0 : Int) ≤ (12 : Int) ∧ (0 : Int) < x.fst % (12 : Int) + (1 : Int)) ∧
 Fits IntKind.i64 ((12 : Int) / (x.fst % (12 : Int) + (1 : Int))) ∧
 ((0 : Int) ≤ x.snd.fst ∧ (0 : Int) < (12 : Int) / (x.fst % (12 : Int) + (1 : Int))) ∧
 Fits IntKind.i64 (x.snd.fst % ((12 : Int) / (x.fst % (12 : Int) + (1 : Int))) + (1 : Int)) ∧
 Fits IntKind.i64 x.snd.snd ∧
 ((0 : Int) ≤ x.snd.snd ∧ (0 : Int) < (12 : Int)) ∧
 Fits IntKind.i64 (x.snd.snd % (12 : Int) + (1 : Int)) ∧
 (x.fst % (12 : Int) + (1 : Int), x.snd.fst % ((12 : Int) / (x.fst % (12 : Int) + (1 : Int))) + (1 : Int), x.snd.snd % (12 : Int) + (1 : Int)) = netF x) := by
 kernel_rfl

theorem g6_eq (x : List Ed) : g6 x = (
 (x.length ≤ maxLen ∧ ∀ (p : Int × Int), p ∈ x → ((0 : Int) ≤ p.fst ∧ p.fst ≤ (255 : Int)) ∧ (0 : Int) ≤ p.snd ∧ p.snd ≤ (255 : Int)) ∧
 (graphX x).length ≤ (1000 : Nat) ∧
 (∃ (x0 : Nat),
 x0 ≤ (colorsF (6 : Int) (6 : Int) (graphX x)).fst.length ∧
 ([] = seenF (List.take x0 (colorsF (6 : Int) (6 : Int) (graphX x)).fst) ∧ True) ∧
 (0 : Int) = (↑x0 : Int) ∧
 True ∧
 (colorsF (6 : Int) (6 : Int) (graphX x)).snd = (colorsF (6 : Int) (6 : Int) (graphX x)).snd ∧
 (colorsF (6 : Int) (6 : Int) (graphX x)).fst = (colorsF (6 : Int) (6 : Int) (graphX x)).fst ∧ graphX x = graphX x ∧ True) ∧
 ∀ (x_1 : Nat),
 x_1 ≤ (colorsF (6 : Int) (6 : Int) (graphX x)).fst.length →
 ((↑x_1 : Int) < (↑(colorsF (6 : Int) (6 : Int) (graphX x)).fst.length : Int) →
 (↑x_1 : Int) < (↑(colorsF (6 : Int) (6 : Int) (graphX x)).fst.length : Int) ∧
 ((0 : Int) ≤ (↑x_1 : Int) ∧ (↑x_1 : Int) < (↑(colorsF (6 : Int) (6 : Int) (graphX x)).fst.length : Int)) ∧
 (seenF (List.take x_1 (colorsF (6 : Int) (6 : Int) (graphX x)).fst)).length ≤ (1000 : Nat) ∧
 ((!decide
 ((colorsF (6 : Int) (6 : Int) (graphX x)).fst.getD (↑x_1 : Int).toNat (0 : Int) ∈
 seenF (List.take x_1 (colorsF (6 : Int) (6 : Int) (graphX x)).fst))) =
 true →
 (!decide
 ((colorsF (6 : Int) (6 : Int) (graphX x)).fst.getD (↑x_1 : Int).toNat (0 : Int) ∈
 seenF (List.take x_1 (colorsF (6 : Int) (6 : Int) (graphX x)).fst))) =
 true ∧
 ((0 : Int) ≤ (↑x_1 : Int) ∧ (↑x_1 : Int) < (↑(colorsF (6 : Int) (6 : Int) (graphX x)).fst.length : Int)) ∧
 Small ((seenF (List.take x_1 (colorsF (6 : Int) (6 : Int) (graphX x)).fst)).length + ((0 : Nat) + (1 : Nat))) ∧
 Fits IntKind.i64 ((↑x_1 : Int) + (1 : Int)) ∧
 ∃ (x' : Nat),
 x' ≤ (colorsF (6 : Int) (6 : Int) (graphX x)).fst.length ∧
 (colorsF (6 : Int) (6 : Int) (graphX x)).fst.length - x' < (colorsF (6 : Int) (6 : Int) (graphX x)).fst.length - x_1 ∧
 (seenF (List.take x_1 (colorsF (6 : Int) (6 : Int) (graphX x)).fst) ++
 [(colorsF (6 : Int) (6 : Int) (graphX x)).fst.getD (↑x_1 : Int).toNat (0 : Int)] =
 seenF (List.take x' (colorsF (6 : Int) (6 : Int) (graphX x)).fst) ∧
 True) ∧
 (↑x_1 : Int) + (1 : Int) = (↑x' : Int) ∧
 True ∧
 (colorsF (6 : Int) (6 : Int) (graphX x)).snd = (colorsF (6 : Int) (6 : Int) (graphX x)).snd ∧
 (colorsF (6 : Int) (6 : Int) (graphX x)).fst = (colorsF (6 : Int) (6 : Int) (graphX x)).fst ∧ graphX x = graphX x ∧ True) ∧
 ((!decide
 ((colorsF (6 : Int) (6 : Int) (graphX x)).fst.getD (↑x_1 : Int).toNat (0 : Int) ∈
 seenF (List.take x_1 (colorsF (6 : Int) (6 : Int) (graphX x)).fst))) =
 false →
 (!decide
 ((colorsF (6 : Int) (6 : Int) (graphX x)).fst.getD (↑x_1 : Int).toNat (0 : Int) ∈
 seenF (List.take x_1 (colorsF (6 : Int) (6 : Int) (graphX x)).fst))) =
 false ∧
 Fits IntKind.i64 ((↑x_1 : Int) + (1 : Int)) ∧
 ∃ (x' : Nat),
 x' ≤ (colorsF (6 : Int) (6 : Int) (graphX x)).fst.length ∧
 (colorsF (6 : Int) (6 : Int) (graphX x)).fst.length - x' < (colorsF (6 : Int) (6 : Int) (graphX x)).fst.length - x_1 ∧
 (seenF (List.take x_1 (colorsF (6 : Int) (6 : Int) (graphX x)).fst) = seenF (List.take x' (colorsF (6 : Int) (6 : Int) (graphX x)).fst) ∧ True) ∧
 (↑x_1 : Int) + (1 : Int) = (↑x' : Int) ∧
 True ∧
 (colorsF (6 : Int) (6 : Int) (graphX x)).snd = (colorsF (6 : Int) (6 : Int) (graphX x)).snd ∧
 (colorsF (6 : Int) (6 : Int) (graphX x)).fst = (colorsF (6 : Int) (6 : Int) (graphX x)).fst ∧ graphX x = graphX x ∧ True)) ∧
 (¬(↑x_1 : Int) < (↑(colorsF (6 : Int) (6 : Int) (graphX x)).fst.length : Int) →
 ¬(↑x_1 : Int) < (↑(colorsF (6 : Int) (6 : Int) (graphX x)).fst.length : Int) ∧
 ((colorsF (6 : Int) (6 : Int) (graphX x)).snd = (0 : Int) →
 (colorsF (6 : Int) (6 : Int) (graphX x)).snd = (0 : Int) ∧
 (colorsF (6 : Int) (6 : Int) (graphX x)).snd = (0 : Int) ∧
 ((↑(colorsF (6 : Int) (6 : Int) (graphX x)).fst.length : Int) = (↑(graphX x).length : Int) →
 (↑(colorsF (6 : Int) (6 : Int) (graphX x)).fst.length : Int) = (↑(graphX x).length : Int) ∧
 (↑(colorsF (6 : Int) (6 : Int) (graphX x)).fst.length : Int) = (↑(graphX x).length : Int) ∧
 (↑(colorsF (6 : Int) (6 : Int) (graphX x)).fst.length : Int) = (↑(graphX x).length : Int) ∧
 ((graphX x).length ≤ (1000 : Nat) ∧ (colorsF (6 : Int) (6 : Int) (graphX x)).fst.length ≤ (graphX x).length) ∧
 (properF (graphX x) (colorsF (6 : Int) (6 : Int) (graphX x)).fst = true →
 properF (graphX x) (colorsF (6 : Int) (6 : Int) (graphX x)).fst = true ∧
 properF (graphX x) (colorsF (6 : Int) (6 : Int) (graphX x)).fst = true ∧
 properF (graphX x) (colorsF (6 : Int) (6 : Int) (graphX x)).fst = true ∧
 (graphX x).length ≤ (1000 : Nat) ∧
 ((↑(seenF (List.take x_1 (colorsF (6 : Int) (6 : Int) (graphX x)).fst)).length : Int) = degR (graphX x) (6 : Nat) →
 (↑(seenF (List.take x_1 (colorsF (6 : Int) (6 : Int) (graphX x)).fst)).length : Int) = degR (graphX x) (6 : Nat) ∧
 (↑(seenF (List.take x_1 (colorsF (6 : Int) (6 : Int) (graphX x)).fst)).length : Int) = degR (graphX x) (6 : Nat) ∧
 (↑(seenF (List.take x_1 (colorsF (6 : Int) (6 : Int) (graphX x)).fst)).length : Int) = degR (graphX x) (6 : Nat) ∧
 (graphX x).length ≤ (1000 : Nat) ∧
 ((colorsF (6 : Int) (6 : Int) (graphX x)).fst.length ≤ (1000 : Nat) ∧
 (-1000 : Int) ≤ max (degR (graphX x) (6 : Nat)) (1 : Int) ∧
 max (degR (graphX x) (6 : Nat)) (1 : Int) ≤ (1000 : Int)) ∧
 (decide
 ((∀ (x_2 : Int),
 x_2 ∈ (colorsF (6 : Int) (6 : Int) (graphX x)).fst →
 (0 : Int) ≤ x_2 ∧ x_2 < max (degR (graphX x) (6 : Nat)) (1 : Int)) ∧
 (↑(colorsF (6 : Int) (6 : Int) (graphX x)).fst.length : Int) = (↑(graphX x).length : Int)) =
 true →
 decide
 ((∀ (x_2 : Int),
 x_2 ∈ (colorsF (6 : Int) (6 : Int) (graphX x)).fst →
 (0 : Int) ≤ x_2 ∧ x_2 < max (degR (graphX x) (6 : Nat)) (1 : Int)) ∧
 (↑(colorsF (6 : Int) (6 : Int) (graphX x)).fst.length : Int) = (↑(graphX x).length : Int)) =
 true ∧
 decide
 ((∀ (x_2 : Int),
 x_2 ∈ (colorsF (6 : Int) (6 : Int) (graphX x)).fst →
 (0 : Int) ≤ x_2 ∧ x_2 < max (degR (graphX x) (6 : Nat)) (1 : Int)) ∧
 (↑(colorsF (6 : Int) (6 : Int) (graphX x)).fst.length : Int) = (↑(graphX x).length : Int)) =
 true ∧
 decide
 ((∀ (x_2 : Int),
 x_2 ∈ (colorsF (6 : Int) (6 : Int) (graphX x)).fst →
 (0 : Int) ≤ x_2 ∧ x_2 < max (degR (graphX x) (6 : Nat)) (1 : Int)) ∧
 (↑(colorsF (6 : Int) (6 : Int) (graphX x)).fst.length : Int) = (↑(graphX x).length : Int)) =
 true ∧
 True ∧ true = true) ∧
 (decide
 ((∀ (x_2 : Int),
 x_2 ∈ (colorsF (6 : Int) (6 : Int) (graphX x)).fst →
 (0 : Int) ≤ x_2 ∧ x_2 < max (degR (graphX x) (6 : Nat)) (1 : Int)) ∧
 (↑(colorsF (6 : Int) (6 : Int) (graphX x)).fst.length : Int) = (↑(graphX x).length : Int)) =
 false →
 decide
 ((∀ (x_2 : Int),
 x_2 ∈ (colorsF (6 : Int) (6 : Int) (graphX x)).fst →
 (0 : Int) ≤ x_2 ∧ x_2 < max (degR (graphX x) (6 : Nat)) (1 : Int)) ∧
 (↑(colorsF (6 : Int) (6 : Int) (graphX x)).fst.length : Int) = (↑(graphX x).length : Int)) =
 false ∧
 decide
 ((∀ (x_2 : Int),
 x_2 ∈ (colorsF (6 : Int) (6 : Int) (graphX x)).fst →
 (0 : Int) ≤ x_2 ∧ x_2 < max (degR (graphX x) (6 : Nat)) (1 : Int)) ∧
 (↑(colorsF (6 : Int) (6 : Int) (graphX x)).fst.length : Int) = (↑(graphX x).length : Int)) =
 false ∧
 decide
 ((∀ (x_2 : Int),
 x_2 ∈ (colorsF (6 : Int) (6 : Int) (graphX x)).fst →
 (0 : Int) ≤ x_2 ∧ x_2 < max (degR (graphX x) (6 : Nat)) (1 : Int)) ∧
 (↑(colorsF (6 : Int) (6 : Int) (graphX x)).fst.length : Int) = (↑(graphX x).length : Int)) =
 false ∧
 false = true)) ∧
 (¬(↑(seenF (List.take x_1 (colorsF (6 : Int) (6 : Int) (graphX x)).fst)).length : Int) = degR (graphX x) (6 : Nat) →
 ¬(↑(seenF (List.take x_1 (colorsF (6 : Int) (6 : Int) (graphX x)).fst)).length : Int) = degR (graphX x) (6 : Nat) ∧
 ¬(↑(seenF (List.take x_1 (colorsF (6 : Int) (6 : Int) (graphX x)).fst)).length : Int) = degR (graphX x) (6 : Nat) ∧
 ¬(↑(seenF (List.take x_1 (colorsF (6 : Int) (6 : Int) (graphX x)).fst)).length : Int) = degR (graphX x) (6 : Nat) ∧
 false = true)) ∧
 (properF (graphX x) (colorsF (6 : Int) (6 : Int) (graphX x)).fst = false →
 properF (graphX x) (colorsF (6 : Int) (6 : Int) (graphX x)).fst = false ∧
 properF (graphX x) (colorsF (6 : Int) (6 : Int) (graphX x)).fst = false ∧
 properF (graphX x) (colorsF (6 : Int) (6 : Int) (graphX x)).fst = false ∧ false = true)) ∧
 (¬(↑(colorsF (6 : Int) (6 : Int) (graphX x)).fst.length : Int) = (↑(graphX x).length : Int) →
 ¬(↑(colorsF (6 : Int) (6 : Int) (graphX x)).fst.length : Int) = (↑(graphX x).length : Int) ∧
 ¬(↑(colorsF (6 : Int) (6 : Int) (graphX x)).fst.length : Int) = (↑(graphX x).length : Int) ∧
 ¬(↑(colorsF (6 : Int) (6 : Int) (graphX x)).fst.length : Int) = (↑(graphX x).length : Int) ∧ false = true)) ∧
 (¬(colorsF (6 : Int) (6 : Int) (graphX x)).snd = (0 : Int) →
 ¬(colorsF (6 : Int) (6 : Int) (graphX x)).snd = (0 : Int) ∧ ¬(colorsF (6 : Int) (6 : Int) (graphX x)).snd = (0 : Int) ∧ false = true))) := by
 kernel_rfl

theorem g7_eq (x : Int × Int × Int) (code : List Int) : g7 x code = (
 (((0 : Int) ≤ x.fst ∧ x.fst ≤ (255 : Int)) ∧ ((0 : Int) ≤ x.snd.fst ∧ x.snd.fst ≤ (255 : Int)) ∧ (0 : Int) ≤ x.snd.snd ∧ x.snd.snd ≤ (255 : Int)) ∧
 ((6 : Int) < (netF (x.fst, x.snd.fst, x.snd.snd)).snd.fst → (6 : Int) < (netF (x.fst, x.snd.fst, x.snd.snd)).snd.fst ∧ True ∧ true = true) ∧
 (¬(6 : Int) < (netF (x.fst, x.snd.fst, x.snd.snd)).snd.fst →
 ¬(6 : Int) < (netF (x.fst, x.snd.fst, x.snd.snd)).snd.fst ∧
 Fits IntKind.i64 ((netF (x.fst, x.snd.fst, x.snd.snd)).fst * (netF (x.fst, x.snd.fst, x.snd.snd)).snd.fst) ∧
 (((0 : Int) ≤ (netF (x.fst, x.snd.fst, x.snd.snd)).fst * (netF (x.fst, x.snd.fst, x.snd.snd)).snd.fst ∧
 (netF (x.fst, x.snd.fst, x.snd.snd)).fst * (netF (x.fst, x.snd.fst, x.snd.snd)).snd.fst ≤ (100 : Int)) ∧
 code.length ≤ maxLen ∧ ∀ (b : Int), b ∈ code → (0 : Int) ≤ b ∧ b ≤ (255 : Int)) ∧
 (∃ (x0 : Nat),
 (↑x0 : Int) ≤ (netF x).fst * (netF x).snd.fst ∧
 ((x.fst = x.fst ∧ x.snd.fst = x.snd.fst ∧ x.snd.snd = x.snd.snd ∧ True) ∧
 [] = edgesTo (netF x).fst (nthTo code ((netF x).fst * (netF x).snd.fst).toNat) x0 ∧ True) ∧
 (0 : Int) = (↑x0 : Int) ∧
 True ∧
 nthTo code ((netF (x.fst, x.snd.fst, x.snd.snd)).fst * (netF (x.fst, x.snd.fst, x.snd.snd)).snd.fst).toNat =
 nthTo code ((netF (x.fst, x.snd.fst, x.snd.snd)).fst * (netF (x.fst, x.snd.fst, x.snd.snd)).snd.fst).toNat ∧
 (netF (x.fst, x.snd.fst, x.snd.snd)).snd.fst = (netF (x.fst, x.snd.fst, x.snd.snd)).snd.fst ∧
 (netF (x.fst, x.snd.fst, x.snd.snd)).fst = (netF (x.fst, x.snd.fst, x.snd.snd)).fst ∧ True) ∧
 ∀ (x_1 : Nat),
 (↑x_1 : Int) ≤ (netF x).fst * (netF x).snd.fst →
 Fits IntKind.i64 ((netF (x.fst, x.snd.fst, x.snd.snd)).fst * (netF (x.fst, x.snd.fst, x.snd.snd)).snd.fst) ∧
 ((↑x_1 : Int) < (netF (x.fst, x.snd.fst, x.snd.snd)).fst * (netF (x.fst, x.snd.fst, x.snd.snd)).snd.fst →
 (↑x_1 : Int) < (netF (x.fst, x.snd.fst, x.snd.snd)).fst * (netF (x.fst, x.snd.fst, x.snd.snd)).snd.fst ∧
 ((0 : Int) ≤ (↑x_1 : Int) ∧ (0 : Int) < (netF (x.fst, x.snd.fst, x.snd.snd)).fst) ∧
 Fits IntKind.i64 ((↑x_1 : Int) / (netF (x.fst, x.snd.fst, x.snd.snd)).fst) ∧
 ((0 : Int) ≤ (↑x_1 : Int) ∧
 (↑x_1 : Int) < (↑(nthTo code ((netF (x.fst, x.snd.fst, x.snd.snd)).fst * (netF (x.fst, x.snd.fst, x.snd.snd)).snd.fst).toNat).length : Int)) ∧
 ((0 : Int) ≤
 (nthTo code ((netF (x.fst, x.snd.fst, x.snd.snd)).fst * (netF (x.fst, x.snd.fst, x.snd.snd)).snd.fst).toNat).getD (↑x_1 : Int).toNat
 (0 : Int) ∧
 (0 : Int) < (netF (x.fst, x.snd.fst, x.snd.snd)).fst) ∧
 Fits IntKind.i64
 ((nthTo code ((netF (x.fst, x.snd.fst, x.snd.snd)).fst * (netF (x.fst, x.snd.fst, x.snd.snd)).snd.fst).toNat).getD (↑x_1 : Int).toNat
 (0 : Int) /
 (netF (x.fst, x.snd.fst, x.snd.snd)).fst) ∧
 Small ((edgesTo (netF x).fst (nthTo code ((netF x).fst * (netF x).snd.fst).toNat) x_1).length + ((0 : Nat) + (1 : Nat))) ∧
 Fits IntKind.i64 ((↑x_1 : Int) + (1 : Int)) ∧
 ∃ (x' : Nat),
 (↑x' : Int) ≤ (netF x).fst * (netF x).snd.fst ∧
 ((netF x).fst * (netF x).snd.fst).toNat - x' < ((netF x).fst * (netF x).snd.fst).toNat - x_1 ∧
 ((x.fst = x.fst ∧ x.snd.fst = x.snd.fst ∧ x.snd.snd = x.snd.snd ∧ True) ∧
 edgesTo (netF x).fst (nthTo code ((netF x).fst * (netF x).snd.fst).toNat) x_1 ++
 [((↑x_1 : Int) / (netF (x.fst, x.snd.fst, x.snd.snd)).fst,
 (nthTo code ((netF (x.fst, x.snd.fst, x.snd.snd)).fst * (netF (x.fst, x.snd.fst, x.snd.snd)).snd.fst).toNat).getD
 (↑x_1 : Int).toNat (0 : Int) /
 (netF (x.fst, x.snd.fst, x.snd.snd)).fst)] =
 edgesTo (netF x).fst (nthTo code ((netF x).fst * (netF x).snd.fst).toNat) x' ∧
 True) ∧
 (↑x_1 : Int) + (1 : Int) = (↑x' : Int) ∧
 True ∧
 nthTo code ((netF (x.fst, x.snd.fst, x.snd.snd)).fst * (netF (x.fst, x.snd.fst, x.snd.snd)).snd.fst).toNat =
 nthTo code ((netF (x.fst, x.snd.fst, x.snd.snd)).fst * (netF (x.fst, x.snd.fst, x.snd.snd)).snd.fst).toNat ∧
 (netF (x.fst, x.snd.fst, x.snd.snd)).snd.fst = (netF (x.fst, x.snd.fst, x.snd.snd)).snd.fst ∧
 (netF (x.fst, x.snd.fst, x.snd.snd)).fst = (netF (x.fst, x.snd.fst, x.snd.snd)).fst ∧ True) ∧
 (¬(↑x_1 : Int) < (netF (x.fst, x.snd.fst, x.snd.snd)).fst * (netF (x.fst, x.snd.fst, x.snd.snd)).snd.fst →
 ¬(↑x_1 : Int) < (netF (x.fst, x.snd.fst, x.snd.snd)).fst * (netF (x.fst, x.snd.fst, x.snd.snd)).snd.fst ∧
 (nthTo code ((netF (x.fst, x.snd.fst, x.snd.snd)).fst * (netF (x.fst, x.snd.fst, x.snd.snd)).snd.fst).toNat).length ≤ (1000 : Nat) ∧
 (edgesTo (netF x).fst (nthTo code ((netF x).fst * (netF x).snd.fst).toNat) x_1).length ≤ (1000 : Nat) ∧
 ((routeF (netF (x.fst, x.snd.fst, x.snd.snd)).fst (netF (x.fst, x.snd.fst, x.snd.snd)).snd.fst (netF (x.fst, x.snd.fst, x.snd.snd)).fst
 (nthTo code ((netF (x.fst, x.snd.fst, x.snd.snd)).fst * (netF (x.fst, x.snd.fst, x.snd.snd)).snd.fst).toNat)).snd =
 (0 : Int) →
 (routeF (netF (x.fst, x.snd.fst, x.snd.snd)).fst (netF (x.fst, x.snd.fst, x.snd.snd)).snd.fst (netF (x.fst, x.snd.fst, x.snd.snd)).fst
 (nthTo code ((netF (x.fst, x.snd.fst, x.snd.snd)).fst * (netF (x.fst, x.snd.fst, x.snd.snd)).snd.fst).toNat)).snd =
 (0 : Int) ∧
 (routeF (netF (x.fst, x.snd.fst, x.snd.snd)).fst (netF (x.fst, x.snd.fst, x.snd.snd)).snd.fst (netF (x.fst, x.snd.fst, x.snd.snd)).fst
 (nthTo code ((netF (x.fst, x.snd.fst, x.snd.snd)).fst * (netF (x.fst, x.snd.fst, x.snd.snd)).snd.fst).toNat)).snd =
 (0 : Int) ∧
 ((colorsF (netF (x.fst, x.snd.fst, x.snd.snd)).snd.fst (netF (x.fst, x.snd.fst, x.snd.snd)).snd.fst
 (edgesTo (netF x).fst (nthTo code ((netF x).fst * (netF x).snd.fst).toNat) x_1)).snd =
 (0 : Int) →
 (colorsF (netF (x.fst, x.snd.fst, x.snd.snd)).snd.fst (netF (x.fst, x.snd.fst, x.snd.snd)).snd.fst
 (edgesTo (netF x).fst (nthTo code ((netF x).fst * (netF x).snd.fst).toNat) x_1)).snd =
 (0 : Int) ∧
 (colorsF (netF (x.fst, x.snd.fst, x.snd.snd)).snd.fst (netF (x.fst, x.snd.fst, x.snd.snd)).snd.fst
 (edgesTo (netF x).fst (nthTo code ((netF x).fst * (netF x).snd.fst).toNat) x_1)).snd =
 (0 : Int) ∧
 (colorsF (netF (x.fst, x.snd.fst, x.snd.snd)).snd.fst (netF (x.fst, x.snd.fst, x.snd.snd)).snd.fst
 (edgesTo (netF x).fst (nthTo code ((netF x).fst * (netF x).snd.fst).toNat) x_1)).snd =
 (0 : Int) ∧
 ((routeF (netF (x.fst, x.snd.fst, x.snd.snd)).fst (netF (x.fst, x.snd.fst, x.snd.snd)).snd.fst
 (netF (x.fst, x.snd.fst, x.snd.snd)).fst
 (nthTo code
 ((netF (x.fst, x.snd.fst, x.snd.snd)).fst * (netF (x.fst, x.snd.fst, x.snd.snd)).snd.fst).toNat)).fst.length ≤
 (1000 : Nat) ∧
 (colorsF (netF (x.fst, x.snd.fst, x.snd.snd)).snd.fst (netF (x.fst, x.snd.fst, x.snd.snd)).snd.fst
 (edgesTo (netF x).fst (nthTo code ((netF x).fst * (netF x).snd.fst).toNat) x_1)).fst.length ≤
 (1000 : Nat)) ∧
 (decide
 ((routeF (netF (x.fst, x.snd.fst, x.snd.snd)).fst (netF (x.fst, x.snd.fst, x.snd.snd)).snd.fst
 (netF (x.fst, x.snd.fst, x.snd.snd)).fst
 (nthTo code ((netF (x.fst, x.snd.fst, x.snd.snd)).fst * (netF (x.fst, x.snd.fst, x.snd.snd)).snd.fst).toNat)).fst =
 (colorsF (netF (x.fst, x.snd.fst, x.snd.snd)).snd.fst (netF (x.fst, x.snd.fst, x.snd.snd)).snd.fst
 (edgesTo (netF x).fst (nthTo code ((netF x).fst * (netF x).snd.fst).toNat) x_1)).fst) =
 true →
 decide
 ((routeF (netF (x.fst, x.snd.fst, x.snd.snd)).fst (netF (x.fst, x.snd.fst, x.snd.snd)).snd.fst
 (netF (x.fst, x.snd.fst, x.snd.snd)).fst
 (nthTo code
 ((netF (x.fst, x.snd.fst, x.snd.snd)).fst * (netF (x.fst, x.snd.fst, x.snd.snd)).snd.fst).toNat)).fst =
 (colorsF (netF (x.fst, x.snd.fst, x.snd.snd)).snd.fst (netF (x.fst, x.snd.fst, x.snd.snd)).snd.fst
 (edgesTo (netF x).fst (nthTo code ((netF x).fst * (netF x).snd.fst).toNat) x_1)).fst) =
 true ∧
 decide
 ((routeF (netF (x.fst, x.snd.fst, x.snd.snd)).fst (netF (x.fst, x.snd.fst, x.snd.snd)).snd.fst
 (netF (x.fst, x.snd.fst, x.snd.snd)).fst
 (nthTo code
 ((netF (x.fst, x.snd.fst, x.snd.snd)).fst * (netF (x.fst, x.snd.fst, x.snd.snd)).snd.fst).toNat)).fst =
 (colorsF (netF (x.fst, x.snd.fst, x.snd.snd)).snd.fst (netF (x.fst, x.snd.fst, x.snd.snd)).snd.fst
 (edgesTo (netF x).fst (nthTo code ((netF x).fst * (netF x).snd.fst).toNat) x_1)).fst) =
 true ∧
 decide
 ((routeF (netF (x.fst, x.snd.fst, x.snd.snd)).fst (netF (x.fst, x.snd.fst, x.snd.snd)).snd.fst
 (netF (x.fst, x.snd.fst, x.snd.snd)).fst
 (nthTo code
 ((netF (x.fst, x.snd.fst, x.snd.snd)).fst * (netF (x.fst, x.snd.fst, x.snd.snd)).snd.fst).toNat)).fst =
 (colorsF (netF (x.fst, x.snd.fst, x.snd.snd)).snd.fst (netF (x.fst, x.snd.fst, x.snd.snd)).snd.fst
 (edgesTo (netF x).fst (nthTo code ((netF x).fst * (netF x).snd.fst).toNat) x_1)).fst) =
 true ∧
 ((edgesTo (netF x).fst (nthTo code ((netF x).fst * (netF x).snd.fst).toNat) x_1).length ≤ (1000 : Nat) ∧
 (routeF (netF (x.fst, x.snd.fst, x.snd.snd)).fst (netF (x.fst, x.snd.fst, x.snd.snd)).snd.fst
 (netF (x.fst, x.snd.fst, x.snd.snd)).fst
 (nthTo code
 ((netF (x.fst, x.snd.fst, x.snd.snd)).fst *
 (netF (x.fst, x.snd.fst, x.snd.snd)).snd.fst).toNat)).fst.length ≤
 (edgesTo (netF x).fst (nthTo code ((netF x).fst * (netF x).snd.fst).toNat) x_1).length) ∧
 (properF (edgesTo (netF x).fst (nthTo code ((netF x).fst * (netF x).snd.fst).toNat) x_1)
 (routeF (netF (x.fst, x.snd.fst, x.snd.snd)).fst (netF (x.fst, x.snd.fst, x.snd.snd)).snd.fst
 (netF (x.fst, x.snd.fst, x.snd.snd)).fst
 (nthTo code
 ((netF (x.fst, x.snd.fst, x.snd.snd)).fst * (netF (x.fst, x.snd.fst, x.snd.snd)).snd.fst).toNat)).fst =
 true →
 properF (edgesTo (netF x).fst (nthTo code ((netF x).fst * (netF x).snd.fst).toNat) x_1)
 (routeF (netF (x.fst, x.snd.fst, x.snd.snd)).fst (netF (x.fst, x.snd.fst, x.snd.snd)).snd.fst
 (netF (x.fst, x.snd.fst, x.snd.snd)).fst
 (nthTo code
 ((netF (x.fst, x.snd.fst, x.snd.snd)).fst *
 (netF (x.fst, x.snd.fst, x.snd.snd)).snd.fst).toNat)).fst =
 true ∧
 properF (edgesTo (netF x).fst (nthTo code ((netF x).fst * (netF x).snd.fst).toNat) x_1)
 (routeF (netF (x.fst, x.snd.fst, x.snd.snd)).fst (netF (x.fst, x.snd.fst, x.snd.snd)).snd.fst
 (netF (x.fst, x.snd.fst, x.snd.snd)).fst
 (nthTo code
 ((netF (x.fst, x.snd.fst, x.snd.snd)).fst *
 (netF (x.fst, x.snd.fst, x.snd.snd)).snd.fst).toNat)).fst =
 true ∧
 properF (edgesTo (netF x).fst (nthTo code ((netF x).fst * (netF x).snd.fst).toNat) x_1)
 (routeF (netF (x.fst, x.snd.fst, x.snd.snd)).fst (netF (x.fst, x.snd.fst, x.snd.snd)).snd.fst
 (netF (x.fst, x.snd.fst, x.snd.snd)).fst
 (nthTo code
 ((netF (x.fst, x.snd.fst, x.snd.snd)).fst *
 (netF (x.fst, x.snd.fst, x.snd.snd)).snd.fst).toNat)).fst =
 true ∧
 True ∧ true = true) ∧
 (properF (edgesTo (netF x).fst (nthTo code ((netF x).fst * (netF x).snd.fst).toNat) x_1)
 (routeF (netF (x.fst, x.snd.fst, x.snd.snd)).fst (netF (x.fst, x.snd.fst, x.snd.snd)).snd.fst
 (netF (x.fst, x.snd.fst, x.snd.snd)).fst
 (nthTo code
 ((netF (x.fst, x.snd.fst, x.snd.snd)).fst * (netF (x.fst, x.snd.fst, x.snd.snd)).snd.fst).toNat)).fst =
 false →
 properF (edgesTo (netF x).fst (nthTo code ((netF x).fst * (netF x).snd.fst).toNat) x_1)
 (routeF (netF (x.fst, x.snd.fst, x.snd.snd)).fst (netF (x.fst, x.snd.fst, x.snd.snd)).snd.fst
 (netF (x.fst, x.snd.fst, x.snd.snd)).fst
 (nthTo code
 ((netF (x.fst, x.snd.fst, x.snd.snd)).fst *
 (netF (x.fst, x.snd.fst, x.snd.snd)).snd.fst).toNat)).fst =
 false ∧
 properF (edgesTo (netF x).fst (nthTo code ((netF x).fst * (netF x).snd.fst).toNat) x_1)
 (routeF (netF (x.fst, x.snd.fst, x.snd.snd)).fst (netF (x.fst, x.snd.fst, x.snd.snd)).snd.fst
 (netF (x.fst, x.snd.fst, x.snd.snd)).fst
 (nthTo code
 ((netF (x.fst, x.snd.fst, x.snd.snd)).fst *
 (netF (x.fst, x.snd.fst, x.snd.snd)).snd.fst).toNat)).fst =
 false ∧
 properF (edgesTo (netF x).fst (nthTo code ((netF x).fst * (netF x).snd.fst).toNat) x_1)
 (routeF (netF (x.fst, x.snd.fst, x.snd.snd)).fst (netF (x.fst, x.snd.fst, x.snd.snd)).snd.fst
 (netF (x.fst, x.snd.fst, x.snd.snd)).fst
 (nthTo code
 ((netF (x.fst, x.snd.fst, x.snd.snd)).fst *
 (netF (x.fst, x.snd.fst, x.snd.snd)).snd.fst).toNat)).fst =
 false ∧
 false = true)) ∧
 (decide
 ((routeF (netF (x.fst, x.snd.fst, x.snd.snd)).fst (netF (x.fst, x.snd.fst, x.snd.snd)).snd.fst
 (netF (x.fst, x.snd.fst, x.snd.snd)).fst
 (nthTo code ((netF (x.fst, x.snd.fst, x.snd.snd)).fst * (netF (x.fst, x.snd.fst, x.snd.snd)).snd.fst).toNat)).fst =
 (colorsF (netF (x.fst, x.snd.fst, x.snd.snd)).snd.fst (netF (x.fst, x.snd.fst, x.snd.snd)).snd.fst
 (edgesTo (netF x).fst (nthTo code ((netF x).fst * (netF x).snd.fst).toNat) x_1)).fst) =
 false →
 decide
 ((routeF (netF (x.fst, x.snd.fst, x.snd.snd)).fst (netF (x.fst, x.snd.fst, x.snd.snd)).snd.fst
 (netF (x.fst, x.snd.fst, x.snd.snd)).fst
 (nthTo code
 ((netF (x.fst, x.snd.fst, x.snd.snd)).fst * (netF (x.fst, x.snd.fst, x.snd.snd)).snd.fst).toNat)).fst =
 (colorsF (netF (x.fst, x.snd.fst, x.snd.snd)).snd.fst (netF (x.fst, x.snd.fst, x.snd.snd)).snd.fst
 (edgesTo (netF x).fst (nthTo code ((netF x).fst * (netF x).snd.fst).toNat) x_1)).fst) =
 false ∧
 decide
 ((routeF (netF (x.fst, x.snd.fst, x.snd.snd)).fst (netF (x.fst, x.snd.fst, x.snd.snd)).snd.fst
 (netF (x.fst, x.snd.fst, x.snd.snd)).fst
 (nthTo code
 ((netF (x.fst, x.snd.fst, x.snd.snd)).fst * (netF (x.fst, x.snd.fst, x.snd.snd)).snd.fst).toNat)).fst =
 (colorsF (netF (x.fst, x.snd.fst, x.snd.snd)).snd.fst (netF (x.fst, x.snd.fst, x.snd.snd)).snd.fst
 (edgesTo (netF x).fst (nthTo code ((netF x).fst * (netF x).snd.fst).toNat) x_1)).fst) =
 false ∧
 decide
 ((routeF (netF (x.fst, x.snd.fst, x.snd.snd)).fst (netF (x.fst, x.snd.fst, x.snd.snd)).snd.fst
 (netF (x.fst, x.snd.fst, x.snd.snd)).fst
 (nthTo code
 ((netF (x.fst, x.snd.fst, x.snd.snd)).fst * (netF (x.fst, x.snd.fst, x.snd.snd)).snd.fst).toNat)).fst =
 (colorsF (netF (x.fst, x.snd.fst, x.snd.snd)).snd.fst (netF (x.fst, x.snd.fst, x.snd.snd)).snd.fst
 (edgesTo (netF x).fst (nthTo code ((netF x).fst * (netF x).snd.fst).toNat) x_1)).fst) =
 false ∧
 false = true)) ∧
 (¬(colorsF (netF (x.fst, x.snd.fst, x.snd.snd)).snd.fst (netF (x.fst, x.snd.fst, x.snd.snd)).snd.fst
 (edgesTo (netF x).fst (nthTo code ((netF x).fst * (netF x).snd.fst).toNat) x_1)).snd =
 (0 : Int) →
 ¬(colorsF (netF (x.fst, x.snd.fst, x.snd.snd)).snd.fst (netF (x.fst, x.snd.fst, x.snd.snd)).snd.fst
 (edgesTo (netF x).fst (nthTo code ((netF x).fst * (netF x).snd.fst).toNat) x_1)).snd =
 (0 : Int) ∧
 ¬(colorsF (netF (x.fst, x.snd.fst, x.snd.snd)).snd.fst (netF (x.fst, x.snd.fst, x.snd.snd)).snd.fst
 (edgesTo (netF x).fst (nthTo code ((netF x).fst * (netF x).snd.fst).toNat) x_1)).snd =
 (0 : Int) ∧
 ¬(colorsF (netF (x.fst, x.snd.fst, x.snd.snd)).snd.fst (netF (x.fst, x.snd.fst, x.snd.snd)).snd.fst
 (edgesTo (netF x).fst (nthTo code ((netF x).fst * (netF x).snd.fst).toNat) x_1)).snd =
 (0 : Int) ∧
 false = true)) ∧
 (¬(routeF (netF (x.fst, x.snd.fst, x.snd.snd)).fst (netF (x.fst, x.snd.fst, x.snd.snd)).snd.fst (netF (x.fst, x.snd.fst, x.snd.snd)).fst
 (nthTo code ((netF (x.fst, x.snd.fst, x.snd.snd)).fst * (netF (x.fst, x.snd.fst, x.snd.snd)).snd.fst).toNat)).snd =
 (0 : Int) →
 ¬(routeF (netF (x.fst, x.snd.fst, x.snd.snd)).fst (netF (x.fst, x.snd.fst, x.snd.snd)).snd.fst (netF (x.fst, x.snd.fst, x.snd.snd)).fst
 (nthTo code ((netF (x.fst, x.snd.fst, x.snd.snd)).fst * (netF (x.fst, x.snd.fst, x.snd.snd)).snd.fst).toNat)).snd =
 (0 : Int) ∧
 ¬(routeF (netF (x.fst, x.snd.fst, x.snd.snd)).fst (netF (x.fst, x.snd.fst, x.snd.snd)).snd.fst (netF (x.fst, x.snd.fst, x.snd.snd)).fst
 (nthTo code ((netF (x.fst, x.snd.fst, x.snd.snd)).fst * (netF (x.fst, x.snd.fst, x.snd.snd)).snd.fst).toNat)).snd =
 (0 : Int) ∧
 false = true)))) := by
 kernel_rfl

theorem g5_eq (x : Int) : g5 x = (
 Fits IntKind.i64 x ∧
 ((0 : Int) ≤ x ∧ (0 : Int) < (2 : Int)) ∧
 Fits IntKind.i64 (x % (2 : Int) + (1 : Int)) ∧
 (∃ (x0 : Nat),
 ((2 : Nat) ≤ x0 ∧ x0 ≤ (2 : Nat) ^ kOf x + (1 : Nat)) ∧
 True ∧ x % (2 : Int) + (1 : Int) = (↑(kOf x) : Int) ∧ (2 : Int) = (↑x0 : Int) ∧ (1 : Int) = (↑(facN (x0 - (1 : Nat))) : Int) ∧ (0 : Int) = (0 : Int) ∧ True) ∧
 ∀ (x_1 : Nat),
 (2 : Nat) ≤ x_1 ∧ x_1 ≤ (2 : Nat) ^ kOf x + (1 : Nat) →
 ((0 : Int) ≤ (↑(kOf x) : Int) ∧ (↑(kOf x) : Int) < (64 : Int)) ∧
 Fits IntKind.i64 ((1 : Int) * (2 : Int) ^ (↑(kOf x) : Int).toNat) ∧
 ((↑x_1 : Int) ≤ (1 : Int) * (2 : Int) ^ (↑(kOf x) : Int).toNat →
 (↑x_1 : Int) ≤ (1 : Int) * (2 : Int) ^ (↑(kOf x) : Int).toNat ∧
 Fits IntKind.i64 ((↑(facN (x_1 - (1 : Nat))) : Int) * (↑x_1 : Int)) ∧
 Fits IntKind.i64 ((↑x_1 : Int) + (1 : Int)) ∧
 ∃ (x' : Nat),
 ((2 : Nat) ≤ x' ∧ x' ≤ (2 : Nat) ^ kOf x + (1 : Nat)) ∧
 (2 : Nat) ^ kOf x + (1 : Nat) - x' < (2 : Nat) ^ kOf x + (1 : Nat) - x_1 ∧
 True ∧
 (↑(kOf x) : Int) = (↑(kOf x) : Int) ∧
 (↑x_1 : Int) + (1 : Int) = (↑x' : Int) ∧
 (↑(facN (x_1 - (1 : Nat))) : Int) * (↑x_1 : Int) = (↑(facN (x' - (1 : Nat))) : Int) ∧ (0 : Int) = (0 : Int) ∧ True) ∧
 (¬(↑x_1 : Int) ≤ (1 : Int) * (2 : Int) ^ (↑(kOf x) : Int).toNat →
 ¬(↑x_1 : Int) ≤ (1 : Int) * (2 : Int) ^ (↑(kOf x) : Int).toNat ∧
 (∃ (x0 : Nat),
 x0 ≤ facN ((2 : Nat) ^ kOf x) ∧
 True ∧
 (0 : Int) = (↑x0 : Int) ∧
 (0 : Int) = (↑(sumTo (kOf x) x0) : Int) ∧
 (↑(facN (x_1 - (1 : Nat))) : Int) = (↑(facN ((2 : Nat) ^ kOf x)) : Int) ∧ (↑(kOf x) : Int) = (↑(kOf x) : Int) ∧ True) ∧
 ∀ (x_2 : Nat),
 x_2 ≤ facN ((2 : Nat) ^ kOf x) →
 ((↑x_2 : Int) < (↑(facN ((2 : Nat) ^ kOf x)) : Int) →
 (↑x_2 : Int) < (↑(facN ((2 : Nat) ^ kOf x)) : Int) ∧
 (∃ (x0 : Nat),
 x0 ≤ (2 : Nat) ^ kOf x ∧
 ([] = (codeTo (↑x_2 : Int).toNat x0).fst ∧ True) ∧
 (0 : Int) = (↑x0 : Int) ∧
 (↑x_2 : Int) = (↑(codeTo (↑x_2 : Int).toNat x0).snd : Int) ∧
 True ∧
 (↑x_2 : Int) = (↑x_2 : Int) ∧
 (↑(sumTo (kOf x) x_2) : Int) = (↑(sumTo (kOf x) x_2) : Int) ∧
 (↑(facN ((2 : Nat) ^ kOf x)) : Int) = (↑(facN ((2 : Nat) ^ kOf x)) : Int) ∧ (↑(kOf x) : Int) = (↑(kOf x) : Int) ∧ True) ∧
 ∀ (x_3 : Nat),
 x_3 ≤ (2 : Nat) ^ kOf x →
 ((0 : Int) ≤ (↑(kOf x) : Int) ∧ (↑(kOf x) : Int) < (64 : Int)) ∧
 Fits IntKind.i64 ((1 : Int) * (2 : Int) ^ (↑(kOf x) : Int).toNat) ∧
 ((↑x_3 : Int) < (1 : Int) * (2 : Int) ^ (↑(kOf x) : Int).toNat →
 (↑x_3 : Int) < (1 : Int) * (2 : Int) ^ (↑(kOf x) : Int).toNat ∧
 Fits IntKind.i64 ((↑x_3 : Int) + (1 : Int)) ∧
 ((0 : Int) ≤ (↑(codeTo (↑x_2 : Int).toNat x_3).snd : Int) ∧ (0 : Int) < (↑x_3 : Int) + (1 : Int)) ∧
 Small ((codeTo (↑x_2 : Int).toNat x_3).fst.length + ((0 : Nat) + (1 : Nat))) ∧
 Fits IntKind.i64 ((↑x_3 : Int) + (1 : Int)) ∧
 ((0 : Int) ≤ (↑(codeTo (↑x_2 : Int).toNat x_3).snd : Int) ∧ (0 : Int) < (↑x_3 : Int) + (1 : Int)) ∧
 Fits IntKind.i64 ((↑(codeTo (↑x_2 : Int).toNat x_3).snd : Int) / ((↑x_3 : Int) + (1 : Int))) ∧
 Fits IntKind.i64 ((↑x_3 : Int) + (1 : Int)) ∧
 ∃ (x' : Nat),
 x' ≤ (2 : Nat) ^ kOf x ∧
 (2 : Nat) ^ kOf x - x' < (2 : Nat) ^ kOf x - x_3 ∧
 ((codeTo (↑x_2 : Int).toNat x_3).fst ++
 [IntKind.u8.wrap ((↑(codeTo (↑x_2 : Int).toNat x_3).snd : Int) % ((↑x_3 : Int) + (1 : Int)))] =
 (codeTo (↑x_2 : Int).toNat x').fst ∧
 True) ∧
 (↑x_3 : Int) + (1 : Int) = (↑x' : Int) ∧
 (↑(codeTo (↑x_2 : Int).toNat x_3).snd : Int) / ((↑x_3 : Int) + (1 : Int)) =
 (↑(codeTo (↑x_2 : Int).toNat x').snd : Int) ∧
 True ∧
 (↑x_2 : Int) = (↑x_2 : Int) ∧
 (↑(sumTo (kOf x) x_2) : Int) = (↑(sumTo (kOf x) x_2) : Int) ∧
 (↑(facN ((2 : Nat) ^ kOf x)) : Int) = (↑(facN ((2 : Nat) ^ kOf x)) : Int) ∧
 (↑(kOf x) : Int) = (↑(kOf x) : Int) ∧ True) ∧
 (¬(↑x_3 : Int) < (1 : Int) * (2 : Int) ^ (↑(kOf x) : Int).toNat →
 ¬(↑x_3 : Int) < (1 : Int) * (2 : Int) ^ (↑(kOf x) : Int).toNat ∧
 ((0 : Int) ≤ (↑(kOf x) : Int) ∧ (↑(kOf x) : Int) < (64 : Int)) ∧
 Fits IntKind.i64 ((1 : Int) * (2 : Int) ^ (↑(kOf x) : Int).toNat) ∧
 (((0 : Int) ≤ (1 : Int) * (2 : Int) ^ (↑(kOf x) : Int).toNat ∧ (1 : Int) * (2 : Int) ^ (↑(kOf x) : Int).toNat ≤ (100 : Int)) ∧
 (codeTo (↑x_2 : Int).toNat x_3).fst.length ≤ maxLen ∧
 ∀ (b : Int), b ∈ (codeTo (↑x_2 : Int).toNat x_3).fst → (0 : Int) ≤ b ∧ b ≤ (255 : Int)) ∧
 (nthTo (codeTo (↑x_2 : Int).toNat x_3).fst ((1 : Int) * (2 : Int) ^ (↑(kOf x) : Int).toNat).toNat).length ≤ (1000 : Nat) ∧
 (¬(waysF (↑(kOf x) : Int)
 (nthTo (codeTo (↑x_2 : Int).toNat x_3).fst ((1 : Int) * (2 : Int) ^ (↑(kOf x) : Int).toNat).toNat)).snd =
 (0 : Int) →
 ¬(waysF (↑(kOf x) : Int)
 (nthTo (codeTo (↑x_2 : Int).toNat x_3).fst ((1 : Int) * (2 : Int) ^ (↑(kOf x) : Int).toNat).toNat)).snd =
 (0 : Int) ∧
 ¬(waysF (↑(kOf x) : Int)
 (nthTo (codeTo (↑x_2 : Int).toNat x_3).fst ((1 : Int) * (2 : Int) ^ (↑(kOf x) : Int).toNat).toNat)).snd =
 (0 : Int) ∧
 false = true) ∧
 (¬¬(waysF (↑(kOf x) : Int)
 (nthTo (codeTo (↑x_2 : Int).toNat x_3).fst ((1 : Int) * (2 : Int) ^ (↑(kOf x) : Int).toNat).toNat)).snd =
 (0 : Int) →
 ¬¬(waysF (↑(kOf x) : Int)
 (nthTo (codeTo (↑x_2 : Int).toNat x_3).fst ((1 : Int) * (2 : Int) ^ (↑(kOf x) : Int).toNat).toNat)).snd =
 (0 : Int) ∧
 ¬¬(waysF (↑(kOf x) : Int)
 (nthTo (codeTo (↑x_2 : Int).toNat x_3).fst
 ((1 : Int) * (2 : Int) ^ (↑(kOf x) : Int).toNat).toNat)).snd =
 (0 : Int) ∧
 ((waysF (↑(kOf x) : Int)
 (nthTo (codeTo (↑x_2 : Int).toNat x_3).fst
 ((1 : Int) * (2 : Int) ^ (↑(kOf x) : Int).toNat).toNat)).fst <
 (1 : Int) →
 (waysF (↑(kOf x) : Int)
 (nthTo (codeTo (↑x_2 : Int).toNat x_3).fst
 ((1 : Int) * (2 : Int) ^ (↑(kOf x) : Int).toNat).toNat)).fst <
 (1 : Int) ∧
 (waysF (↑(kOf x) : Int)
 (nthTo (codeTo (↑x_2 : Int).toNat x_3).fst
 ((1 : Int) * (2 : Int) ^ (↑(kOf x) : Int).toNat).toNat)).fst <
 (1 : Int) ∧
 false = true) ∧
 (¬(waysF (↑(kOf x) : Int)
 (nthTo (codeTo (↑x_2 : Int).toNat x_3).fst
 ((1 : Int) * (2 : Int) ^ (↑(kOf x) : Int).toNat).toNat)).fst <
 (1 : Int) →
 ¬(waysF (↑(kOf x) : Int)
 (nthTo (codeTo (↑x_2 : Int).toNat x_3).fst
 ((1 : Int) * (2 : Int) ^ (↑(kOf x) : Int).toNat).toNat)).fst <
 (1 : Int) ∧
 ¬(waysF (↑(kOf x) : Int)
 (nthTo (codeTo (↑x_2 : Int).toNat x_3).fst
 ((1 : Int) * (2 : Int) ^ (↑(kOf x) : Int).toNat).toNat)).fst <
 (1 : Int) ∧
 Fits IntKind.i64
 ((↑(sumTo (kOf x) x_2) : Int) +
 (waysF (↑(kOf x) : Int)
 (nthTo (codeTo (↑x_2 : Int).toNat x_3).fst
 ((1 : Int) * (2 : Int) ^ (↑(kOf x) : Int).toNat).toNat)).fst) ∧
 Fits IntKind.i64 ((↑x_2 : Int) + (1 : Int)) ∧
 ∃ (x' : Nat),
 x' ≤ facN ((2 : Nat) ^ kOf x) ∧
 facN ((2 : Nat) ^ kOf x) - x' < facN ((2 : Nat) ^ kOf x) - x_2 ∧
 True ∧
 (↑x_2 : Int) + (1 : Int) = (↑x' : Int) ∧
 (↑(sumTo (kOf x) x_2) : Int) +
 (waysF (↑(kOf x) : Int)
 (nthTo (codeTo (↑x_2 : Int).toNat x_3).fst
 ((1 : Int) * (2 : Int) ^ (↑(kOf x) : Int).toNat).toNat)).fst =
 (↑(sumTo (kOf x) x') : Int) ∧
 (↑(facN ((2 : Nat) ^ kOf x)) : Int) = (↑(facN ((2 : Nat) ^ kOf x)) : Int) ∧
 (↑(kOf x) : Int) = (↑(kOf x) : Int) ∧ True)))) ∧
 (¬(↑x_2 : Int) < (↑(facN ((2 : Nat) ^ kOf x)) : Int) →
 ¬(↑x_2 : Int) < (↑(facN ((2 : Nat) ^ kOf x)) : Int) ∧
 True ∧
 ((1 : Int) ≤ (↑(kOf x) : Int) ∧ (↑(kOf x) : Int) ≤ (3 : Int)) ∧
 ((0 : Int) ≤ switchesF (↑(kOf x) : Int) ∧ switchesF (↑(kOf x) : Int) < (64 : Int)) ∧
 Fits IntKind.i64 ((1 : Int) * (2 : Int) ^ (switchesF (↑(kOf x) : Int)).toNat) ∧
 ((↑(sumTo (kOf x) x_2) : Int) = (1 : Int) * (2 : Int) ^ (switchesF (↑(kOf x) : Int)).toNat →
 (↑(sumTo (kOf x) x_2) : Int) = (1 : Int) * (2 : Int) ^ (switchesF (↑(kOf x) : Int)).toNat ∧
 (↑(sumTo (kOf x) x_2) : Int) = (1 : Int) * (2 : Int) ^ (switchesF (↑(kOf x) : Int)).toNat ∧
 ((waksF (↑(kOf x) : Int)).snd = (0 : Int) →
 (waksF (↑(kOf x) : Int)).snd = (0 : Int) ∧
 (waksF (↑(kOf x) : Int)).snd = (0 : Int) ∧
 (waksF (↑(kOf x) : Int)).snd = (0 : Int) ∧
 ((0 : Int) ≤ (waksF (↑(kOf x) : Int)).fst ∧ (waksF (↑(kOf x) : Int)).fst < (64 : Int)) ∧
 Fits IntKind.i64 ((1 : Int) * (2 : Int) ^ (waksF (↑(kOf x) : Int)).fst.toNat) ∧
 ((↑(facN ((2 : Nat) ^ kOf x)) : Int) ≤ (1 : Int) * (2 : Int) ^ (waksF (↑(kOf x) : Int)).fst.toNat →
 (↑(facN ((2 : Nat) ^ kOf x)) : Int) ≤ (1 : Int) * (2 : Int) ^ (waksF (↑(kOf x) : Int)).fst.toNat ∧
 (↑(facN ((2 : Nat) ^ kOf x)) : Int) ≤ (1 : Int) * (2 : Int) ^ (waksF (↑(kOf x) : Int)).fst.toNat ∧
 (↑(facN ((2 : Nat) ^ kOf x)) : Int) ≤ (1 : Int) * (2 : Int) ^ (waksF (↑(kOf x) : Int)).fst.toNat ∧
 True ∧ true = true) ∧
 (¬(↑(facN ((2 : Nat) ^ kOf x)) : Int) ≤ (1 : Int) * (2 : Int) ^ (waksF (↑(kOf x) : Int)).fst.toNat →
 ¬(↑(facN ((2 : Nat) ^ kOf x)) : Int) ≤ (1 : Int) * (2 : Int) ^ (waksF (↑(kOf x) : Int)).fst.toNat ∧
 ¬(↑(facN ((2 : Nat) ^ kOf x)) : Int) ≤ (1 : Int) * (2 : Int) ^ (waksF (↑(kOf x) : Int)).fst.toNat ∧
 ¬(↑(facN ((2 : Nat) ^ kOf x)) : Int) ≤ (1 : Int) * (2 : Int) ^ (waksF (↑(kOf x) : Int)).fst.toNat ∧
 false = true)) ∧
 (¬(waksF (↑(kOf x) : Int)).snd = (0 : Int) →
 ¬(waksF (↑(kOf x) : Int)).snd = (0 : Int) ∧
 ¬(waksF (↑(kOf x) : Int)).snd = (0 : Int) ∧ ¬(waksF (↑(kOf x) : Int)).snd = (0 : Int) ∧ false = true)) ∧
 (¬(↑(sumTo (kOf x) x_2) : Int) = (1 : Int) * (2 : Int) ^ (switchesF (↑(kOf x) : Int)).toNat →
 ¬(↑(sumTo (kOf x) x_2) : Int) = (1 : Int) * (2 : Int) ^ (switchesF (↑(kOf x) : Int)).toNat ∧
 ¬(↑(sumTo (kOf x) x_2) : Int) = (1 : Int) * (2 : Int) ^ (switchesF (↑(kOf x) : Int)).toNat ∧ false = true)))) := by
 kernel_rfl

end Go.SX.Pa

/- Chapter 06 in plain words, part M: the multigraph of a permutation of a Clos network has degree n. -/
namespace Go.SX.Pa

theorem net_ok {x : Int × Int × Int} (h : Byte3 x) : ClosP (netF x).1 (netF x).2.1 (netF x).2.2 ∧ 1 ≤ (netF x).1 * (netF x).2.1 ∧ (netF x).1 * (netF x).2.1 ≤ 12 := by
  obtain ⟨a, b, c⟩ := x
  obtain ⟨ha, hb, hc⟩ := h
  simp only at ha hb hc
  unfold netF
  simp only
  have h1 : 0 ≤ a % 12 := Int.emod_nonneg _ (by omega)
  have h2 : a % 12 < 12 := Int.emod_lt_of_pos _ (by omega)
  generalize hn : a % 12 + 1 = n
  have hn1 : 1 ≤ n := by omega
  have hn2 : n ≤ 12 := by omega
  have h3 : 1 ≤ 12 / n := Int.le_ediv_of_mul_le (by omega) (by omega)
  have h4 : 12 / n * n ≤ 12 := Int.ediv_mul_le _ (by omega)
  have h5 : 0 ≤ b % (12 / n) := Int.emod_nonneg _ (by omega)
  have h6 : b % (12 / n) < 12 / n := Int.emod_lt_of_pos _ (by omega)
  generalize b % (12 / n) = r at h5 h6 ⊢
  have h7 : n * (r + 1) ≤ n * (12 / n) := Int.mul_le_mul_of_nonneg_left (by omega) (by omega)
  have h8 : n * 1 ≤ n * (r + 1) := Int.mul_le_mul_of_nonneg_left (by omega) (by omega)
  have h9 : 1 * (r + 1) ≤ n * (r + 1) := Int.mul_le_mul_of_nonneg_right (by omega) (by omega)
  rw [Int.mul_comm n (12 / n)] at h7
  unfold ClosP
  omega

theorem div_eq_iff' {i n v : Int} (hn : 0 < n) : i / n = v ↔ v * n ≤ i ∧ i < v * n + n := by
  constructor
  · rintro rfl
    have h1 := Int.ediv_mul_le i (b := n) (by omega)
    have h2 := Int.lt_ediv_add_one_mul_self i hn
    rw [Int.add_mul, Int.one_mul] at h2
    omega
  · rintro ⟨h1, h2⟩
    apply Int.le_antisymm
    · exact Int.lt_add_one_iff.1 (Int.ediv_lt_of_lt_mul hn (by rw [Int.add_mul, Int.one_mul]; exact h2))
    · exact Int.le_ediv_of_mul_le hn h1

/-- Numbers of the same n-block: at most n of them. -/
theorem block_le {n v : Int} (hn : 0 < n) (l : List Int) (hl : l.Nodup) (h : ∀ x ∈ l, x / n = v) : (l.length : Int) ≤ n := by
  have := List.Nodup.length_le_of_subset hl (l₂ := (List.range n.toNat).map fun i : Nat => v * n + (i : Int)) fun x hx => by
    have := (div_eq_iff' hn).1 (h x hx)
    exact List.mem_map.2 ⟨(x - v * n).toNat, List.mem_range.2 (by omega), by omega⟩
  rw [List.length_map, List.length_range] at this
  omega

theorem edgesF_getD {n : Int} {perm : List Int} {i : Nat} (h : i < perm.length) : (edgesF n perm).getD i (0, 0) = ((i : Int) / n, perm.getD i 0 / n) := by
  unfold edgesF edgesTo
  simp [List.getD, h]

theorem cntN_mono (a : Nat → Int) (v : Int) {j k : Nat} (h : j ≤ k) : cntN a v j ≤ cntN a v k := by
  induction k with
  | zero => rw [Nat.le_zero.1 h]; exact Nat.le_refl _
  | succ k ih =>
    by_cases e : j = k + 1
    · rw [e]; exact Nat.le_refl _
    · have := ih (by omega)
      rw [cntN_succ]; omega

section
variable {n r : Int} {perm : List Int} (hn : 1 ≤ n) (hr : 1 ≤ r) (hp : PermP perm (n * r))
include hn hp
theorem perm_degA (v : Int) : (cntN (endA (edgesF n perm)) v perm.length : Int) ≤ n := by
  unfold cntN
  rw [List.countP_eq_length_filter]
  have := block_le (n := n) (v := v) (by omega) (((List.range perm.length).filter fun i => decide (endA (edgesF n perm) i = v)).map fun i : Nat => (i : Int)) (by
    refine List.pairwise_map.2 (List.Pairwise.imp ?_ (List.nodup_range.filter _))
    intro a b hab he
    exact hab (by omega)) (fun x hx => by
    obtain ⟨i, hi, rfl⟩ := List.mem_map.1 hx
    obtain ⟨h1, h2⟩ := List.mem_filter.1 hi
    have h2 : endA (edgesF n perm) i = v := by simpa using h2
    unfold endA at h2
    rw [edgesF_getD (List.mem_range.1 h1)] at h2
    exact h2)
  rwa [List.length_map] at this
theorem perm_degB (v : Int) : (cntN (endB (edgesF n perm)) v perm.length : Int) ≤ n := by
  unfold cntN
  rw [List.countP_eq_length_filter]
  obtain ⟨_, _, hnd⟩ := hp
  have := block_le (n := n) (v := v) (by omega) (((List.range perm.length).filter fun i => decide (endB (edgesF n perm) i = v)).map fun i : Nat => perm.getD i 0) (by
    refine List.pairwise_map.2 (List.Pairwise.imp_of_mem ?_ (List.nodup_range.filter _))
    intro a b ha hb hab he
    have h1 := List.mem_range.1 (List.mem_filter.1 ha).1
    have h2 := List.mem_range.1 (List.mem_filter.1 hb).1
    rw [List.getD_eq_getElem?_getD, List.getD_eq_getElem?_getD, List.getElem?_eq_getElem h1, List.getElem?_eq_getElem h2] at he
    simp only [Option.getD_some] at he
    exact hab ((List.getElem_inj hnd).1 he)) (fun x hx => by
    obtain ⟨i, hi, rfl⟩ := List.mem_map.1 hx
    obtain ⟨h1, h2⟩ := List.mem_filter.1 hi
    have h2 : endB (edgesF n perm) i = v := by simpa using h2
    unfold endB at h2
    rw [edgesF_getD (List.mem_range.1 h1)] at h2
    exact h2)
  rwa [List.length_map] at this
include hr
theorem perm_degA0 : n ≤ (cntN (endA (edgesF n perm)) 0 perm.length : Int) := by
  unfold cntN
  rw [List.countP_eq_length_filter]
  obtain ⟨hl, _, _⟩ := hp
  have hnr : n * 1 ≤ n * r := Int.mul_le_mul_of_nonneg_left hr (by omega)
  have := List.Nodup.length_le_of_subset (l₁ := List.range n.toNat) (l₂ := (List.range perm.length).filter fun i => decide (endA (edgesF n perm) i = 0)) List.nodup_range fun i hi => by
    have hi' := List.mem_range.1 hi
    refine List.mem_filter.2 ⟨List.mem_range.2 (by omega), ?_⟩
    rw [decide_eq_true_eq]
    unfold endA
    rw [edgesF_getD (by omega)]
    exact Int.ediv_eq_zero_of_lt (by omega) (by omega)
  rw [List.length_range] at this
  omega
theorem perm_deg : degF (edgesF n perm) = n := by
  have hl : (edgesF n perm).length = perm.length := edgesF_length _ _
  have h1 := (degTo_ge (edgesF n perm) perm.length (by omega) 0).1
  have h2 := perm_degA0 hn hr hp
  have he : degF (edgesF n perm) = (degTo (edgesF n perm) perm.length).2.2 := by unfold degF; rw [hl]
  apply Int.le_antisymm
  · rw [he]
    rcases degTo_at (edgesF n perm) perm.length (by omega) with h | ⟨v, j, hj, h⟩ | ⟨v, j, hj, h⟩
    · omega
    · have := perm_degA hn hp v
      have hm : cntN (endA (edgesF n perm)) v j ≤ cntN (endA (edgesF n perm)) v perm.length := cntN_mono _ _ hj
      omega
    · have := perm_degB hn hp v
      have hm : cntN (endB (edgesF n perm)) v j ≤ cntN (endB (edgesF n perm)) v perm.length := cntN_mono _ _ hj
      omega
  · omega
end
end Go.SX.Pa
