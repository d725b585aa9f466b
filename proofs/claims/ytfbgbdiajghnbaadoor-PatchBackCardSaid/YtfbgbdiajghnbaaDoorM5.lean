/- Parts of the proof, one after the other: Pa8 Pa8E Pa8Q Pa9 PaC Pa10 Pa10E Pa10Q Pa11 Pa11E Pa11Q Pa12 Pa12E Pa12Q PaK PaL PaM. -/
import Derived.Test.YtfbgbdiajghnbaaDoorM4
/- Chapter 06, part 8: the reference's Apply, and the law PatchNumbers. -/
namespace Go.SX.Pa
open Go Go.Proofs
noncomputable section
def g48 (k : Int) (s : ByteArray) : Prop := p48.VC (C48 (k, s)) Tryd.f48 (k, s)
@[reducible] def p3 : PC := ⟨3, [aI, aIs, aCl], [aB], fun _ => True, fun _ => true⟩
def g3 (k : Int) (l : List Int) (c : Cl) : Prop := p3.VC (cx [p17.ci, p18.ci, p19.ci, p20.ci, p21.ci, p22.ci, p23.ci, p24.ci, p25.ci] []) Tryd.f3 (k, l, c)
end
end Go.SX.Pa

/- Printed by VC.lean: what the executor asks. -/
namespace Go.SX.Pa
open Go Go.Proofs
theorem g48_eq (k : Int) (s : ByteArray) : g48 k s = (
 (k = (1 : Int) →
 k = (1 : Int) ∧
 (s = ByteArray.mk #[(49 : UInt8)] → s = ByteArray.mk #[(49 : UInt8)] ∧ [(1 : Int), (0 : Int)] = applyF k.toNat s) ∧
 (¬s = ByteArray.mk #[(49 : UInt8)] → ¬s = ByteArray.mk #[(49 : UInt8)] ∧ [(0 : Int), (1 : Int)] = applyF k.toNat s)) ∧
 (¬k = (1 : Int) →
 ¬k = (1 : Int) ∧
 Fits IntKind.i64 (k - (1 : Int)) ∧
 ((0 : Int) ≤ k - (1 : Int) ∧ k - (1 : Int) < (64 : Int)) ∧
 Fits IntKind.i64 ((1 : Int) * (2 : Int) ^ (k - (1 : Int)).toNat) ∧
 Fits IntKind.i64 (k - (1 : Int)) ∧
 ((1 : Int) ≤ k - (1 : Int) ∧ k - (1 : Int) ≤ (3 : Int)) ∧
 ((0 : Int) ≤ (↑(0 : Nat) : Int) ∧
 (↑(0 : Nat) : Int) ≤ (1 : Int) * (2 : Int) ^ (k - (1 : Int)).toNat ∧ (1 : Int) * (2 : Int) ^ (k - (1 : Int)).toNat ≤ (↑s.size : Int)) ∧
 true = true ∧
 Fits IntKind.i64 ((↑s.size : Int) - (1 : Int) * (2 : Int) ^ (k - (1 : Int)).toNat) ∧
 ((0 : Int) ≤ (↑s.size : Int) - (1 : Int) * (2 : Int) ^ (k - (1 : Int)).toNat ∧
 (↑s.size : Int) - (1 : Int) * (2 : Int) ^ (k - (1 : Int)).toNat ≤ (↑s.size : Int) ∧ (↑s.size : Int) ≤ (↑s.size : Int)) ∧
 true = true ∧
 Fits IntKind.i64 (k - (1 : Int)) ∧
 Fits IntKind.i64 ((1 : Int) * (2 : Int) ^ (k - (1 : Int)).toNat + switchesF (k - (1 : Int))) ∧
 ((0 : Int) ≤ (1 : Int) * (2 : Int) ^ (k - (1 : Int)).toNat ∧
 (1 : Int) * (2 : Int) ^ (k - (1 : Int)).toNat ≤ (1 : Int) * (2 : Int) ^ (k - (1 : Int)).toNat + switchesF (k - (1 : Int)) ∧
 (1 : Int) * (2 : Int) ^ (k - (1 : Int)).toNat + switchesF (k - (1 : Int)) ≤ (↑s.size : Int)) ∧
 true = true ∧
 Fits IntKind.i64 (k - (1 : Int)) ∧
 Fits IntKind.i64 ((1 : Int) * (2 : Int) ^ (k - (1 : Int)).toNat + switchesF (k - (1 : Int))) ∧
 Fits IntKind.i64 ((2 : Int) * switchesF (k - (1 : Int))) ∧
 Fits IntKind.i64 ((1 : Int) * (2 : Int) ^ (k - (1 : Int)).toNat + (2 : Int) * switchesF (k - (1 : Int))) ∧
 ((0 : Int) ≤ (1 : Int) * (2 : Int) ^ (k - (1 : Int)).toNat + switchesF (k - (1 : Int)) ∧
 (1 : Int) * (2 : Int) ^ (k - (1 : Int)).toNat + switchesF (k - (1 : Int)) ≤
 (1 : Int) * (2 : Int) ^ (k - (1 : Int)).toNat + (2 : Int) * switchesF (k - (1 : Int)) ∧
 (1 : Int) * (2 : Int) ^ (k - (1 : Int)).toNat + (2 : Int) * switchesF (k - (1 : Int)) ≤ (↑s.size : Int)) ∧
 true = true ∧
 ((((1 : Int) ≤ k - (1 : Int) ∧ k - (1 : Int) ≤ (3 : Int)) ∧
 (s.extract ((1 : Int) * (2 : Int) ^ (k - (1 : Int)).toNat).toNat
 ((1 : Int) * (2 : Int) ^ (k - (1 : Int)).toNat + switchesF (k - (1 : Int))).toNat).size =
 swN (k - (1 : Int)).toNat ∧
 ∀ (i : Nat),
 i <
 (s.extract ((1 : Int) * (2 : Int) ^ (k - (1 : Int)).toNat).toNat
 ((1 : Int) * (2 : Int) ^ (k - (1 : Int)).toNat + switchesF (k - (1 : Int))).toNat).size →
 bt
 (s.extract ((1 : Int) * (2 : Int) ^ (k - (1 : Int)).toNat).toNat
 ((1 : Int) * (2 : Int) ^ (k - (1 : Int)).toNat + switchesF (k - (1 : Int))).toNat)
 i =
 (48 : Int) ∨
 bt
 (s.extract ((1 : Int) * (2 : Int) ^ (k - (1 : Int)).toNat).toNat
 ((1 : Int) * (2 : Int) ^ (k - (1 : Int)).toNat + switchesF (k - (1 : Int))).toNat)
 i =
 (49 : Int)) ∧
 m53
 (k - (1 : Int),
 s.extract ((1 : Int) * (2 : Int) ^ (k - (1 : Int)).toNat).toNat
 ((1 : Int) * (2 : Int) ^ (k - (1 : Int)).toNat + switchesF (k - (1 : Int))).toNat) <
 m53 (k, s)) ∧
 ((((1 : Int) ≤ k - (1 : Int) ∧ k - (1 : Int) ≤ (3 : Int)) ∧
 (s.extract ((1 : Int) * (2 : Int) ^ (k - (1 : Int)).toNat + switchesF (k - (1 : Int))).toNat
 ((1 : Int) * (2 : Int) ^ (k - (1 : Int)).toNat + (2 : Int) * switchesF (k - (1 : Int))).toNat).size =
 swN (k - (1 : Int)).toNat ∧
 ∀ (i : Nat),
 i <
 (s.extract ((1 : Int) * (2 : Int) ^ (k - (1 : Int)).toNat + switchesF (k - (1 : Int))).toNat
 ((1 : Int) * (2 : Int) ^ (k - (1 : Int)).toNat + (2 : Int) * switchesF (k - (1 : Int))).toNat).size →
 bt
 (s.extract ((1 : Int) * (2 : Int) ^ (k - (1 : Int)).toNat + switchesF (k - (1 : Int))).toNat
 ((1 : Int) * (2 : Int) ^ (k - (1 : Int)).toNat + (2 : Int) * switchesF (k - (1 : Int))).toNat)
 i =
 (48 : Int) ∨
 bt
 (s.extract ((1 : Int) * (2 : Int) ^ (k - (1 : Int)).toNat + switchesF (k - (1 : Int))).toNat
 ((1 : Int) * (2 : Int) ^ (k - (1 : Int)).toNat + (2 : Int) * switchesF (k - (1 : Int))).toNat)
 i =
 (49 : Int)) ∧
 m53
 (k - (1 : Int),
 s.extract ((1 : Int) * (2 : Int) ^ (k - (1 : Int)).toNat + switchesF (k - (1 : Int))).toNat
 ((1 : Int) * (2 : Int) ^ (k - (1 : Int)).toNat + (2 : Int) * switchesF (k - (1 : Int))).toNat) <
 m53 (k, s)) ∧
 (∃ (x0 : Nat),
 x0 ≤ (2 : Nat) * hN k.toNat ∧
 ([applyF (k - (1 : Int)).toNat
 (s.extract ((1 : Int) * (2 : Int) ^ (k - (1 : Int)).toNat).toNat
 ((1 : Int) * (2 : Int) ^ (k - (1 : Int)).toNat + switchesF (k - (1 : Int))).toNat),
 applyF (k - (1 : Int)).toNat
 (s.extract ((1 : Int) * (2 : Int) ^ (k - (1 : Int)).toNat + switchesF (k - (1 : Int))).toNat
 ((1 : Int) * (2 : Int) ^ (k - (1 : Int)).toNat + (2 : Int) * switchesF (k - (1 : Int))).toNat)] =
 [applyF (k - (1 : Int)).toNat
 (s.extract ((1 : Int) * (2 : Int) ^ (k - (1 : Int)).toNat).toNat
 ((1 : Int) * (2 : Int) ^ (k - (1 : Int)).toNat + switchesF (k - (1 : Int))).toNat),
 applyF (k - (1 : Int)).toNat
 (s.extract ((1 : Int) * (2 : Int) ^ (k - (1 : Int)).toNat + switchesF (k - (1 : Int))).toNat
 ((1 : Int) * (2 : Int) ^ (k - (1 : Int)).toNat + (2 : Int) * switchesF (k - (1 : Int))).toNat)] ∧
 [] = List.map (applyEl k.toNat s) (List.range x0) ∧ True) ∧
 (0 : Int) = (↑x0 : Int) ∧
 True ∧
 True ∧
 s.extract ((↑s.size : Int) - (1 : Int) * (2 : Int) ^ (k - (1 : Int)).toNat).toNat (↑s.size : Int).toNat =
 s.extract ((↑s.size : Int) - (1 : Int) * (2 : Int) ^ (k - (1 : Int)).toNat).toNat (↑s.size : Int).toNat ∧
 s.extract (↑(0 : Nat) : Int).toNat ((1 : Int) * (2 : Int) ^ (k - (1 : Int)).toNat).toNat =
 s.extract (↑(0 : Nat) : Int).toNat ((1 : Int) * (2 : Int) ^ (k - (1 : Int)).toNat).toNat ∧
 (1 : Int) * (2 : Int) ^ (k - (1 : Int)).toNat = (1 : Int) * (2 : Int) ^ (k - (1 : Int)).toNat ∧ True) ∧
 ∀ (x : Nat),
 x ≤ (2 : Nat) * hN k.toNat →
 Fits IntKind.i64 ((2 : Int) * ((1 : Int) * (2 : Int) ^ (k - (1 : Int)).toNat)) ∧
 ((↑x : Int) < (2 : Int) * ((1 : Int) * (2 : Int) ^ (k - (1 : Int)).toNat) →
 (↑x : Int) < (2 : Int) * ((1 : Int) * (2 : Int) ^ (k - (1 : Int)).toNat) ∧
 ((0 : Int) ≤ (↑x : Int) ∧ (0 : Int) < (2 : Int)) ∧
 Fits IntKind.i64 ((↑x : Int) / (2 : Int)) ∧
 ((0 : Int) ≤ (↑x : Int) / (2 : Int) ∧
 (↑x : Int) / (2 : Int) <
 (↑(s.extract (↑(0 : Nat) : Int).toNat ((1 : Int) * (2 : Int) ^ (k - (1 : Int)).toNat).toNat).size :
 Int)) ∧
 Fits IntKind.i64
 (IntKind.u8.wrap
 (bt (s.extract (↑(0 : Nat) : Int).toNat ((1 : Int) * (2 : Int) ^ (k - (1 : Int)).toNat).toNat)
 ((↑x : Int) / (2 : Int)).toNat -
 (48 : Int))) ∧
 ((0 : Int) ≤
 bitsF BinOp.xor IntKind.i64 (bitsF BinOp.and IntKind.i64 (↑x : Int) (1 : Int))
 (IntKind.u8.wrap
 (bt (s.extract (↑(0 : Nat) : Int).toNat ((1 : Int) * (2 : Int) ^ (k - (1 : Int)).toNat).toNat)
 ((↑x : Int) / (2 : Int)).toNat -
 (48 : Int))) ∧
 bitsF BinOp.xor IntKind.i64 (bitsF BinOp.and IntKind.i64 (↑x : Int) (1 : Int))
 (IntKind.u8.wrap
 (bt (s.extract (↑(0 : Nat) : Int).toNat ((1 : Int) * (2 : Int) ^ (k - (1 : Int)).toNat).toNat)
 ((↑x : Int) / (2 : Int)).toNat -
 (48 : Int))) <
 (↑((0 : Nat) + (1 : Nat) + (1 : Nat)) : Int)) ∧
 ((0 : Int) ≤ (↑x : Int) ∧ (0 : Int) < (2 : Int)) ∧
 Fits IntKind.i64 ((↑x : Int) / (2 : Int)) ∧
 ((0 : Int) ≤ (↑x : Int) / (2 : Int) ∧
 (↑x : Int) / (2 : Int) <
 (↑([applyF (k - (1 : Int)).toNat
 (s.extract ((1 : Int) * (2 : Int) ^ (k - (1 : Int)).toNat).toNat
 ((1 : Int) * (2 : Int) ^ (k - (1 : Int)).toNat +
 switchesF (k - (1 : Int))).toNat),
 applyF (k - (1 : Int)).toNat
 (s.extract
 ((1 : Int) * (2 : Int) ^ (k - (1 : Int)).toNat +
 switchesF (k - (1 : Int))).toNat
 ((1 : Int) * (2 : Int) ^ (k - (1 : Int)).toNat +
 (2 : Int) * switchesF (k - (1 : Int))).toNat)].getD
 (bitsF BinOp.xor IntKind.i64 (bitsF BinOp.and IntKind.i64 (↑x : Int) (1 : Int))
 (IntKind.u8.wrap
 (bt
 (s.extract (↑(0 : Nat) : Int).toNat
 ((1 : Int) * (2 : Int) ^ (k - (1 : Int)).toNat).toNat)
 ((↑x : Int) / (2 : Int)).toNat -
 (48 : Int)))).toNat
 []).length :
 Int)) ∧
 Fits IntKind.i64
 ((2 : Int) *
 ([applyF (k - (1 : Int)).toNat
 (s.extract ((1 : Int) * (2 : Int) ^ (k - (1 : Int)).toNat).toNat
 ((1 : Int) * (2 : Int) ^ (k - (1 : Int)).toNat +
 switchesF (k - (1 : Int))).toNat),
 applyF (k - (1 : Int)).toNat
 (s.extract
 ((1 : Int) * (2 : Int) ^ (k - (1 : Int)).toNat +
 switchesF (k - (1 : Int))).toNat
 ((1 : Int) * (2 : Int) ^ (k - (1 : Int)).toNat +
 (2 : Int) * switchesF (k - (1 : Int))).toNat)].getD
 (bitsF BinOp.xor IntKind.i64 (bitsF BinOp.and IntKind.i64 (↑x : Int) (1 : Int))
 (IntKind.u8.wrap
 (bt
 (s.extract (↑(0 : Nat) : Int).toNat
 ((1 : Int) * (2 : Int) ^ (k - (1 : Int)).toNat).toNat)
 ((↑x : Int) / (2 : Int)).toNat -
 (48 : Int)))).toNat
 []).getD
 ((↑x : Int) / (2 : Int)).toNat (0 : Int)) ∧
 ((0 : Int) ≤
 ([applyF (k - (1 : Int)).toNat
 (s.extract ((1 : Int) * (2 : Int) ^ (k - (1 : Int)).toNat).toNat
 ((1 : Int) * (2 : Int) ^ (k - (1 : Int)).toNat +
 switchesF (k - (1 : Int))).toNat),
 applyF (k - (1 : Int)).toNat
 (s.extract
 ((1 : Int) * (2 : Int) ^ (k - (1 : Int)).toNat +
 switchesF (k - (1 : Int))).toNat
 ((1 : Int) * (2 : Int) ^ (k - (1 : Int)).toNat +
 (2 : Int) * switchesF (k - (1 : Int))).toNat)].getD
 (bitsF BinOp.xor IntKind.i64 (bitsF BinOp.and IntKind.i64 (↑x : Int) (1 : Int))
 (IntKind.u8.wrap
 (bt
 (s.extract (↑(0 : Nat) : Int).toNat
 ((1 : Int) * (2 : Int) ^ (k - (1 : Int)).toNat).toNat)
 ((↑x : Int) / (2 : Int)).toNat -
 (48 : Int)))).toNat
 []).getD
 ((↑x : Int) / (2 : Int)).toNat (0 : Int) ∧
 ([applyF (k - (1 : Int)).toNat
 (s.extract ((1 : Int) * (2 : Int) ^ (k - (1 : Int)).toNat).toNat
 ((1 : Int) * (2 : Int) ^ (k - (1 : Int)).toNat +
 switchesF (k - (1 : Int))).toNat),
 applyF (k - (1 : Int)).toNat
 (s.extract
 ((1 : Int) * (2 : Int) ^ (k - (1 : Int)).toNat +
 switchesF (k - (1 : Int))).toNat
 ((1 : Int) * (2 : Int) ^ (k - (1 : Int)).toNat +
 (2 : Int) * switchesF (k - (1 : Int))).toNat)].getD
 (bitsF BinOp.xor IntKind.i64 (bitsF BinOp.and IntKind.i64 (↑x : Int) (1 : Int))
 (IntKind.u8.wrap
 (bt
 (s.extract (↑(0 : Nat) : Int).toNat
 ((1 : Int) * (2 : Int) ^ (k - (1 : Int)).toNat).toNat)
 ((↑x : Int) / (2 : Int)).toNat -
 (48 : Int)))).toNat
 []).getD
 ((↑x : Int) / (2 : Int)).toNat (0 : Int) <
 (↑(s.extract ((↑s.size : Int) - (1 : Int) * (2 : Int) ^ (k - (1 : Int)).toNat).toNat
 (↑s.size : Int).toNat).size :
 Int)) ∧
 Fits IntKind.i64
 (IntKind.u8.wrap
 (bt
 (s.extract ((↑s.size : Int) - (1 : Int) * (2 : Int) ^ (k - (1 : Int)).toNat).toNat
 (↑s.size : Int).toNat)
 (([applyF (k - (1 : Int)).toNat
 (s.extract ((1 : Int) * (2 : Int) ^ (k - (1 : Int)).toNat).toNat
 ((1 : Int) * (2 : Int) ^ (k - (1 : Int)).toNat +
 switchesF (k - (1 : Int))).toNat),
 applyF (k - (1 : Int)).toNat
 (s.extract
 ((1 : Int) * (2 : Int) ^ (k - (1 : Int)).toNat +
 switchesF (k - (1 : Int))).toNat
 ((1 : Int) * (2 : Int) ^ (k - (1 : Int)).toNat +
 (2 : Int) * switchesF (k - (1 : Int))).toNat)].getD
 (bitsF BinOp.xor IntKind.i64
 (bitsF BinOp.and IntKind.i64 (↑x : Int) (1 : Int))
 (IntKind.u8.wrap
 (bt
 (s.extract (↑(0 : Nat) : Int).toNat
 ((1 : Int) * (2 : Int) ^ (k - (1 : Int)).toNat).toNat)
 ((↑x : Int) / (2 : Int)).toNat -
 (48 : Int)))).toNat
 []).getD
 ((↑x : Int) / (2 : Int)).toNat (0 : Int)).toNat -
 (48 : Int))) ∧
 Fits IntKind.i64
 ((2 : Int) *
 ([applyF (k - (1 : Int)).toNat
 (s.extract ((1 : Int) * (2 : Int) ^ (k - (1 : Int)).toNat).toNat
 ((1 : Int) * (2 : Int) ^ (k - (1 : Int)).toNat +
 switchesF (k - (1 : Int))).toNat),
 applyF (k - (1 : Int)).toNat
 (s.extract
 ((1 : Int) * (2 : Int) ^ (k - (1 : Int)).toNat +
 switchesF (k - (1 : Int))).toNat
 ((1 : Int) * (2 : Int) ^ (k - (1 : Int)).toNat +
 (2 : Int) * switchesF (k - (1 : Int))).toNat)].getD
 (bitsF BinOp.xor IntKind.i64 (bitsF BinOp.and IntKind.i64 (↑x : Int) (1 : Int))
 (IntKind.u8.wrap
 (bt
 (s.extract (↑(0 : Nat) : Int).toNat
 ((1 : Int) * (2 : Int) ^ (k - (1 : Int)).toNat).toNat)
 ((↑x : Int) / (2 : Int)).toNat -
 (48 : Int)))).toNat
 []).getD
 ((↑x : Int) / (2 : Int)).toNat (0 : Int) +
 bitsF BinOp.xor IntKind.i64
 (bitsF BinOp.xor IntKind.i64 (bitsF BinOp.and IntKind.i64 (↑x : Int) (1 : Int))
 (IntKind.u8.wrap
 (bt
 (s.extract (↑(0 : Nat) : Int).toNat
 ((1 : Int) * (2 : Int) ^ (k - (1 : Int)).toNat).toNat)
 ((↑x : Int) / (2 : Int)).toNat -
 (48 : Int))))
 (IntKind.u8.wrap
 (bt
 (s.extract
 ((↑s.size : Int) - (1 : Int) * (2 : Int) ^ (k - (1 : Int)).toNat).toNat
 (↑s.size : Int).toNat)
 (([applyF (k - (1 : Int)).toNat
 (s.extract ((1 : Int) * (2 : Int) ^ (k - (1 : Int)).toNat).toNat
 ((1 : Int) * (2 : Int) ^ (k - (1 : Int)).toNat +
 switchesF (k - (1 : Int))).toNat),
 applyF (k - (1 : Int)).toNat
 (s.extract
 ((1 : Int) * (2 : Int) ^ (k - (1 : Int)).toNat +
 switchesF (k - (1 : Int))).toNat
 ((1 : Int) * (2 : Int) ^ (k - (1 : Int)).toNat +
 (2 : Int) * switchesF (k - (1 : Int))).toNat)].getD
 (bitsF BinOp.xor IntKind.i64
 (bitsF BinOp.and IntKind.i64 (↑x : Int) (1 : Int))
 (IntKind.u8.wrap
 (bt
 (s.extract (↑(0 : Nat) : Int).toNat
 ((1 : Int) * (2 : Int) ^ (k - (1 : Int)).toNat).toNat)
 ((↑x : Int) / (2 : Int)).toNat -
 (48 : Int)))).toNat
 []).getD
 ((↑x : Int) / (2 : Int)).toNat (0 : Int)).toNat -
 (48 : Int)))) ∧
 Small ((List.map (applyEl k.toNat s) (List.range x)).length + ((0 : Nat) + (1 : Nat))) ∧
 Fits IntKind.i64 ((↑x : Int) + (1 : Int)) ∧
 ∃ (x' : Nat),
 x' ≤ (2 : Nat) * hN k.toNat ∧
 (2 : Nat) * hN k.toNat - x' < (2 : Nat) * hN k.toNat - x ∧
 ([applyF (k - (1 : Int)).toNat
 (s.extract ((1 : Int) * (2 : Int) ^ (k - (1 : Int)).toNat).toNat
 ((1 : Int) * (2 : Int) ^ (k - (1 : Int)).toNat +
 switchesF (k - (1 : Int))).toNat),
 applyF (k - (1 : Int)).toNat
 (s.extract
 ((1 : Int) * (2 : Int) ^ (k - (1 : Int)).toNat +
 switchesF (k - (1 : Int))).toNat
 ((1 : Int) * (2 : Int) ^ (k - (1 : Int)).toNat +
 (2 : Int) * switchesF (k - (1 : Int))).toNat)] =
 [applyF (k - (1 : Int)).toNat
 (s.extract ((1 : Int) * (2 : Int) ^ (k - (1 : Int)).toNat).toNat
 ((1 : Int) * (2 : Int) ^ (k - (1 : Int)).toNat +
 switchesF (k - (1 : Int))).toNat),
 applyF (k - (1 : Int)).toNat
 (s.extract
 ((1 : Int) * (2 : Int) ^ (k - (1 : Int)).toNat +
 switchesF (k - (1 : Int))).toNat
 ((1 : Int) * (2 : Int) ^ (k - (1 : Int)).toNat +
 (2 : Int) * switchesF (k - (1 : Int))).toNat)] ∧
 List.map (applyEl k.toNat s) (List.range x) ++
 [(2 : Int) *
 ([applyF (k - (1 : Int)).toNat
 (s.extract
 ((1 : Int) *
 (2 : Int) ^ (k - (1 : Int)).toNat).toNat
 ((1 : Int) * (2 : Int) ^ (k - (1 : Int)).toNat +
 switchesF (k - (1 : Int))).toNat),
 applyF (k - (1 : Int)).toNat
 (s.extract
 ((1 : Int) * (2 : Int) ^ (k - (1 : Int)).toNat +
 switchesF (k - (1 : Int))).toNat
 ((1 : Int) * (2 : Int) ^ (k - (1 : Int)).toNat +
 (2 : Int) *
 switchesF (k - (1 : Int))).toNat)].getD
 (bitsF BinOp.xor IntKind.i64
 (bitsF BinOp.and IntKind.i64 (↑x : Int) (1 : Int))
 (IntKind.u8.wrap
 (bt
 (s.extract (↑(0 : Nat) : Int).toNat
 ((1 : Int) *
 (2 : Int) ^ (k - (1 : Int)).toNat).toNat)
 ((↑x : Int) / (2 : Int)).toNat -
 (48 : Int)))).toNat
 []).getD
 ((↑x : Int) / (2 : Int)).toNat (0 : Int) +
 bitsF BinOp.xor IntKind.i64
 (bitsF BinOp.xor IntKind.i64
 (bitsF BinOp.and IntKind.i64 (↑x : Int) (1 : Int))
 (IntKind.u8.wrap
 (bt
 (s.extract (↑(0 : Nat) : Int).toNat
 ((1 : Int) * (2 : Int) ^ (k - (1 : Int)).toNat).toNat)
 ((↑x : Int) / (2 : Int)).toNat -
 (48 : Int))))
 (IntKind.u8.wrap
 (bt
 (s.extract
 ((↑s.size : Int) -
 (1 : Int) * (2 : Int) ^ (k - (1 : Int)).toNat).toNat
 (↑s.size : Int).toNat)
 (([applyF (k - (1 : Int)).toNat
 (s.extract
 ((1 : Int) *
 (2 : Int) ^ (k - (1 : Int)).toNat).toNat
 ((1 : Int) *
 (2 : Int) ^ (k - (1 : Int)).toNat +
 switchesF (k - (1 : Int))).toNat),
 applyF (k - (1 : Int)).toNat
 (s.extract
 ((1 : Int) *
 (2 : Int) ^ (k - (1 : Int)).toNat +
 switchesF (k - (1 : Int))).toNat
 ((1 : Int) *
 (2 : Int) ^ (k - (1 : Int)).toNat +
 (2 : Int) *
 switchesF
 (k - (1 : Int))).toNat)].getD
 (bitsF BinOp.xor IntKind.i64
 (bitsF BinOp.and IntKind.i64 (↑x : Int)
 (1 : Int))
 (IntKind.u8.wrap
 (bt
 (s.extract (↑(0 : Nat) : Int).toNat
 ((1 : Int) *
 (2 : Int) ^
 (k - (1 : Int)).toNat).toNat)
 ((↑x : Int) / (2 : Int)).toNat -
 (48 : Int)))).toNat
 []).getD
 ((↑x : Int) / (2 : Int)).toNat (0 : Int)).toNat -
 (48 : Int)))] =
 List.map (applyEl k.toNat s) (List.range x') ∧
 True) ∧
 (↑x : Int) + (1 : Int) = (↑x' : Int) ∧
 True ∧
 True ∧
 s.extract
 ((↑s.size : Int) -
 (1 : Int) * (2 : Int) ^ (k - (1 : Int)).toNat).toNat
 (↑s.size : Int).toNat =
 s.extract
 ((↑s.size : Int) -
 (1 : Int) * (2 : Int) ^ (k - (1 : Int)).toNat).toNat
 (↑s.size : Int).toNat ∧
 s.extract (↑(0 : Nat) : Int).toNat
 ((1 : Int) * (2 : Int) ^ (k - (1 : Int)).toNat).toNat =
 s.extract (↑(0 : Nat) : Int).toNat
 ((1 : Int) * (2 : Int) ^ (k - (1 : Int)).toNat).toNat ∧
 (1 : Int) * (2 : Int) ^ (k - (1 : Int)).toNat =
 (1 : Int) * (2 : Int) ^ (k - (1 : Int)).toNat ∧
 True) ∧
 (¬(↑x : Int) < (2 : Int) * ((1 : Int) * (2 : Int) ^ (k - (1 : Int)).toNat) →
 ¬(↑x : Int) < (2 : Int) * ((1 : Int) * (2 : Int) ^ (k - (1 : Int)).toNat) ∧
 List.map (applyEl k.toNat s) (List.range x) = applyF k.toNat s))) := by
 kernel_rfl

theorem g3_eq (k : Int) (l : List Int) (c : Cl) : g3 k l c = (
 True ∧
 (List.take (13 : Nat) l).length ≤ (1000 : Nat) ∧
 True ∧
 True ∧
 True ∧
 ((!decide ((1 : Int) ≤ k ∧ k ≤ (2 : Int))) = true →
 (!decide ((1 : Int) ≤ k ∧ k ≤ (2 : Int))) = true ∧
 (!decide ((1 : Int) ≤ k ∧ k ≤ (2 : Int))) = true ∧
 (¬(waysF k (List.take (13 : Nat) l)).fst = (0 : Int) →
 ¬(waysF k (List.take (13 : Nat) l)).fst = (0 : Int) ∧ ¬(waysF k (List.take (13 : Nat) l)).fst = (0 : Int) ∧ false = true) ∧
 (¬¬(waysF k (List.take (13 : Nat) l)).fst = (0 : Int) →
 ¬¬(waysF k (List.take (13 : Nat) l)).fst = (0 : Int) ∧
 ¬¬(waysF k (List.take (13 : Nat) l)).fst = (0 : Int) ∧
 (¬(waysF k (List.take (13 : Nat) l)).snd = (1 : Int) →
 ¬(waysF k (List.take (13 : Nat) l)).snd = (1 : Int) ∧ ¬(waysF k (List.take (13 : Nat) l)).snd = (1 : Int) ∧ false = true) ∧
 (¬¬(waysF k (List.take (13 : Nat) l)).snd = (1 : Int) →
 ¬¬(waysF k (List.take (13 : Nat) l)).snd = (1 : Int) ∧
 ¬¬(waysF k (List.take (13 : Nat) l)).snd = (1 : Int) ∧
 True ∧
 (¬decide ((1 : Int) ≤ k ∧ k ≤ (20 : Int)) = decide ((waksF k).snd = (0 : Int)) →
 ¬decide ((1 : Int) ≤ k ∧ k ≤ (20 : Int)) = decide ((waksF k).snd = (0 : Int)) ∧
 ¬decide ((1 : Int) ≤ k ∧ k ≤ (20 : Int)) = decide ((waksF k).snd = (0 : Int)) ∧ false = true) ∧
 (¬¬decide ((1 : Int) ≤ k ∧ k ≤ (20 : Int)) = decide ((waksF k).snd = (0 : Int)) →
 ¬¬decide ((1 : Int) ≤ k ∧ k ≤ (20 : Int)) = decide ((waksF k).snd = (0 : Int)) ∧
 ¬¬decide ((1 : Int) ≤ k ∧ k ≤ (20 : Int)) = decide ((waksF k).snd = (0 : Int)) ∧
 (¬(waksF k).snd = (0 : Int) →
 ¬(waksF k).snd = (0 : Int) ∧
 ¬(waksF k).snd = (0 : Int) ∧
 (¬(waksF k).fst = (0 : Int) → ¬(waksF k).fst = (0 : Int) ∧ ¬(waksF k).fst = (0 : Int) ∧ false = true) ∧
 (¬¬(waksF k).fst = (0 : Int) →
 ¬¬(waksF k).fst = (0 : Int) ∧
 ¬¬(waksF k).fst = (0 : Int) ∧
 (¬(waksF k).snd = (1 : Int) →
 ¬(waksF k).snd = (1 : Int) ∧
 ¬(waksF k).snd = (1 : Int) ∧
 ¬(waksF k).snd = (1 : Int) ∧ ¬(waksF k).snd = (1 : Int) ∧ ¬(waksF k).snd = (1 : Int) ∧ false = true) ∧
 (¬¬(waksF k).snd = (1 : Int) →
 ¬¬(waksF k).snd = (1 : Int) ∧
 ¬¬(waksF k).snd = (1 : Int) ∧
 ¬¬(waksF k).snd = (1 : Int) ∧
 ¬¬(waksF k).snd = (1 : Int) ∧
 ¬¬(waksF k).snd = (1 : Int) ∧
 ((waksF k).snd = (0 : Int) →
 (waksF k).snd = (0 : Int) ∧
 (waksF k).snd = (0 : Int) ∧
 ((0 : Int) ≤ k ∧ k < (64 : Int)) ∧
 Fits IntKind.i64 (k * (2 : Int) ^ k.toNat) ∧
 ((0 : Int) ≤ k ∧ k < (64 : Int)) ∧
 Fits IntKind.i64 ((1 : Int) * (2 : Int) ^ k.toNat) ∧
 Fits IntKind.i64 (k * (2 : Int) ^ k.toNat - (1 : Int) * (2 : Int) ^ k.toNat) ∧
 Fits IntKind.i64
 (k * (2 : Int) ^ k.toNat - (1 : Int) * (2 : Int) ^ k.toNat + (1 : Int)) ∧
 (¬(waksF k).fst =
 k * (2 : Int) ^ k.toNat - (1 : Int) * (2 : Int) ^ k.toNat + (1 : Int) →
 ¬(waksF k).fst =
 k * (2 : Int) ^ k.toNat - (1 : Int) * (2 : Int) ^ k.toNat + (1 : Int) ∧
 ¬(waksF k).fst =
 k * (2 : Int) ^ k.toNat - (1 : Int) * (2 : Int) ^ k.toNat + (1 : Int) ∧
 ¬(waksF k).fst =
 k * (2 : Int) ^ k.toNat - (1 : Int) * (2 : Int) ^ k.toNat + (1 : Int) ∧
 false = true) ∧
 (¬¬(waksF k).fst =
 k * (2 : Int) ^ k.toNat - (1 : Int) * (2 : Int) ^ k.toNat + (1 : Int) →
 ¬¬(waksF k).fst =
 k * (2 : Int) ^ k.toNat - (1 : Int) * (2 : Int) ^ k.toNat + (1 : Int) ∧
 ¬¬(waksF k).fst =
 k * (2 : Int) ^ k.toNat - (1 : Int) * (2 : Int) ^ k.toNat + (1 : Int) ∧
 ¬¬(waksF k).fst =
 k * (2 : Int) ^ k.toNat - (1 : Int) * (2 : Int) ^ k.toNat +
 (1 : Int) ∧
 True ∧
 ((!decide (ClosP c.fst c.snd.fst c.snd.snd)) = true →
 (!decide (ClosP c.fst c.snd.fst c.snd.snd)) = true ∧
 ((!(strictF c.fst c.snd.fst c.snd.snd).fst) = true →
 (!(strictF c.fst c.snd.fst c.snd.snd).fst) = true ∧
 (!(strictF c.fst c.snd.fst c.snd.snd).fst) = true ∧
 ((strictF c.fst c.snd.fst c.snd.snd).snd = (1 : Int) →
 (strictF c.fst c.snd.fst c.snd.snd).snd = (1 : Int) ∧
 (strictF c.fst c.snd.fst c.snd.snd).snd = (1 : Int) ∧
 (strictF c.fst c.snd.fst c.snd.snd).snd =
 (1 : Int) ∧
 True ∧ true = true) ∧
 (¬(strictF c.fst c.snd.fst c.snd.snd).snd = (1 : Int) →
 ¬(strictF c.fst c.snd.fst c.snd.snd).snd = (1 : Int) ∧
 ¬(strictF c.fst c.snd.fst c.snd.snd).snd = (1 : Int) ∧
 ¬(strictF c.fst c.snd.fst c.snd.snd).snd =
 (1 : Int) ∧
 false = true)) ∧
 ((!(strictF c.fst c.snd.fst c.snd.snd).fst) = false →
 (!(strictF c.fst c.snd.fst c.snd.snd).fst) = false ∧
 (!(strictF c.fst c.snd.fst c.snd.snd).fst) = false ∧
 false = true)) ∧
 ((!decide (ClosP c.fst c.snd.fst c.snd.snd)) = false →
 (!decide (ClosP c.fst c.snd.fst c.snd.snd)) = false ∧
 Fits IntKind.i64 ((2 : Int) * c.fst) ∧
 Fits IntKind.i64 ((2 : Int) * c.fst - (1 : Int)) ∧
 ((2 : Int) * c.fst - (1 : Int) ≤ c.snd.snd →
 (2 : Int) * c.fst - (1 : Int) ≤ c.snd.snd ∧
 (2 : Int) * c.fst - (1 : Int) ≤ c.snd.snd ∧
 ((strictF c.fst c.snd.fst c.snd.snd).fst = true →
 (strictF c.fst c.snd.fst c.snd.snd).fst = true ∧
 (strictF c.fst c.snd.fst c.snd.snd).fst = true ∧
 ((strictF c.fst c.snd.fst c.snd.snd).snd =
 (0 : Int) →
 (strictF c.fst c.snd.fst c.snd.snd).snd =
 (0 : Int) ∧
 (strictF c.fst c.snd.fst c.snd.snd).snd =
 (0 : Int) ∧
 (strictF c.fst c.snd.fst
 c.snd.snd).snd =
 (0 : Int) ∧
 True ∧ true = true) ∧
 (¬(strictF c.fst c.snd.fst c.snd.snd).snd =
 (0 : Int) →
 ¬(strictF c.fst c.snd.fst c.snd.snd).snd =
 (0 : Int) ∧
 ¬(strictF c.fst c.snd.fst c.snd.snd).snd =
 (0 : Int) ∧
 ¬(strictF c.fst c.snd.fst
 c.snd.snd).snd =
 (0 : Int) ∧
 false = true)) ∧
 (¬(strictF c.fst c.snd.fst c.snd.snd).fst = true →
 ¬(strictF c.fst c.snd.fst c.snd.snd).fst = true ∧
 ¬(strictF c.fst c.snd.fst c.snd.snd).fst = true ∧
 false = true)) ∧
 (¬(2 : Int) * c.fst - (1 : Int) ≤ c.snd.snd →
 ¬(2 : Int) * c.fst - (1 : Int) ≤ c.snd.snd ∧
 ¬(2 : Int) * c.fst - (1 : Int) ≤ c.snd.snd ∧
 (c.snd.fst = (1 : Int) →
 c.snd.fst = (1 : Int) ∧
 c.snd.fst = (1 : Int) ∧
 ((strictF c.fst c.snd.fst c.snd.snd).fst =
 decide (c.fst ≤ c.snd.snd) →
 (strictF c.fst c.snd.fst c.snd.snd).fst =
 decide (c.fst ≤ c.snd.snd) ∧
 (strictF c.fst c.snd.fst c.snd.snd).fst =
 decide (c.fst ≤ c.snd.snd) ∧
 ((strictF c.fst c.snd.fst
 c.snd.snd).snd =
 (0 : Int) →
 (strictF c.fst c.snd.fst
 c.snd.snd).snd =
 (0 : Int) ∧
 (strictF c.fst c.snd.fst
 c.snd.snd).snd =
 (0 : Int) ∧
 (strictF c.fst c.snd.fst
 c.snd.snd).snd =
 (0 : Int) ∧
 True ∧ true = true) ∧
 (¬(strictF c.fst c.snd.fst
 c.snd.snd).snd =
 (0 : Int) →
 ¬(strictF c.fst c.snd.fst
 c.snd.snd).snd =
 (0 : Int) ∧
 ¬(strictF c.fst c.snd.fst
 c.snd.snd).snd =
 (0 : Int) ∧
 ¬(strictF c.fst c.snd.fst
 c.snd.snd).snd =
 (0 : Int) ∧
 false = true)) ∧
 (¬(strictF c.fst c.snd.fst c.snd.snd).fst =
 decide (c.fst ≤ c.snd.snd) →
 ¬(strictF c.fst c.snd.fst c.snd.snd).fst =
 decide (c.fst ≤ c.snd.snd) ∧
 ¬(strictF c.fst c.snd.fst c.snd.snd).fst =
 decide (c.fst ≤ c.snd.snd) ∧
 false = true)) ∧
 (¬c.snd.fst = (1 : Int) →
 ¬c.snd.fst = (1 : Int) ∧
 ¬c.snd.fst = (1 : Int) ∧
 ((strictF c.fst c.snd.fst c.snd.snd).fst =
 false →
 (strictF c.fst c.snd.fst c.snd.snd).fst =
 false ∧
 (strictF c.fst c.snd.fst c.snd.snd).fst =
 false ∧
 ((strictF c.fst c.snd.fst
 c.snd.snd).snd =
 (0 : Int) →
 (strictF c.fst c.snd.fst
 c.snd.snd).snd =
 (0 : Int) ∧
 (strictF c.fst c.snd.fst
 c.snd.snd).snd =
 (0 : Int) ∧
 (strictF c.fst c.snd.fst
 c.snd.snd).snd =
 (0 : Int) ∧
 True ∧ true = true) ∧
 (¬(strictF c.fst c.snd.fst
 c.snd.snd).snd =
 (0 : Int) →
 ¬(strictF c.fst c.snd.fst
 c.snd.snd).snd =
 (0 : Int) ∧
 ¬(strictF c.fst c.snd.fst
 c.snd.snd).snd =
 (0 : Int) ∧
 ¬(strictF c.fst c.snd.fst
 c.snd.snd).snd =
 (0 : Int) ∧
 false = true)) ∧
 (¬(strictF c.fst c.snd.fst c.snd.snd).fst =
 false →
 ¬(strictF c.fst c.snd.fst c.snd.snd).fst =
 false ∧
 ¬(strictF c.fst c.snd.fst c.snd.snd).fst =
 false ∧
 false = true)))))) ∧
 (¬(waksF k).snd = (0 : Int) →
 ¬(waksF k).snd = (0 : Int) ∧
 ¬(waksF k).snd = (0 : Int) ∧
 True ∧
 ((!decide (ClosP c.fst c.snd.fst c.snd.snd)) = true →
 (!decide (ClosP c.fst c.snd.fst c.snd.snd)) = true ∧
 ((!(strictF c.fst c.snd.fst c.snd.snd).fst) = true →
 (!(strictF c.fst c.snd.fst c.snd.snd).fst) = true ∧
 (!(strictF c.fst c.snd.fst c.snd.snd).fst) = true ∧
 ((strictF c.fst c.snd.fst c.snd.snd).snd = (1 : Int) →
 (strictF c.fst c.snd.fst c.snd.snd).snd = (1 : Int) ∧
 (strictF c.fst c.snd.fst c.snd.snd).snd = (1 : Int) ∧
 (strictF c.fst c.snd.fst c.snd.snd).snd = (1 : Int) ∧
 True ∧ true = true) ∧
 (¬(strictF c.fst c.snd.fst c.snd.snd).snd = (1 : Int) →
 ¬(strictF c.fst c.snd.fst c.snd.snd).snd = (1 : Int) ∧
 ¬(strictF c.fst c.snd.fst c.snd.snd).snd = (1 : Int) ∧
 ¬(strictF c.fst c.snd.fst c.snd.snd).snd = (1 : Int) ∧ false = true)) ∧
 ((!(strictF c.fst c.snd.fst c.snd.snd).fst) = false →
 (!(strictF c.fst c.snd.fst c.snd.snd).fst) = false ∧
 (!(strictF c.fst c.snd.fst c.snd.snd).fst) = false ∧ false = true)) ∧
 ((!decide (ClosP c.fst c.snd.fst c.snd.snd)) = false →
 (!decide (ClosP c.fst c.snd.fst c.snd.snd)) = false ∧
 Fits IntKind.i64 ((2 : Int) * c.fst) ∧
 Fits IntKind.i64 ((2 : Int) * c.fst - (1 : Int)) ∧
 ((2 : Int) * c.fst - (1 : Int) ≤ c.snd.snd →
 (2 : Int) * c.fst - (1 : Int) ≤ c.snd.snd ∧
 (2 : Int) * c.fst - (1 : Int) ≤ c.snd.snd ∧
 ((strictF c.fst c.snd.fst c.snd.snd).fst = true →
 (strictF c.fst c.snd.fst c.snd.snd).fst = true ∧
 (strictF c.fst c.snd.fst c.snd.snd).fst = true ∧
 ((strictF c.fst c.snd.fst c.snd.snd).snd = (0 : Int) →
 (strictF c.fst c.snd.fst c.snd.snd).snd = (0 : Int) ∧
 (strictF c.fst c.snd.fst c.snd.snd).snd = (0 : Int) ∧
 (strictF c.fst c.snd.fst c.snd.snd).snd = (0 : Int) ∧
 True ∧ true = true) ∧
 (¬(strictF c.fst c.snd.fst c.snd.snd).snd = (0 : Int) →
 ¬(strictF c.fst c.snd.fst c.snd.snd).snd = (0 : Int) ∧
 ¬(strictF c.fst c.snd.fst c.snd.snd).snd = (0 : Int) ∧
 ¬(strictF c.fst c.snd.fst c.snd.snd).snd = (0 : Int) ∧
 false = true)) ∧
 (¬(strictF c.fst c.snd.fst c.snd.snd).fst = true →
 ¬(strictF c.fst c.snd.fst c.snd.snd).fst = true ∧
 ¬(strictF c.fst c.snd.fst c.snd.snd).fst = true ∧ false = true)) ∧
 (¬(2 : Int) * c.fst - (1 : Int) ≤ c.snd.snd →
 ¬(2 : Int) * c.fst - (1 : Int) ≤ c.snd.snd ∧
 ¬(2 : Int) * c.fst - (1 : Int) ≤ c.snd.snd ∧
 (c.snd.fst = (1 : Int) →
 c.snd.fst = (1 : Int) ∧
 c.snd.fst = (1 : Int) ∧
 ((strictF c.fst c.snd.fst c.snd.snd).fst =
 decide (c.fst ≤ c.snd.snd) →
 (strictF c.fst c.snd.fst c.snd.snd).fst =
 decide (c.fst ≤ c.snd.snd) ∧
 (strictF c.fst c.snd.fst c.snd.snd).fst =
 decide (c.fst ≤ c.snd.snd) ∧
 ((strictF c.fst c.snd.fst c.snd.snd).snd = (0 : Int) →
 (strictF c.fst c.snd.fst c.snd.snd).snd = (0 : Int) ∧
 (strictF c.fst c.snd.fst c.snd.snd).snd = (0 : Int) ∧
 (strictF c.fst c.snd.fst c.snd.snd).snd = (0 : Int) ∧
 True ∧ true = true) ∧
 (¬(strictF c.fst c.snd.fst c.snd.snd).snd = (0 : Int) →
 ¬(strictF c.fst c.snd.fst c.snd.snd).snd = (0 : Int) ∧
 ¬(strictF c.fst c.snd.fst c.snd.snd).snd = (0 : Int) ∧
 ¬(strictF c.fst c.snd.fst c.snd.snd).snd = (0 : Int) ∧
 false = true)) ∧
 (¬(strictF c.fst c.snd.fst c.snd.snd).fst =
 decide (c.fst ≤ c.snd.snd) →
 ¬(strictF c.fst c.snd.fst c.snd.snd).fst =
 decide (c.fst ≤ c.snd.snd) ∧
 ¬(strictF c.fst c.snd.fst c.snd.snd).fst =
 decide (c.fst ≤ c.snd.snd) ∧
 false = true)) ∧
 (¬c.snd.fst = (1 : Int) →
 ¬c.snd.fst = (1 : Int) ∧
 ¬c.snd.fst = (1 : Int) ∧
 ((strictF c.fst c.snd.fst c.snd.snd).fst = false →
 (strictF c.fst c.snd.fst c.snd.snd).fst = false ∧
 (strictF c.fst c.snd.fst c.snd.snd).fst = false ∧
 ((strictF c.fst c.snd.fst c.snd.snd).snd = (0 : Int) →
 (strictF c.fst c.snd.fst c.snd.snd).snd = (0 : Int) ∧
 (strictF c.fst c.snd.fst c.snd.snd).snd = (0 : Int) ∧
 (strictF c.fst c.snd.fst c.snd.snd).snd = (0 : Int) ∧
 True ∧ true = true) ∧
 (¬(strictF c.fst c.snd.fst c.snd.snd).snd = (0 : Int) →
 ¬(strictF c.fst c.snd.fst c.snd.snd).snd = (0 : Int) ∧
 ¬(strictF c.fst c.snd.fst c.snd.snd).snd = (0 : Int) ∧
 ¬(strictF c.fst c.snd.fst c.snd.snd).snd = (0 : Int) ∧
 false = true)) ∧
 (¬(strictF c.fst c.snd.fst c.snd.snd).fst = false →
 ¬(strictF c.fst c.snd.fst c.snd.snd).fst = false ∧
 ¬(strictF c.fst c.snd.fst c.snd.snd).fst = false ∧
 false = true)))))))) ∧
 (¬¬(waksF k).snd = (0 : Int) →
 ¬¬(waksF k).snd = (0 : Int) ∧
 ¬¬(waksF k).snd = (0 : Int) ∧
 ((waksF k).snd = (0 : Int) →
 (waksF k).snd = (0 : Int) ∧
 (waksF k).snd = (0 : Int) ∧
 ((0 : Int) ≤ k ∧ k < (64 : Int)) ∧
 Fits IntKind.i64 (k * (2 : Int) ^ k.toNat) ∧
 ((0 : Int) ≤ k ∧ k < (64 : Int)) ∧
 Fits IntKind.i64 ((1 : Int) * (2 : Int) ^ k.toNat) ∧
 Fits IntKind.i64 (k * (2 : Int) ^ k.toNat - (1 : Int) * (2 : Int) ^ k.toNat) ∧
 Fits IntKind.i64 (k * (2 : Int) ^ k.toNat - (1 : Int) * (2 : Int) ^ k.toNat + (1 : Int)) ∧
 (¬(waksF k).fst = k * (2 : Int) ^ k.toNat - (1 : Int) * (2 : Int) ^ k.toNat + (1 : Int) →
 ¬(waksF k).fst = k * (2 : Int) ^ k.toNat - (1 : Int) * (2 : Int) ^ k.toNat + (1 : Int) ∧
 ¬(waksF k).fst = k * (2 : Int) ^ k.toNat - (1 : Int) * (2 : Int) ^ k.toNat + (1 : Int) ∧
 ¬(waksF k).fst = k * (2 : Int) ^ k.toNat - (1 : Int) * (2 : Int) ^ k.toNat + (1 : Int) ∧
 false = true) ∧
 (¬¬(waksF k).fst = k * (2 : Int) ^ k.toNat - (1 : Int) * (2 : Int) ^ k.toNat + (1 : Int) →
 ¬¬(waksF k).fst = k * (2 : Int) ^ k.toNat - (1 : Int) * (2 : Int) ^ k.toNat + (1 : Int) ∧
 ¬¬(waksF k).fst = k * (2 : Int) ^ k.toNat - (1 : Int) * (2 : Int) ^ k.toNat + (1 : Int) ∧
 ¬¬(waksF k).fst = k * (2 : Int) ^ k.toNat - (1 : Int) * (2 : Int) ^ k.toNat + (1 : Int) ∧
 True ∧
 ((!decide (ClosP c.fst c.snd.fst c.snd.snd)) = true →
 (!decide (ClosP c.fst c.snd.fst c.snd.snd)) = true ∧
 ((!(strictF c.fst c.snd.fst c.snd.snd).fst) = true →
 (!(strictF c.fst c.snd.fst c.snd.snd).fst) = true ∧
 (!(strictF c.fst c.snd.fst c.snd.snd).fst) = true ∧
 ((strictF c.fst c.snd.fst c.snd.snd).snd = (1 : Int) →
 (strictF c.fst c.snd.fst c.snd.snd).snd = (1 : Int) ∧
 (strictF c.fst c.snd.fst c.snd.snd).snd = (1 : Int) ∧
 (strictF c.fst c.snd.fst c.snd.snd).snd = (1 : Int) ∧
 True ∧ true = true) ∧
 (¬(strictF c.fst c.snd.fst c.snd.snd).snd = (1 : Int) →
 ¬(strictF c.fst c.snd.fst c.snd.snd).snd = (1 : Int) ∧
 ¬(strictF c.fst c.snd.fst c.snd.snd).snd = (1 : Int) ∧
 ¬(strictF c.fst c.snd.fst c.snd.snd).snd = (1 : Int) ∧ false = true)) ∧
 ((!(strictF c.fst c.snd.fst c.snd.snd).fst) = false →
 (!(strictF c.fst c.snd.fst c.snd.snd).fst) = false ∧
 (!(strictF c.fst c.snd.fst c.snd.snd).fst) = false ∧ false = true)) ∧
 ((!decide (ClosP c.fst c.snd.fst c.snd.snd)) = false →
 (!decide (ClosP c.fst c.snd.fst c.snd.snd)) = false ∧
 Fits IntKind.i64 ((2 : Int) * c.fst) ∧
 Fits IntKind.i64 ((2 : Int) * c.fst - (1 : Int)) ∧
 ((2 : Int) * c.fst - (1 : Int) ≤ c.snd.snd →
 (2 : Int) * c.fst - (1 : Int) ≤ c.snd.snd ∧
 (2 : Int) * c.fst - (1 : Int) ≤ c.snd.snd ∧
 ((strictF c.fst c.snd.fst c.snd.snd).fst = true →
 (strictF c.fst c.snd.fst c.snd.snd).fst = true ∧
 (strictF c.fst c.snd.fst c.snd.snd).fst = true ∧
 ((strictF c.fst c.snd.fst c.snd.snd).snd = (0 : Int) →
 (strictF c.fst c.snd.fst c.snd.snd).snd = (0 : Int) ∧
 (strictF c.fst c.snd.fst c.snd.snd).snd = (0 : Int) ∧
 (strictF c.fst c.snd.fst c.snd.snd).snd = (0 : Int) ∧
 True ∧ true = true) ∧
 (¬(strictF c.fst c.snd.fst c.snd.snd).snd = (0 : Int) →
 ¬(strictF c.fst c.snd.fst c.snd.snd).snd = (0 : Int) ∧
 ¬(strictF c.fst c.snd.fst c.snd.snd).snd = (0 : Int) ∧
 ¬(strictF c.fst c.snd.fst c.snd.snd).snd = (0 : Int) ∧
 false = true)) ∧
 (¬(strictF c.fst c.snd.fst c.snd.snd).fst = true →
 ¬(strictF c.fst c.snd.fst c.snd.snd).fst = true ∧
 ¬(strictF c.fst c.snd.fst c.snd.snd).fst = true ∧ false = true)) ∧
 (¬(2 : Int) * c.fst - (1 : Int) ≤ c.snd.snd →
 ¬(2 : Int) * c.fst - (1 : Int) ≤ c.snd.snd ∧
 ¬(2 : Int) * c.fst - (1 : Int) ≤ c.snd.snd ∧
 (c.snd.fst = (1 : Int) →
 c.snd.fst = (1 : Int) ∧
 c.snd.fst = (1 : Int) ∧
 ((strictF c.fst c.snd.fst c.snd.snd).fst =
 decide (c.fst ≤ c.snd.snd) →
 (strictF c.fst c.snd.fst c.snd.snd).fst =
 decide (c.fst ≤ c.snd.snd) ∧
 (strictF c.fst c.snd.fst c.snd.snd).fst =
 decide (c.fst ≤ c.snd.snd) ∧
 ((strictF c.fst c.snd.fst c.snd.snd).snd = (0 : Int) →
 (strictF c.fst c.snd.fst c.snd.snd).snd = (0 : Int) ∧
 (strictF c.fst c.snd.fst c.snd.snd).snd = (0 : Int) ∧
 (strictF c.fst c.snd.fst c.snd.snd).snd = (0 : Int) ∧
 True ∧ true = true) ∧
 (¬(strictF c.fst c.snd.fst c.snd.snd).snd = (0 : Int) →
 ¬(strictF c.fst c.snd.fst c.snd.snd).snd = (0 : Int) ∧
 ¬(strictF c.fst c.snd.fst c.snd.snd).snd = (0 : Int) ∧
 ¬(strictF c.fst c.snd.fst c.snd.snd).snd = (0 : Int) ∧
 false = true)) ∧
 (¬(strictF c.fst c.snd.fst c.snd.snd).fst =
 decide (c.fst ≤ c.snd.snd) →
 ¬(strictF c.fst c.snd.fst c.snd.snd).fst =
 decide (c.fst ≤ c.snd.snd) ∧
 ¬(strictF c.fst c.snd.fst c.snd.snd).fst =
 decide (c.fst ≤ c.snd.snd) ∧
 false = true)) ∧
 (¬c.snd.fst = (1 : Int) →
 ¬c.snd.fst = (1 : Int) ∧
 ¬c.snd.fst = (1 : Int) ∧
 ((strictF c.fst c.snd.fst c.snd.snd).fst = false →
 (strictF c.fst c.snd.fst c.snd.snd).fst = false ∧
 (strictF c.fst c.snd.fst c.snd.snd).fst = false ∧
 ((strictF c.fst c.snd.fst c.snd.snd).snd = (0 : Int) →
 (strictF c.fst c.snd.fst c.snd.snd).snd = (0 : Int) ∧
 (strictF c.fst c.snd.fst c.snd.snd).snd = (0 : Int) ∧
 (strictF c.fst c.snd.fst c.snd.snd).snd = (0 : Int) ∧
 True ∧ true = true) ∧
 (¬(strictF c.fst c.snd.fst c.snd.snd).snd = (0 : Int) →
 ¬(strictF c.fst c.snd.fst c.snd.snd).snd = (0 : Int) ∧
 ¬(strictF c.fst c.snd.fst c.snd.snd).snd = (0 : Int) ∧
 ¬(strictF c.fst c.snd.fst c.snd.snd).snd = (0 : Int) ∧
 false = true)) ∧
 (¬(strictF c.fst c.snd.fst c.snd.snd).fst = false →
 ¬(strictF c.fst c.snd.fst c.snd.snd).fst = false ∧
 ¬(strictF c.fst c.snd.fst c.snd.snd).fst = false ∧
 false = true)))))) ∧
 (¬(waksF k).snd = (0 : Int) →
 ¬(waksF k).snd = (0 : Int) ∧
 ¬(waksF k).snd = (0 : Int) ∧
 True ∧
 ((!decide (ClosP c.fst c.snd.fst c.snd.snd)) = true →
 (!decide (ClosP c.fst c.snd.fst c.snd.snd)) = true ∧
 ((!(strictF c.fst c.snd.fst c.snd.snd).fst) = true →
 (!(strictF c.fst c.snd.fst c.snd.snd).fst) = true ∧
 (!(strictF c.fst c.snd.fst c.snd.snd).fst) = true ∧
 ((strictF c.fst c.snd.fst c.snd.snd).snd = (1 : Int) →
 (strictF c.fst c.snd.fst c.snd.snd).snd = (1 : Int) ∧
 (strictF c.fst c.snd.fst c.snd.snd).snd = (1 : Int) ∧
 (strictF c.fst c.snd.fst c.snd.snd).snd = (1 : Int) ∧ True ∧ true = true) ∧
 (¬(strictF c.fst c.snd.fst c.snd.snd).snd = (1 : Int) →
 ¬(strictF c.fst c.snd.fst c.snd.snd).snd = (1 : Int) ∧
 ¬(strictF c.fst c.snd.fst c.snd.snd).snd = (1 : Int) ∧
 ¬(strictF c.fst c.snd.fst c.snd.snd).snd = (1 : Int) ∧ false = true)) ∧
 ((!(strictF c.fst c.snd.fst c.snd.snd).fst) = false →
 (!(strictF c.fst c.snd.fst c.snd.snd).fst) = false ∧
 (!(strictF c.fst c.snd.fst c.snd.snd).fst) = false ∧ false = true)) ∧
 ((!decide (ClosP c.fst c.snd.fst c.snd.snd)) = false →
 (!decide (ClosP c.fst c.snd.fst c.snd.snd)) = false ∧
 Fits IntKind.i64 ((2 : Int) * c.fst) ∧
 Fits IntKind.i64 ((2 : Int) * c.fst - (1 : Int)) ∧
 ((2 : Int) * c.fst - (1 : Int) ≤ c.snd.snd →
 (2 : Int) * c.fst - (1 : Int) ≤ c.snd.snd ∧
 (2 : Int) * c.fst - (1 : Int) ≤ c.snd.snd ∧
 ((strictF c.fst c.snd.fst c.snd.snd).fst = true →
 (strictF c.fst c.snd.fst c.snd.snd).fst = true ∧
 (strictF c.fst c.snd.fst c.snd.snd).fst = true ∧
 ((strictF c.fst c.snd.fst c.snd.snd).snd = (0 : Int) →
 (strictF c.fst c.snd.fst c.snd.snd).snd = (0 : Int) ∧
 (strictF c.fst c.snd.fst c.snd.snd).snd = (0 : Int) ∧
 (strictF c.fst c.snd.fst c.snd.snd).snd = (0 : Int) ∧ True ∧ true = true) ∧
 (¬(strictF c.fst c.snd.fst c.snd.snd).snd = (0 : Int) →
 ¬(strictF c.fst c.snd.fst c.snd.snd).snd = (0 : Int) ∧
 ¬(strictF c.fst c.snd.fst c.snd.snd).snd = (0 : Int) ∧
 ¬(strictF c.fst c.snd.fst c.snd.snd).snd = (0 : Int) ∧ false = true)) ∧
 (¬(strictF c.fst c.snd.fst c.snd.snd).fst = true →
 ¬(strictF c.fst c.snd.fst c.snd.snd).fst = true ∧
 ¬(strictF c.fst c.snd.fst c.snd.snd).fst = true ∧ false = true)) ∧
 (¬(2 : Int) * c.fst - (1 : Int) ≤ c.snd.snd →
 ¬(2 : Int) * c.fst - (1 : Int) ≤ c.snd.snd ∧
 ¬(2 : Int) * c.fst - (1 : Int) ≤ c.snd.snd ∧
 (c.snd.fst = (1 : Int) →
 c.snd.fst = (1 : Int) ∧
 c.snd.fst = (1 : Int) ∧
 ((strictF c.fst c.snd.fst c.snd.snd).fst = decide (c.fst ≤ c.snd.snd) →
 (strictF c.fst c.snd.fst c.snd.snd).fst = decide (c.fst ≤ c.snd.snd) ∧
 (strictF c.fst c.snd.fst c.snd.snd).fst = decide (c.fst ≤ c.snd.snd) ∧
 ((strictF c.fst c.snd.fst c.snd.snd).snd = (0 : Int) →
 (strictF c.fst c.snd.fst c.snd.snd).snd = (0 : Int) ∧
 (strictF c.fst c.snd.fst c.snd.snd).snd = (0 : Int) ∧
 (strictF c.fst c.snd.fst c.snd.snd).snd = (0 : Int) ∧ True ∧ true = true) ∧
 (¬(strictF c.fst c.snd.fst c.snd.snd).snd = (0 : Int) →
 ¬(strictF c.fst c.snd.fst c.snd.snd).snd = (0 : Int) ∧
 ¬(strictF c.fst c.snd.fst c.snd.snd).snd = (0 : Int) ∧
 ¬(strictF c.fst c.snd.fst c.snd.snd).snd = (0 : Int) ∧ false = true)) ∧
 (¬(strictF c.fst c.snd.fst c.snd.snd).fst = decide (c.fst ≤ c.snd.snd) →
 ¬(strictF c.fst c.snd.fst c.snd.snd).fst = decide (c.fst ≤ c.snd.snd) ∧
 ¬(strictF c.fst c.snd.fst c.snd.snd).fst = decide (c.fst ≤ c.snd.snd) ∧
 false = true)) ∧
 (¬c.snd.fst = (1 : Int) →
 ¬c.snd.fst = (1 : Int) ∧
 ¬c.snd.fst = (1 : Int) ∧
 ((strictF c.fst c.snd.fst c.snd.snd).fst = false →
 (strictF c.fst c.snd.fst c.snd.snd).fst = false ∧
 (strictF c.fst c.snd.fst c.snd.snd).fst = false ∧
 ((strictF c.fst c.snd.fst c.snd.snd).snd = (0 : Int) →
 (strictF c.fst c.snd.fst c.snd.snd).snd = (0 : Int) ∧
 (strictF c.fst c.snd.fst c.snd.snd).snd = (0 : Int) ∧
 (strictF c.fst c.snd.fst c.snd.snd).snd = (0 : Int) ∧ True ∧ true = true) ∧
 (¬(strictF c.fst c.snd.fst c.snd.snd).snd = (0 : Int) →
 ¬(strictF c.fst c.snd.fst c.snd.snd).snd = (0 : Int) ∧
 ¬(strictF c.fst c.snd.fst c.snd.snd).snd = (0 : Int) ∧
 ¬(strictF c.fst c.snd.fst c.snd.snd).snd = (0 : Int) ∧ false = true)) ∧
 (¬(strictF c.fst c.snd.fst c.snd.snd).fst = false →
 ¬(strictF c.fst c.snd.fst c.snd.snd).fst = false ∧
 ¬(strictF c.fst c.snd.fst c.snd.snd).fst = false ∧ false = true)))))))))) ∧
 ((!decide ((1 : Int) ≤ k ∧ k ≤ (2 : Int))) = false →
 (!decide ((1 : Int) ≤ k ∧ k ≤ (2 : Int))) = false ∧
 (!decide ((1 : Int) ≤ k ∧ k ≤ (2 : Int))) = false ∧
 ((0 : Int) ≤ k ∧ k < (64 : Int)) ∧
 Fits IntKind.i64 ((1 : Int) * (2 : Int) ^ k.toNat) ∧
 ((List.take (13 : Nat) l).length ≤ (1000 : Nat) ∧ (0 : Int) ≤ (1 : Int) * (2 : Int) ^ k.toNat ∧ (1 : Int) * (2 : Int) ^ k.toNat ≤ (1000000 : Int)) ∧
 ((!decide (PermP (List.take (13 : Nat) l) ((1 : Int) * (2 : Int) ^ k.toNat))) = true →
 (!decide (PermP (List.take (13 : Nat) l) ((1 : Int) * (2 : Int) ^ k.toNat))) = true ∧
 (!decide (PermP (List.take (13 : Nat) l) ((1 : Int) * (2 : Int) ^ k.toNat))) = true ∧
 (¬(waysF k (List.take (13 : Nat) l)).fst = (0 : Int) →
 ¬(waysF k (List.take (13 : Nat) l)).fst = (0 : Int) ∧ ¬(waysF k (List.take (13 : Nat) l)).fst = (0 : Int) ∧ false = true) ∧
 (¬¬(waysF k (List.take (13 : Nat) l)).fst = (0 : Int) →
 ¬¬(waysF k (List.take (13 : Nat) l)).fst = (0 : Int) ∧
 ¬¬(waysF k (List.take (13 : Nat) l)).fst = (0 : Int) ∧
 (¬(waysF k (List.take (13 : Nat) l)).snd = (2 : Int) →
 ¬(waysF k (List.take (13 : Nat) l)).snd = (2 : Int) ∧ ¬(waysF k (List.take (13 : Nat) l)).snd = (2 : Int) ∧ false = true) ∧
 (¬¬(waysF k (List.take (13 : Nat) l)).snd = (2 : Int) →
 ¬¬(waysF k (List.take (13 : Nat) l)).snd = (2 : Int) ∧
 ¬¬(waysF k (List.take (13 : Nat) l)).snd = (2 : Int) ∧
 True ∧
 (¬decide ((1 : Int) ≤ k ∧ k ≤ (20 : Int)) = decide ((waksF k).snd = (0 : Int)) →
 ¬decide ((1 : Int) ≤ k ∧ k ≤ (20 : Int)) = decide ((waksF k).snd = (0 : Int)) ∧
 ¬decide ((1 : Int) ≤ k ∧ k ≤ (20 : Int)) = decide ((waksF k).snd = (0 : Int)) ∧ false = true) ∧
 (¬¬decide ((1 : Int) ≤ k ∧ k ≤ (20 : Int)) = decide ((waksF k).snd = (0 : Int)) →
 ¬¬decide ((1 : Int) ≤ k ∧ k ≤ (20 : Int)) = decide ((waksF k).snd = (0 : Int)) ∧
 ¬¬decide ((1 : Int) ≤ k ∧ k ≤ (20 : Int)) = decide ((waksF k).snd = (0 : Int)) ∧
 (¬(waksF k).snd = (0 : Int) →
 ¬(waksF k).snd = (0 : Int) ∧
 ¬(waksF k).snd = (0 : Int) ∧
 (¬(waksF k).fst = (0 : Int) → ¬(waksF k).fst = (0 : Int) ∧ ¬(waksF k).fst = (0 : Int) ∧ false = true) ∧
 (¬¬(waksF k).fst = (0 : Int) →
 ¬¬(waksF k).fst = (0 : Int) ∧
 ¬¬(waksF k).fst = (0 : Int) ∧
 (¬(waksF k).snd = (1 : Int) →
 ¬(waksF k).snd = (1 : Int) ∧
 ¬(waksF k).snd = (1 : Int) ∧
 ¬(waksF k).snd = (1 : Int) ∧
 ¬(waksF k).snd = (1 : Int) ∧ ¬(waksF k).snd = (1 : Int) ∧ false = true) ∧
 (¬¬(waksF k).snd = (1 : Int) →
 ¬¬(waksF k).snd = (1 : Int) ∧
 ¬¬(waksF k).snd = (1 : Int) ∧
 ¬¬(waksF k).snd = (1 : Int) ∧
 ¬¬(waksF k).snd = (1 : Int) ∧
 ¬¬(waksF k).snd = (1 : Int) ∧
 ((waksF k).snd = (0 : Int) →
 (waksF k).snd = (0 : Int) ∧
 (waksF k).snd = (0 : Int) ∧
 ((0 : Int) ≤ k ∧ k < (64 : Int)) ∧
 Fits IntKind.i64 (k * (2 : Int) ^ k.toNat) ∧
 ((0 : Int) ≤ k ∧ k < (64 : Int)) ∧
 Fits IntKind.i64 ((1 : Int) * (2 : Int) ^ k.toNat) ∧
 Fits IntKind.i64
 (k * (2 : Int) ^ k.toNat - (1 : Int) * (2 : Int) ^ k.toNat) ∧
 Fits IntKind.i64
 (k * (2 : Int) ^ k.toNat - (1 : Int) * (2 : Int) ^ k.toNat +
 (1 : Int)) ∧
 (¬(waksF k).fst =
 k * (2 : Int) ^ k.toNat - (1 : Int) * (2 : Int) ^ k.toNat +
 (1 : Int) →
 ¬(waksF k).fst =
 k * (2 : Int) ^ k.toNat - (1 : Int) * (2 : Int) ^ k.toNat +
 (1 : Int) ∧
 ¬(waksF k).fst =
 k * (2 : Int) ^ k.toNat - (1 : Int) * (2 : Int) ^ k.toNat +
 (1 : Int) ∧
 ¬(waksF k).fst =
 k * (2 : Int) ^ k.toNat -
 (1 : Int) * (2 : Int) ^ k.toNat +
 (1 : Int) ∧
 false = true) ∧
 (¬¬(waksF k).fst =
 k * (2 : Int) ^ k.toNat - (1 : Int) * (2 : Int) ^ k.toNat +
 (1 : Int) →
 ¬¬(waksF k).fst =
 k * (2 : Int) ^ k.toNat - (1 : Int) * (2 : Int) ^ k.toNat +
 (1 : Int) ∧
 ¬¬(waksF k).fst =
 k * (2 : Int) ^ k.toNat -
 (1 : Int) * (2 : Int) ^ k.toNat +
 (1 : Int) ∧
 ¬¬(waksF k).fst =
 k * (2 : Int) ^ k.toNat -
 (1 : Int) * (2 : Int) ^ k.toNat +
 (1 : Int) ∧
 True ∧
 ((!decide (ClosP c.fst c.snd.fst c.snd.snd)) = true →
 (!decide (ClosP c.fst c.snd.fst c.snd.snd)) = true ∧
 ((!(strictF c.fst c.snd.fst c.snd.snd).fst) = true →
 (!(strictF c.fst c.snd.fst c.snd.snd).fst) =
 true ∧
 (!(strictF c.fst c.snd.fst c.snd.snd).fst) =
 true ∧
 ((strictF c.fst c.snd.fst c.snd.snd).snd =
 (1 : Int) →
 (strictF c.fst c.snd.fst c.snd.snd).snd =
 (1 : Int) ∧
 (strictF c.fst c.snd.fst
 c.snd.snd).snd =
 (1 : Int) ∧
 (strictF c.fst c.snd.fst
 c.snd.snd).snd =
 (1 : Int) ∧
 True ∧ true = true) ∧
 (¬(strictF c.fst c.snd.fst c.snd.snd).snd =
 (1 : Int) →
 ¬(strictF c.fst c.snd.fst c.snd.snd).snd =
 (1 : Int) ∧
 ¬(strictF c.fst c.snd.fst
 c.snd.snd).snd =
 (1 : Int) ∧
 ¬(strictF c.fst c.snd.fst
 c.snd.snd).snd =
 (1 : Int) ∧
 false = true)) ∧
 ((!(strictF c.fst c.snd.fst c.snd.snd).fst) =
 false →
 (!(strictF c.fst c.snd.fst c.snd.snd).fst) =
 false ∧
 (!(strictF c.fst c.snd.fst c.snd.snd).fst) =
 false ∧
 false = true)) ∧
 ((!decide (ClosP c.fst c.snd.fst c.snd.snd)) = false →
 (!decide (ClosP c.fst c.snd.fst c.snd.snd)) = false ∧
 Fits IntKind.i64 ((2 : Int) * c.fst) ∧
 Fits IntKind.i64 ((2 : Int) * c.fst - (1 : Int)) ∧
 ((2 : Int) * c.fst - (1 : Int) ≤ c.snd.snd →
 (2 : Int) * c.fst - (1 : Int) ≤ c.snd.snd ∧
 (2 : Int) * c.fst - (1 : Int) ≤ c.snd.snd ∧
 ((strictF c.fst c.snd.fst c.snd.snd).fst =
 true →
 (strictF c.fst c.snd.fst
 c.snd.snd).fst =
 true ∧
 (strictF c.fst c.snd.fst
 c.snd.snd).fst =
 true ∧
 ((strictF c.fst c.snd.fst
 c.snd.snd).snd =
 (0 : Int) →
 (strictF c.fst c.snd.fst
 c.snd.snd).snd =
 (0 : Int) ∧
 (strictF c.fst c.snd.fst
 c.snd.snd).snd =
 (0 : Int) ∧
 (strictF c.fst c.snd.fst
 c.snd.snd).snd =
 (0 : Int) ∧
 True ∧ true = true) ∧
 (¬(strictF c.fst c.snd.fst
 c.snd.snd).snd =
 (0 : Int) →
 ¬(strictF c.fst c.snd.fst
 c.snd.snd).snd =
 (0 : Int) ∧
 ¬(strictF c.fst c.snd.fst
 c.snd.snd).snd =
 (0 : Int) ∧
 ¬(strictF c.fst c.snd.fst
 c.snd.snd).snd =
 (0 : Int) ∧
 false = true)) ∧
 (¬(strictF c.fst c.snd.fst
 c.snd.snd).fst =
 true →
 ¬(strictF c.fst c.snd.fst
 c.snd.snd).fst =
 true ∧
 ¬(strictF c.fst c.snd.fst
 c.snd.snd).fst =
 true ∧
 false = true)) ∧
 (¬(2 : Int) * c.fst - (1 : Int) ≤ c.snd.snd →
 ¬(2 : Int) * c.fst - (1 : Int) ≤ c.snd.snd ∧
 ¬(2 : Int) * c.fst - (1 : Int) ≤ c.snd.snd ∧
 (c.snd.fst = (1 : Int) →
 c.snd.fst = (1 : Int) ∧
 c.snd.fst = (1 : Int) ∧
 ((strictF c.fst c.snd.fst
 c.snd.snd).fst =
 decide (c.fst ≤ c.snd.snd) →
 (strictF c.fst c.snd.fst
 c.snd.snd).fst =
 decide
 (c.fst ≤ c.snd.snd) ∧
 (strictF c.fst c.snd.fst
 c.snd.snd).fst =
 decide
 (c.fst ≤ c.snd.snd) ∧
 ((strictF c.fst c.snd.fst
 c.snd.snd).snd =
 (0 : Int) →
 (strictF c.fst
 c.snd.fst
 c.snd.snd).snd =
 (0 : Int) ∧
 (strictF c.fst
 c.snd.fst
 c.snd.snd).snd =
 (0 : Int) ∧
 (strictF c.fst
 c.snd.fst
 c.snd.snd).snd =
 (0 : Int) ∧
 True ∧
 true = true) ∧
 (¬(strictF c.fst
 c.snd.fst
 c.snd.snd).snd =
 (0 : Int) →
 ¬(strictF c.fst
 c.snd.fst
 c.snd.snd).snd =
 (0 : Int) ∧
 ¬(strictF c.fst
 c.snd.fst
 c.snd.snd).snd =
 (0 : Int) ∧
 ¬(strictF c.fst
 c.snd.fst
 c.snd.snd).snd =
 (0 : Int) ∧
 false = true)) ∧
 (¬(strictF c.fst c.snd.fst
 c.snd.snd).fst =
 decide
 (c.fst ≤ c.snd.snd) →
 ¬(strictF c.fst c.snd.fst
 c.snd.snd).fst =
 decide
 (c.fst ≤ c.snd.snd) ∧
 ¬(strictF c.fst c.snd.fst
 c.snd.snd).fst =
 decide
 (c.fst ≤
 c.snd.snd) ∧
 false = true)) ∧
 (¬c.snd.fst = (1 : Int) →
 ¬c.snd.fst = (1 : Int) ∧
 ¬c.snd.fst = (1 : Int) ∧
 ((strictF c.fst c.snd.fst
 c.snd.snd).fst =
 false →
 (strictF c.fst c.snd.fst
 c.snd.snd).fst =
 false ∧
 (strictF c.fst c.snd.fst
 c.snd.snd).fst =
 false ∧
 ((strictF c.fst c.snd.fst
 c.snd.snd).snd =
 (0 : Int) →
 (strictF c.fst
 c.snd.fst
 c.snd.snd).snd =
 (0 : Int) ∧
 (strictF c.fst
 c.snd.fst
 c.snd.snd).snd =
 (0 : Int) ∧
 (strictF c.fst
 c.snd.fst
 c.snd.snd).snd =
 (0 : Int) ∧
 True ∧
 true = true) ∧
 (¬(strictF c.fst
 c.snd.fst
 c.snd.snd).snd =
 (0 : Int) →
 ¬(strictF c.fst
 c.snd.fst
 c.snd.snd).snd =
 (0 : Int) ∧
 ¬(strictF c.fst
 c.snd.fst
 c.snd.snd).snd =
 (0 : Int) ∧
 ¬(strictF c.fst
 c.snd.fst
 c.snd.snd).snd =
 (0 : Int) ∧
 false = true)) ∧
 (¬(strictF c.fst c.snd.fst
 c.snd.snd).fst =
 false →
 ¬(strictF c.fst c.snd.fst
 c.snd.snd).fst =
 false ∧
 ¬(strictF c.fst c.snd.fst
 c.snd.snd).fst =
 false ∧
 false = true)))))) ∧
 (¬(waksF k).snd = (0 : Int) →
 ¬(waksF k).snd = (0 : Int) ∧
 ¬(waksF k).snd = (0 : Int) ∧
 True ∧
 ((!decide (ClosP c.fst c.snd.fst c.snd.snd)) = true →
 (!decide (ClosP c.fst c.snd.fst c.snd.snd)) = true ∧
 ((!(strictF c.fst c.snd.fst c.snd.snd).fst) = true →
 (!(strictF c.fst c.snd.fst c.snd.snd).fst) = true ∧
 (!(strictF c.fst c.snd.fst c.snd.snd).fst) = true ∧
 ((strictF c.fst c.snd.fst c.snd.snd).snd = (1 : Int) →
 (strictF c.fst c.snd.fst c.snd.snd).snd = (1 : Int) ∧
 (strictF c.fst c.snd.fst c.snd.snd).snd = (1 : Int) ∧
 (strictF c.fst c.snd.fst c.snd.snd).snd = (1 : Int) ∧
 True ∧ true = true) ∧
 (¬(strictF c.fst c.snd.fst c.snd.snd).snd = (1 : Int) →
 ¬(strictF c.fst c.snd.fst c.snd.snd).snd = (1 : Int) ∧
 ¬(strictF c.fst c.snd.fst c.snd.snd).snd = (1 : Int) ∧
 ¬(strictF c.fst c.snd.fst c.snd.snd).snd = (1 : Int) ∧
 false = true)) ∧
 ((!(strictF c.fst c.snd.fst c.snd.snd).fst) = false →
 (!(strictF c.fst c.snd.fst c.snd.snd).fst) = false ∧
 (!(strictF c.fst c.snd.fst c.snd.snd).fst) = false ∧ false = true)) ∧
 ((!decide (ClosP c.fst c.snd.fst c.snd.snd)) = false →
 (!decide (ClosP c.fst c.snd.fst c.snd.snd)) = false ∧
 Fits IntKind.i64 ((2 : Int) * c.fst) ∧
 Fits IntKind.i64 ((2 : Int) * c.fst - (1 : Int)) ∧
 ((2 : Int) * c.fst - (1 : Int) ≤ c.snd.snd →
 (2 : Int) * c.fst - (1 : Int) ≤ c.snd.snd ∧
 (2 : Int) * c.fst - (1 : Int) ≤ c.snd.snd ∧
 ((strictF c.fst c.snd.fst c.snd.snd).fst = true →
 (strictF c.fst c.snd.fst c.snd.snd).fst = true ∧
 (strictF c.fst c.snd.fst c.snd.snd).fst = true ∧
 ((strictF c.fst c.snd.fst c.snd.snd).snd = (0 : Int) →
 (strictF c.fst c.snd.fst c.snd.snd).snd =
 (0 : Int) ∧
 (strictF c.fst c.snd.fst c.snd.snd).snd =
 (0 : Int) ∧
 (strictF c.fst c.snd.fst c.snd.snd).snd =
 (0 : Int) ∧
 True ∧ true = true) ∧
 (¬(strictF c.fst c.snd.fst c.snd.snd).snd =
 (0 : Int) →
 ¬(strictF c.fst c.snd.fst c.snd.snd).snd =
 (0 : Int) ∧
 ¬(strictF c.fst c.snd.fst c.snd.snd).snd =
 (0 : Int) ∧
 ¬(strictF c.fst c.snd.fst c.snd.snd).snd =
 (0 : Int) ∧
 false = true)) ∧
 (¬(strictF c.fst c.snd.fst c.snd.snd).fst = true →
 ¬(strictF c.fst c.snd.fst c.snd.snd).fst = true ∧
 ¬(strictF c.fst c.snd.fst c.snd.snd).fst = true ∧
 false = true)) ∧
 (¬(2 : Int) * c.fst - (1 : Int) ≤ c.snd.snd →
 ¬(2 : Int) * c.fst - (1 : Int) ≤ c.snd.snd ∧
 ¬(2 : Int) * c.fst - (1 : Int) ≤ c.snd.snd ∧
 (c.snd.fst = (1 : Int) →
 c.snd.fst = (1 : Int) ∧
 c.snd.fst = (1 : Int) ∧
 ((strictF c.fst c.snd.fst c.snd.snd).fst =
 decide (c.fst ≤ c.snd.snd) →
 (strictF c.fst c.snd.fst c.snd.snd).fst =
 decide (c.fst ≤ c.snd.snd) ∧
 (strictF c.fst c.snd.fst c.snd.snd).fst =
 decide (c.fst ≤ c.snd.snd) ∧
 ((strictF c.fst c.snd.fst c.snd.snd).snd =
 (0 : Int) →
 (strictF c.fst c.snd.fst c.snd.snd).snd =
 (0 : Int) ∧
 (strictF c.fst c.snd.fst c.snd.snd).snd =
 (0 : Int) ∧
 (strictF c.fst c.snd.fst
 c.snd.snd).snd =
 (0 : Int) ∧
 True ∧ true = true) ∧
 (¬(strictF c.fst c.snd.fst c.snd.snd).snd =
 (0 : Int) →
 ¬(strictF c.fst c.snd.fst c.snd.snd).snd =
 (0 : Int) ∧
 ¬(strictF c.fst c.snd.fst c.snd.snd).snd =
 (0 : Int) ∧
 ¬(strictF c.fst c.snd.fst
 c.snd.snd).snd =
 (0 : Int) ∧
 false = true)) ∧
 (¬(strictF c.fst c.snd.fst c.snd.snd).fst =
 decide (c.fst ≤ c.snd.snd) →
 ¬(strictF c.fst c.snd.fst c.snd.snd).fst =
 decide (c.fst ≤ c.snd.snd) ∧
 ¬(strictF c.fst c.snd.fst c.snd.snd).fst =
 decide (c.fst ≤ c.snd.snd) ∧
 false = true)) ∧
 (¬c.snd.fst = (1 : Int) →
 ¬c.snd.fst = (1 : Int) ∧
 ¬c.snd.fst = (1 : Int) ∧
 ((strictF c.fst c.snd.fst c.snd.snd).fst = false →
 (strictF c.fst c.snd.fst c.snd.snd).fst = false ∧
 (strictF c.fst c.snd.fst c.snd.snd).fst = false ∧
 ((strictF c.fst c.snd.fst c.snd.snd).snd =
 (0 : Int) →
 (strictF c.fst c.snd.fst c.snd.snd).snd =
 (0 : Int) ∧
 (strictF c.fst c.snd.fst c.snd.snd).snd =
 (0 : Int) ∧
 (strictF c.fst c.snd.fst
 c.snd.snd).snd =
 (0 : Int) ∧
 True ∧ true = true) ∧
 (¬(strictF c.fst c.snd.fst c.snd.snd).snd =
 (0 : Int) →
 ¬(strictF c.fst c.snd.fst c.snd.snd).snd =
 (0 : Int) ∧
 ¬(strictF c.fst c.snd.fst c.snd.snd).snd =
 (0 : Int) ∧
 ¬(strictF c.fst c.snd.fst
 c.snd.snd).snd =
 (0 : Int) ∧
 false = true)) ∧
 (¬(strictF c.fst c.snd.fst c.snd.snd).fst = false →
 ¬(strictF c.fst c.snd.fst c.snd.snd).fst = false ∧
 ¬(strictF c.fst c.snd.fst c.snd.snd).fst = false ∧
 false = true)))))))) ∧
 (¬¬(waksF k).snd = (0 : Int) →
 ¬¬(waksF k).snd = (0 : Int) ∧
 ¬¬(waksF k).snd = (0 : Int) ∧
 ((waksF k).snd = (0 : Int) →
 (waksF k).snd = (0 : Int) ∧
 (waksF k).snd = (0 : Int) ∧
 ((0 : Int) ≤ k ∧ k < (64 : Int)) ∧
 Fits IntKind.i64 (k * (2 : Int) ^ k.toNat) ∧
 ((0 : Int) ≤ k ∧ k < (64 : Int)) ∧
 Fits IntKind.i64 ((1 : Int) * (2 : Int) ^ k.toNat) ∧
 Fits IntKind.i64 (k * (2 : Int) ^ k.toNat - (1 : Int) * (2 : Int) ^ k.toNat) ∧
 Fits IntKind.i64 (k * (2 : Int) ^ k.toNat - (1 : Int) * (2 : Int) ^ k.toNat + (1 : Int)) ∧
 (¬(waksF k).fst = k * (2 : Int) ^ k.toNat - (1 : Int) * (2 : Int) ^ k.toNat + (1 : Int) →
 ¬(waksF k).fst = k * (2 : Int) ^ k.toNat - (1 : Int) * (2 : Int) ^ k.toNat + (1 : Int) ∧
 ¬(waksF k).fst = k * (2 : Int) ^ k.toNat - (1 : Int) * (2 : Int) ^ k.toNat + (1 : Int) ∧
 ¬(waksF k).fst =
 k * (2 : Int) ^ k.toNat - (1 : Int) * (2 : Int) ^ k.toNat + (1 : Int) ∧
 false = true) ∧
 (¬¬(waksF k).fst = k * (2 : Int) ^ k.toNat - (1 : Int) * (2 : Int) ^ k.toNat + (1 : Int) →
 ¬¬(waksF k).fst = k * (2 : Int) ^ k.toNat - (1 : Int) * (2 : Int) ^ k.toNat + (1 : Int) ∧
 ¬¬(waksF k).fst =
 k * (2 : Int) ^ k.toNat - (1 : Int) * (2 : Int) ^ k.toNat + (1 : Int) ∧
 ¬¬(waksF k).fst =
 k * (2 : Int) ^ k.toNat - (1 : Int) * (2 : Int) ^ k.toNat + (1 : Int) ∧
 True ∧
 ((!decide (ClosP c.fst c.snd.fst c.snd.snd)) = true →
 (!decide (ClosP c.fst c.snd.fst c.snd.snd)) = true ∧
 ((!(strictF c.fst c.snd.fst c.snd.snd).fst) = true →
 (!(strictF c.fst c.snd.fst c.snd.snd).fst) = true ∧
 (!(strictF c.fst c.snd.fst c.snd.snd).fst) = true ∧
 ((strictF c.fst c.snd.fst c.snd.snd).snd = (1 : Int) →
 (strictF c.fst c.snd.fst c.snd.snd).snd = (1 : Int) ∧
 (strictF c.fst c.snd.fst c.snd.snd).snd = (1 : Int) ∧
 (strictF c.fst c.snd.fst c.snd.snd).snd = (1 : Int) ∧
 True ∧ true = true) ∧
 (¬(strictF c.fst c.snd.fst c.snd.snd).snd = (1 : Int) →
 ¬(strictF c.fst c.snd.fst c.snd.snd).snd = (1 : Int) ∧
 ¬(strictF c.fst c.snd.fst c.snd.snd).snd = (1 : Int) ∧
 ¬(strictF c.fst c.snd.fst c.snd.snd).snd = (1 : Int) ∧
 false = true)) ∧
 ((!(strictF c.fst c.snd.fst c.snd.snd).fst) = false →
 (!(strictF c.fst c.snd.fst c.snd.snd).fst) = false ∧
 (!(strictF c.fst c.snd.fst c.snd.snd).fst) = false ∧ false = true)) ∧
 ((!decide (ClosP c.fst c.snd.fst c.snd.snd)) = false →
 (!decide (ClosP c.fst c.snd.fst c.snd.snd)) = false ∧
 Fits IntKind.i64 ((2 : Int) * c.fst) ∧
 Fits IntKind.i64 ((2 : Int) * c.fst - (1 : Int)) ∧
 ((2 : Int) * c.fst - (1 : Int) ≤ c.snd.snd →
 (2 : Int) * c.fst - (1 : Int) ≤ c.snd.snd ∧
 (2 : Int) * c.fst - (1 : Int) ≤ c.snd.snd ∧
 ((strictF c.fst c.snd.fst c.snd.snd).fst = true →
 (strictF c.fst c.snd.fst c.snd.snd).fst = true ∧
 (strictF c.fst c.snd.fst c.snd.snd).fst = true ∧
 ((strictF c.fst c.snd.fst c.snd.snd).snd = (0 : Int) →
 (strictF c.fst c.snd.fst c.snd.snd).snd =
 (0 : Int) ∧
 (strictF c.fst c.snd.fst c.snd.snd).snd =
 (0 : Int) ∧
 (strictF c.fst c.snd.fst c.snd.snd).snd =
 (0 : Int) ∧
 True ∧ true = true) ∧
 (¬(strictF c.fst c.snd.fst c.snd.snd).snd =
 (0 : Int) →
 ¬(strictF c.fst c.snd.fst c.snd.snd).snd =
 (0 : Int) ∧
 ¬(strictF c.fst c.snd.fst c.snd.snd).snd =
 (0 : Int) ∧
 ¬(strictF c.fst c.snd.fst c.snd.snd).snd =
 (0 : Int) ∧
 false = true)) ∧
 (¬(strictF c.fst c.snd.fst c.snd.snd).fst = true →
 ¬(strictF c.fst c.snd.fst c.snd.snd).fst = true ∧
 ¬(strictF c.fst c.snd.fst c.snd.snd).fst = true ∧
 false = true)) ∧
 (¬(2 : Int) * c.fst - (1 : Int) ≤ c.snd.snd →
 ¬(2 : Int) * c.fst - (1 : Int) ≤ c.snd.snd ∧
 ¬(2 : Int) * c.fst - (1 : Int) ≤ c.snd.snd ∧
 (c.snd.fst = (1 : Int) →
 c.snd.fst = (1 : Int) ∧
 c.snd.fst = (1 : Int) ∧
 ((strictF c.fst c.snd.fst c.snd.snd).fst =
 decide (c.fst ≤ c.snd.snd) →
 (strictF c.fst c.snd.fst c.snd.snd).fst =
 decide (c.fst ≤ c.snd.snd) ∧
 (strictF c.fst c.snd.fst c.snd.snd).fst =
 decide (c.fst ≤ c.snd.snd) ∧
 ((strictF c.fst c.snd.fst c.snd.snd).snd =
 (0 : Int) →
 (strictF c.fst c.snd.fst c.snd.snd).snd =
 (0 : Int) ∧
 (strictF c.fst c.snd.fst c.snd.snd).snd =
 (0 : Int) ∧
 (strictF c.fst c.snd.fst
 c.snd.snd).snd =
 (0 : Int) ∧
 True ∧ true = true) ∧
 (¬(strictF c.fst c.snd.fst c.snd.snd).snd =
 (0 : Int) →
 ¬(strictF c.fst c.snd.fst c.snd.snd).snd =
 (0 : Int) ∧
 ¬(strictF c.fst c.snd.fst c.snd.snd).snd =
 (0 : Int) ∧
 ¬(strictF c.fst c.snd.fst
 c.snd.snd).snd =
 (0 : Int) ∧
 false = true)) ∧
 (¬(strictF c.fst c.snd.fst c.snd.snd).fst =
 decide (c.fst ≤ c.snd.snd) →
 ¬(strictF c.fst c.snd.fst c.snd.snd).fst =
 decide (c.fst ≤ c.snd.snd) ∧
 ¬(strictF c.fst c.snd.fst c.snd.snd).fst =
 decide (c.fst ≤ c.snd.snd) ∧
 false = true)) ∧
 (¬c.snd.fst = (1 : Int) →
 ¬c.snd.fst = (1 : Int) ∧
 ¬c.snd.fst = (1 : Int) ∧
 ((strictF c.fst c.snd.fst c.snd.snd).fst = false →
 (strictF c.fst c.snd.fst c.snd.snd).fst = false ∧
 (strictF c.fst c.snd.fst c.snd.snd).fst = false ∧
 ((strictF c.fst c.snd.fst c.snd.snd).snd =
 (0 : Int) →
 (strictF c.fst c.snd.fst c.snd.snd).snd =
 (0 : Int) ∧
 (strictF c.fst c.snd.fst c.snd.snd).snd =
 (0 : Int) ∧
 (strictF c.fst c.snd.fst
 c.snd.snd).snd =
 (0 : Int) ∧
 True ∧ true = true) ∧
 (¬(strictF c.fst c.snd.fst c.snd.snd).snd =
 (0 : Int) →
 ¬(strictF c.fst c.snd.fst c.snd.snd).snd =
 (0 : Int) ∧
 ¬(strictF c.fst c.snd.fst c.snd.snd).snd =
 (0 : Int) ∧
 ¬(strictF c.fst c.snd.fst
 c.snd.snd).snd =
 (0 : Int) ∧
 false = true)) ∧
 (¬(strictF c.fst c.snd.fst c.snd.snd).fst = false →
 ¬(strictF c.fst c.snd.fst c.snd.snd).fst = false ∧
 ¬(strictF c.fst c.snd.fst c.snd.snd).fst = false ∧
 false = true)))))) ∧
 (¬(waksF k).snd = (0 : Int) →
 ¬(waksF k).snd = (0 : Int) ∧
 ¬(waksF k).snd = (0 : Int) ∧
 True ∧
 ((!decide (ClosP c.fst c.snd.fst c.snd.snd)) = true →
 (!decide (ClosP c.fst c.snd.fst c.snd.snd)) = true ∧
 ((!(strictF c.fst c.snd.fst c.snd.snd).fst) = true →
 (!(strictF c.fst c.snd.fst c.snd.snd).fst) = true ∧
 (!(strictF c.fst c.snd.fst c.snd.snd).fst) = true ∧
 ((strictF c.fst c.snd.fst c.snd.snd).snd = (1 : Int) →
 (strictF c.fst c.snd.fst c.snd.snd).snd = (1 : Int) ∧
 (strictF c.fst c.snd.fst c.snd.snd).snd = (1 : Int) ∧
 (strictF c.fst c.snd.fst c.snd.snd).snd = (1 : Int) ∧ True ∧ true = true) ∧
 (¬(strictF c.fst c.snd.fst c.snd.snd).snd = (1 : Int) →
 ¬(strictF c.fst c.snd.fst c.snd.snd).snd = (1 : Int) ∧
 ¬(strictF c.fst c.snd.fst c.snd.snd).snd = (1 : Int) ∧
 ¬(strictF c.fst c.snd.fst c.snd.snd).snd = (1 : Int) ∧ false = true)) ∧
 ((!(strictF c.fst c.snd.fst c.snd.snd).fst) = false →
 (!(strictF c.fst c.snd.fst c.snd.snd).fst) = false ∧
 (!(strictF c.fst c.snd.fst c.snd.snd).fst) = false ∧ false = true)) ∧
 ((!decide (ClosP c.fst c.snd.fst c.snd.snd)) = false →
 (!decide (ClosP c.fst c.snd.fst c.snd.snd)) = false ∧
 Fits IntKind.i64 ((2 : Int) * c.fst) ∧
 Fits IntKind.i64 ((2 : Int) * c.fst - (1 : Int)) ∧
 ((2 : Int) * c.fst - (1 : Int) ≤ c.snd.snd →
 (2 : Int) * c.fst - (1 : Int) ≤ c.snd.snd ∧
 (2 : Int) * c.fst - (1 : Int) ≤ c.snd.snd ∧
 ((strictF c.fst c.snd.fst c.snd.snd).fst = true →
 (strictF c.fst c.snd.fst c.snd.snd).fst = true ∧
 (strictF c.fst c.snd.fst c.snd.snd).fst = true ∧
 ((strictF c.fst c.snd.fst c.snd.snd).snd = (0 : Int) →
 (strictF c.fst c.snd.fst c.snd.snd).snd = (0 : Int) ∧
 (strictF c.fst c.snd.fst c.snd.snd).snd = (0 : Int) ∧
 (strictF c.fst c.snd.fst c.snd.snd).snd = (0 : Int) ∧
 True ∧ true = true) ∧
 (¬(strictF c.fst c.snd.fst c.snd.snd).snd = (0 : Int) →
 ¬(strictF c.fst c.snd.fst c.snd.snd).snd = (0 : Int) ∧
 ¬(strictF c.fst c.snd.fst c.snd.snd).snd = (0 : Int) ∧
 ¬(strictF c.fst c.snd.fst c.snd.snd).snd = (0 : Int) ∧
 false = true)) ∧
 (¬(strictF c.fst c.snd.fst c.snd.snd).fst = true →
 ¬(strictF c.fst c.snd.fst c.snd.snd).fst = true ∧
 ¬(strictF c.fst c.snd.fst c.snd.snd).fst = true ∧ false = true)) ∧
 (¬(2 : Int) * c.fst - (1 : Int) ≤ c.snd.snd →
 ¬(2 : Int) * c.fst - (1 : Int) ≤ c.snd.snd ∧
 ¬(2 : Int) * c.fst - (1 : Int) ≤ c.snd.snd ∧
 (c.snd.fst = (1 : Int) →
 c.snd.fst = (1 : Int) ∧
 c.snd.fst = (1 : Int) ∧
 ((strictF c.fst c.snd.fst c.snd.snd).fst = decide (c.fst ≤ c.snd.snd) →
 (strictF c.fst c.snd.fst c.snd.snd).fst = decide (c.fst ≤ c.snd.snd) ∧
 (strictF c.fst c.snd.fst c.snd.snd).fst = decide (c.fst ≤ c.snd.snd) ∧
 ((strictF c.fst c.snd.fst c.snd.snd).snd = (0 : Int) →
 (strictF c.fst c.snd.fst c.snd.snd).snd = (0 : Int) ∧
 (strictF c.fst c.snd.fst c.snd.snd).snd = (0 : Int) ∧
 (strictF c.fst c.snd.fst c.snd.snd).snd = (0 : Int) ∧
 True ∧ true = true) ∧
 (¬(strictF c.fst c.snd.fst c.snd.snd).snd = (0 : Int) →
 ¬(strictF c.fst c.snd.fst c.snd.snd).snd = (0 : Int) ∧
 ¬(strictF c.fst c.snd.fst c.snd.snd).snd = (0 : Int) ∧
 ¬(strictF c.fst c.snd.fst c.snd.snd).snd = (0 : Int) ∧
 false = true)) ∧
 (¬(strictF c.fst c.snd.fst c.snd.snd).fst = decide (c.fst ≤ c.snd.snd) →
 ¬(strictF c.fst c.snd.fst c.snd.snd).fst = decide (c.fst ≤ c.snd.snd) ∧
 ¬(strictF c.fst c.snd.fst c.snd.snd).fst = decide (c.fst ≤ c.snd.snd) ∧
 false = true)) ∧
 (¬c.snd.fst = (1 : Int) →
 ¬c.snd.fst = (1 : Int) ∧
 ¬c.snd.fst = (1 : Int) ∧
 ((strictF c.fst c.snd.fst c.snd.snd).fst = false →
 (strictF c.fst c.snd.fst c.snd.snd).fst = false ∧
 (strictF c.fst c.snd.fst c.snd.snd).fst = false ∧
 ((strictF c.fst c.snd.fst c.snd.snd).snd = (0 : Int) →
 (strictF c.fst c.snd.fst c.snd.snd).snd = (0 : Int) ∧
 (strictF c.fst c.snd.fst c.snd.snd).snd = (0 : Int) ∧
 (strictF c.fst c.snd.fst c.snd.snd).snd = (0 : Int) ∧
 True ∧ true = true) ∧
 (¬(strictF c.fst c.snd.fst c.snd.snd).snd = (0 : Int) →
 ¬(strictF c.fst c.snd.fst c.snd.snd).snd = (0 : Int) ∧
 ¬(strictF c.fst c.snd.fst c.snd.snd).snd = (0 : Int) ∧
 ¬(strictF c.fst c.snd.fst c.snd.snd).snd = (0 : Int) ∧
 false = true)) ∧
 (¬(strictF c.fst c.snd.fst c.snd.snd).fst = false →
 ¬(strictF c.fst c.snd.fst c.snd.snd).fst = false ∧
 ¬(strictF c.fst c.snd.fst c.snd.snd).fst = false ∧
 false = true)))))))))) ∧
 ((!decide (PermP (List.take (13 : Nat) l) ((1 : Int) * (2 : Int) ^ k.toNat))) = false →
 (!decide (PermP (List.take (13 : Nat) l) ((1 : Int) * (2 : Int) ^ k.toNat))) = false ∧
 (!decide (PermP (List.take (13 : Nat) l) ((1 : Int) * (2 : Int) ^ k.toNat))) = false ∧
 ((1 : Int) ≤ k ∧ k ≤ (2 : Int) ∧ (List.take (13 : Nat) l).length ≤ (1000 : Nat)) ∧
 (¬(waysF k (List.take (13 : Nat) l)).fst = (↑(waysTo k.toNat (List.take (13 : Nat) l) ((2 : Nat) ^ swN k.toNat)) : Int) →
 ¬(waysF k (List.take (13 : Nat) l)).fst = (↑(waysTo k.toNat (List.take (13 : Nat) l) ((2 : Nat) ^ swN k.toNat)) : Int) ∧
 ¬(waysF k (List.take (13 : Nat) l)).fst = (↑(waysTo k.toNat (List.take (13 : Nat) l) ((2 : Nat) ^ swN k.toNat)) : Int) ∧ false = true) ∧
 (¬¬(waysF k (List.take (13 : Nat) l)).fst = (↑(waysTo k.toNat (List.take (13 : Nat) l) ((2 : Nat) ^ swN k.toNat)) : Int) →
 ¬¬(waysF k (List.take (13 : Nat) l)).fst = (↑(waysTo k.toNat (List.take (13 : Nat) l) ((2 : Nat) ^ swN k.toNat)) : Int) ∧
 ¬¬(waysF k (List.take (13 : Nat) l)).fst = (↑(waysTo k.toNat (List.take (13 : Nat) l) ((2 : Nat) ^ swN k.toNat)) : Int) ∧
 (¬(waysF k (List.take (13 : Nat) l)).snd = (0 : Int) →
 ¬(waysF k (List.take (13 : Nat) l)).snd = (0 : Int) ∧
 ¬(waysF k (List.take (13 : Nat) l)).snd = (0 : Int) ∧ ¬(waysF k (List.take (13 : Nat) l)).snd = (0 : Int) ∧ false = true) ∧
 (¬¬(waysF k (List.take (13 : Nat) l)).snd = (0 : Int) →
 ¬¬(waysF k (List.take (13 : Nat) l)).snd = (0 : Int) ∧
 ¬¬(waysF k (List.take (13 : Nat) l)).snd = (0 : Int) ∧
 ¬¬(waysF k (List.take (13 : Nat) l)).snd = (0 : Int) ∧
 True ∧
 (¬decide ((1 : Int) ≤ k ∧ k ≤ (20 : Int)) = decide ((waksF k).snd = (0 : Int)) →
 ¬decide ((1 : Int) ≤ k ∧ k ≤ (20 : Int)) = decide ((waksF k).snd = (0 : Int)) ∧
 ¬decide ((1 : Int) ≤ k ∧ k ≤ (20 : Int)) = decide ((waksF k).snd = (0 : Int)) ∧ false = true) ∧
 (¬¬decide ((1 : Int) ≤ k ∧ k ≤ (20 : Int)) = decide ((waksF k).snd = (0 : Int)) →
 ¬¬decide ((1 : Int) ≤ k ∧ k ≤ (20 : Int)) = decide ((waksF k).snd = (0 : Int)) ∧
 ¬¬decide ((1 : Int) ≤ k ∧ k ≤ (20 : Int)) = decide ((waksF k).snd = (0 : Int)) ∧
 (¬(waksF k).snd = (0 : Int) →
 ¬(waksF k).snd = (0 : Int) ∧
 ¬(waksF k).snd = (0 : Int) ∧
 (¬(waksF k).fst = (0 : Int) → ¬(waksF k).fst = (0 : Int) ∧ ¬(waksF k).fst = (0 : Int) ∧ false = true) ∧
 (¬¬(waksF k).fst = (0 : Int) →
 ¬¬(waksF k).fst = (0 : Int) ∧
 ¬¬(waksF k).fst = (0 : Int) ∧
 (¬(waksF k).snd = (1 : Int) →
 ¬(waksF k).snd = (1 : Int) ∧
 ¬(waksF k).snd = (1 : Int) ∧
 ¬(waksF k).snd = (1 : Int) ∧
 ¬(waksF k).snd = (1 : Int) ∧ ¬(waksF k).snd = (1 : Int) ∧ false = true) ∧
 (¬¬(waksF k).snd = (1 : Int) →
 ¬¬(waksF k).snd = (1 : Int) ∧
 ¬¬(waksF k).snd = (1 : Int) ∧
 ¬¬(waksF k).snd = (1 : Int) ∧
 ¬¬(waksF k).snd = (1 : Int) ∧
 ¬¬(waksF k).snd = (1 : Int) ∧
 ((waksF k).snd = (0 : Int) →
 (waksF k).snd = (0 : Int) ∧
 (waksF k).snd = (0 : Int) ∧
 ((0 : Int) ≤ k ∧ k < (64 : Int)) ∧
 Fits IntKind.i64 (k * (2 : Int) ^ k.toNat) ∧
 ((0 : Int) ≤ k ∧ k < (64 : Int)) ∧
 Fits IntKind.i64 ((1 : Int) * (2 : Int) ^ k.toNat) ∧
 Fits IntKind.i64
 (k * (2 : Int) ^ k.toNat - (1 : Int) * (2 : Int) ^ k.toNat) ∧
 Fits IntKind.i64
 (k * (2 : Int) ^ k.toNat - (1 : Int) * (2 : Int) ^ k.toNat +
 (1 : Int)) ∧
 (¬(waksF k).fst =
 k * (2 : Int) ^ k.toNat - (1 : Int) * (2 : Int) ^ k.toNat +
 (1 : Int) →
 ¬(waksF k).fst =
 k * (2 : Int) ^ k.toNat -
 (1 : Int) * (2 : Int) ^ k.toNat +
 (1 : Int) ∧
 ¬(waksF k).fst =
 k * (2 : Int) ^ k.toNat -
 (1 : Int) * (2 : Int) ^ k.toNat +
 (1 : Int) ∧
 ¬(waksF k).fst =
 k * (2 : Int) ^ k.toNat -
 (1 : Int) * (2 : Int) ^ k.toNat +
 (1 : Int) ∧
 false = true) ∧
 (¬¬(waksF k).fst =
 k * (2 : Int) ^ k.toNat -
 (1 : Int) * (2 : Int) ^ k.toNat +
 (1 : Int) →
 ¬¬(waksF k).fst =
 k * (2 : Int) ^ k.toNat -
 (1 : Int) * (2 : Int) ^ k.toNat +
 (1 : Int) ∧
 ¬¬(waksF k).fst =
 k * (2 : Int) ^ k.toNat -
 (1 : Int) * (2 : Int) ^ k.toNat +
 (1 : Int) ∧
 ¬¬(waksF k).fst =
 k * (2 : Int) ^ k.toNat -
 (1 : Int) * (2 : Int) ^ k.toNat +
 (1 : Int) ∧
 True ∧
 ((!decide (ClosP c.fst c.snd.fst c.snd.snd)) = true →
 (!decide (ClosP c.fst c.snd.fst c.snd.snd)) = true ∧
 ((!(strictF c.fst c.snd.fst c.snd.snd).fst) =
 true →
 (!(strictF c.fst c.snd.fst c.snd.snd).fst) =
 true ∧
 (!(strictF c.fst c.snd.fst c.snd.snd).fst) =
 true ∧
 ((strictF c.fst c.snd.fst c.snd.snd).snd =
 (1 : Int) →
 (strictF c.fst c.snd.fst
 c.snd.snd).snd =
 (1 : Int) ∧
 (strictF c.fst c.snd.fst
 c.snd.snd).snd =
 (1 : Int) ∧
 (strictF c.fst c.snd.fst
 c.snd.snd).snd =
 (1 : Int) ∧
 True ∧ true = true) ∧
 (¬(strictF c.fst c.snd.fst
 c.snd.snd).snd =
 (1 : Int) →
 ¬(strictF c.fst c.snd.fst
 c.snd.snd).snd =
 (1 : Int) ∧
 ¬(strictF c.fst c.snd.fst
 c.snd.snd).snd =
 (1 : Int) ∧
 ¬(strictF c.fst c.snd.fst
 c.snd.snd).snd =
 (1 : Int) ∧
 false = true)) ∧
 ((!(strictF c.fst c.snd.fst c.snd.snd).fst) =
 false →
 (!(strictF c.fst c.snd.fst c.snd.snd).fst) =
 false ∧
 (!(strictF c.fst c.snd.fst c.snd.snd).fst) =
 false ∧
 false = true)) ∧
 ((!decide (ClosP c.fst c.snd.fst c.snd.snd)) = false →
 (!decide (ClosP c.fst c.snd.fst c.snd.snd)) =
 false ∧
 Fits IntKind.i64 ((2 : Int) * c.fst) ∧
 Fits IntKind.i64
 ((2 : Int) * c.fst - (1 : Int)) ∧
 ((2 : Int) * c.fst - (1 : Int) ≤ c.snd.snd →
 (2 : Int) * c.fst - (1 : Int) ≤
 c.snd.snd ∧
 (2 : Int) * c.fst - (1 : Int) ≤
 c.snd.snd ∧
 ((strictF c.fst c.snd.fst
 c.snd.snd).fst =
 true →
 (strictF c.fst c.snd.fst
 c.snd.snd).fst =
 true ∧
 (strictF c.fst c.snd.fst
 c.snd.snd).fst =
 true ∧
 ((strictF c.fst c.snd.fst
 c.snd.snd).snd =
 (0 : Int) →
 (strictF c.fst c.snd.fst
 c.snd.snd).snd =
 (0 : Int) ∧
 (strictF c.fst c.snd.fst
 c.snd.snd).snd =
 (0 : Int) ∧
 (strictF c.fst
 c.snd.fst
 c.snd.snd).snd =
 (0 : Int) ∧
 True ∧
 true = true) ∧
 (¬(strictF c.fst c.snd.fst
 c.snd.snd).snd =
 (0 : Int) →
 ¬(strictF c.fst c.snd.fst
 c.snd.snd).snd =
 (0 : Int) ∧
 ¬(strictF c.fst
 c.snd.fst
 c.snd.snd).snd =
 (0 : Int) ∧
 ¬(strictF c.fst
 c.snd.fst
 c.snd.snd).snd =
 (0 : Int) ∧
 false = true)) ∧
 (¬(strictF c.fst c.snd.fst
 c.snd.snd).fst =
 true →
 ¬(strictF c.fst c.snd.fst
 c.snd.snd).fst =
 true ∧
 ¬(strictF c.fst c.snd.fst
 c.snd.snd).fst =
 true ∧
 false = true)) ∧
 (¬(2 : Int) * c.fst - (1 : Int) ≤
 c.snd.snd →
 ¬(2 : Int) * c.fst - (1 : Int) ≤
 c.snd.snd ∧
 ¬(2 : Int) * c.fst - (1 : Int) ≤
 c.snd.snd ∧
 (c.snd.fst = (1 : Int) →
 c.snd.fst = (1 : Int) ∧
 c.snd.fst = (1 : Int) ∧
 ((strictF c.fst c.snd.fst
 c.snd.snd).fst =
 decide
 (c.fst ≤ c.snd.snd) →
 (strictF c.fst c.snd.fst
 c.snd.snd).fst =
 decide
 (c.fst ≤
 c.snd.snd) ∧
 (strictF c.fst c.snd.fst
 c.snd.snd).fst =
 decide
 (c.fst ≤
 c.snd.snd) ∧
 ((strictF c.fst
 c.snd.fst
 c.snd.snd).snd =
 (0 : Int) →
 (strictF c.fst
 c.snd.fst
 c.snd.snd).snd =
 (0 : Int) ∧
 (strictF c.fst
 c.snd.fst
 c.snd.snd).snd =
 (0 : Int) ∧
 (strictF c.fst
 c.snd.fst
 c.snd.snd).snd =
 (0 :
 Int) ∧
 True ∧
 true =
 true) ∧
 (¬(strictF c.fst
 c.snd.fst
 c.snd.snd).snd =
 (0 : Int) →
 ¬(strictF c.fst
 c.snd.fst
 c.snd.snd).snd =
 (0 : Int) ∧
 ¬(strictF c.fst
 c.snd.fst
 c.snd.snd).snd =
 (0 :
 Int) ∧
 ¬(strictF
 c.fst
 c.snd.fst
 c.snd.snd).snd =
 (0 :
 Int) ∧
 false =
 true)) ∧
 (¬(strictF c.fst c.snd.fst
 c.snd.snd).fst =
 decide
 (c.fst ≤
 c.snd.snd) →
 ¬(strictF c.fst c.snd.fst
 c.snd.snd).fst =
 decide
 (c.fst ≤
 c.snd.snd) ∧
 ¬(strictF c.fst
 c.snd.fst
 c.snd.snd).fst =
 decide
 (c.fst ≤
 c.snd.snd) ∧
 false = true)) ∧
 (¬c.snd.fst = (1 : Int) →
 ¬c.snd.fst = (1 : Int) ∧
 ¬c.snd.fst = (1 : Int) ∧
 ((strictF c.fst c.snd.fst
 c.snd.snd).fst =
 false →
 (strictF c.fst c.snd.fst
 c.snd.snd).fst =
 false ∧
 (strictF c.fst c.snd.fst
 c.snd.snd).fst =
 false ∧
 ((strictF c.fst
 c.snd.fst
 c.snd.snd).snd =
 (0 : Int) →
 (strictF c.fst
 c.snd.fst
 c.snd.snd).snd =
 (0 : Int) ∧
 (strictF c.fst
 c.snd.fst
 c.snd.snd).snd =
 (0 : Int) ∧
 (strictF c.fst
 c.snd.fst
 c.snd.snd).snd =
 (0 :
 Int) ∧
 True ∧
 true =
 true) ∧
 (¬(strictF c.fst
 c.snd.fst
 c.snd.snd).snd =
 (0 : Int) →
 ¬(strictF c.fst
 c.snd.fst
 c.snd.snd).snd =
 (0 : Int) ∧
 ¬(strictF c.fst
 c.snd.fst
 c.snd.snd).snd =
 (0 :
 Int) ∧
 ¬(strictF
 c.fst
 c.snd.fst
 c.snd.snd).snd =
 (0 :
 Int) ∧
 false =
 true)) ∧
 (¬(strictF c.fst c.snd.fst
 c.snd.snd).fst =
 false →
 ¬(strictF c.fst c.snd.fst
 c.snd.snd).fst =
 false ∧
 ¬(strictF c.fst
 c.snd.fst
 c.snd.snd).fst =
 false ∧
 false = true)))))) ∧
 (¬(waksF k).snd = (0 : Int) →
 ¬(waksF k).snd = (0 : Int) ∧
 ¬(waksF k).snd = (0 : Int) ∧
 True ∧
 ((!decide (ClosP c.fst c.snd.fst c.snd.snd)) = true →
 (!decide (ClosP c.fst c.snd.fst c.snd.snd)) = true ∧
 ((!(strictF c.fst c.snd.fst c.snd.snd).fst) = true →
 (!(strictF c.fst c.snd.fst c.snd.snd).fst) = true ∧
 (!(strictF c.fst c.snd.fst c.snd.snd).fst) = true ∧
 ((strictF c.fst c.snd.fst c.snd.snd).snd = (1 : Int) →
 (strictF c.fst c.snd.fst c.snd.snd).snd = (1 : Int) ∧
 (strictF c.fst c.snd.fst c.snd.snd).snd = (1 : Int) ∧
 (strictF c.fst c.snd.fst c.snd.snd).snd = (1 : Int) ∧
 True ∧ true = true) ∧
 (¬(strictF c.fst c.snd.fst c.snd.snd).snd = (1 : Int) →
 ¬(strictF c.fst c.snd.fst c.snd.snd).snd = (1 : Int) ∧
 ¬(strictF c.fst c.snd.fst c.snd.snd).snd = (1 : Int) ∧
 ¬(strictF c.fst c.snd.fst c.snd.snd).snd = (1 : Int) ∧
 false = true)) ∧
 ((!(strictF c.fst c.snd.fst c.snd.snd).fst) = false →
 (!(strictF c.fst c.snd.fst c.snd.snd).fst) = false ∧
 (!(strictF c.fst c.snd.fst c.snd.snd).fst) = false ∧
 false = true)) ∧
 ((!decide (ClosP c.fst c.snd.fst c.snd.snd)) = false →
 (!decide (ClosP c.fst c.snd.fst c.snd.snd)) = false ∧
 Fits IntKind.i64 ((2 : Int) * c.fst) ∧
 Fits IntKind.i64 ((2 : Int) * c.fst - (1 : Int)) ∧
 ((2 : Int) * c.fst - (1 : Int) ≤ c.snd.snd →
 (2 : Int) * c.fst - (1 : Int) ≤ c.snd.snd ∧
 (2 : Int) * c.fst - (1 : Int) ≤ c.snd.snd ∧
 ((strictF c.fst c.snd.fst c.snd.snd).fst = true →
 (strictF c.fst c.snd.fst c.snd.snd).fst = true ∧
 (strictF c.fst c.snd.fst c.snd.snd).fst = true ∧
 ((strictF c.fst c.snd.fst c.snd.snd).snd =
 (0 : Int) →
 (strictF c.fst c.snd.fst c.snd.snd).snd =
 (0 : Int) ∧
 (strictF c.fst c.snd.fst c.snd.snd).snd =
 (0 : Int) ∧
 (strictF c.fst c.snd.fst c.snd.snd).snd =
 (0 : Int) ∧
 True ∧ true = true) ∧
 (¬(strictF c.fst c.snd.fst c.snd.snd).snd =
 (0 : Int) →
 ¬(strictF c.fst c.snd.fst c.snd.snd).snd =
 (0 : Int) ∧
 ¬(strictF c.fst c.snd.fst c.snd.snd).snd =
 (0 : Int) ∧
 ¬(strictF c.fst c.snd.fst c.snd.snd).snd =
 (0 : Int) ∧
 false = true)) ∧
 (¬(strictF c.fst c.snd.fst c.snd.snd).fst = true →
 ¬(strictF c.fst c.snd.fst c.snd.snd).fst = true ∧
 ¬(strictF c.fst c.snd.fst c.snd.snd).fst = true ∧
 false = true)) ∧
 (¬(2 : Int) * c.fst - (1 : Int) ≤ c.snd.snd →
 ¬(2 : Int) * c.fst - (1 : Int) ≤ c.snd.snd ∧
 ¬(2 : Int) * c.fst - (1 : Int) ≤ c.snd.snd ∧
 (c.snd.fst = (1 : Int) →
 c.snd.fst = (1 : Int) ∧
 c.snd.fst = (1 : Int) ∧
 ((strictF c.fst c.snd.fst c.snd.snd).fst =
 decide (c.fst ≤ c.snd.snd) →
 (strictF c.fst c.snd.fst c.snd.snd).fst =
 decide (c.fst ≤ c.snd.snd) ∧
 (strictF c.fst c.snd.fst c.snd.snd).fst =
 decide (c.fst ≤ c.snd.snd) ∧
 ((strictF c.fst c.snd.fst c.snd.snd).snd =
 (0 : Int) →
 (strictF c.fst c.snd.fst
 c.snd.snd).snd =
 (0 : Int) ∧
 (strictF c.fst c.snd.fst
 c.snd.snd).snd =
 (0 : Int) ∧
 (strictF c.fst c.snd.fst
 c.snd.snd).snd =
 (0 : Int) ∧
 True ∧ true = true) ∧
 (¬(strictF c.fst c.snd.fst
 c.snd.snd).snd =
 (0 : Int) →
 ¬(strictF c.fst c.snd.fst
 c.snd.snd).snd =
 (0 : Int) ∧
 ¬(strictF c.fst c.snd.fst
 c.snd.snd).snd =
 (0 : Int) ∧
 ¬(strictF c.fst c.snd.fst
 c.snd.snd).snd =
 (0 : Int) ∧
 false = true)) ∧
 (¬(strictF c.fst c.snd.fst c.snd.snd).fst =
 decide (c.fst ≤ c.snd.snd) →
 ¬(strictF c.fst c.snd.fst c.snd.snd).fst =
 decide (c.fst ≤ c.snd.snd) ∧
 ¬(strictF c.fst c.snd.fst c.snd.snd).fst =
 decide (c.fst ≤ c.snd.snd) ∧
 false = true)) ∧
 (¬c.snd.fst = (1 : Int) →
 ¬c.snd.fst = (1 : Int) ∧
 ¬c.snd.fst = (1 : Int) ∧
 ((strictF c.fst c.snd.fst c.snd.snd).fst = false →
 (strictF c.fst c.snd.fst c.snd.snd).fst =
 false ∧
 (strictF c.fst c.snd.fst c.snd.snd).fst =
 false ∧
 ((strictF c.fst c.snd.fst c.snd.snd).snd =
 (0 : Int) →
 (strictF c.fst c.snd.fst
 c.snd.snd).snd =
 (0 : Int) ∧
 (strictF c.fst c.snd.fst
 c.snd.snd).snd =
 (0 : Int) ∧
 (strictF c.fst c.snd.fst
 c.snd.snd).snd =
 (0 : Int) ∧
 True ∧ true = true) ∧
 (¬(strictF c.fst c.snd.fst
 c.snd.snd).snd =
 (0 : Int) →
 ¬(strictF c.fst c.snd.fst
 c.snd.snd).snd =
 (0 : Int) ∧
 ¬(strictF c.fst c.snd.fst
 c.snd.snd).snd =
 (0 : Int) ∧
 ¬(strictF c.fst c.snd.fst
 c.snd.snd).snd =
 (0 : Int) ∧
 false = true)) ∧
 (¬(strictF c.fst c.snd.fst c.snd.snd).fst =
 false →
 ¬(strictF c.fst c.snd.fst c.snd.snd).fst =
 false ∧
 ¬(strictF c.fst c.snd.fst c.snd.snd).fst =
 false ∧
 false = true)))))))) ∧
 (¬¬(waksF k).snd = (0 : Int) →
 ¬¬(waksF k).snd = (0 : Int) ∧
 ¬¬(waksF k).snd = (0 : Int) ∧
 ((waksF k).snd = (0 : Int) →
 (waksF k).snd = (0 : Int) ∧
 (waksF k).snd = (0 : Int) ∧
 ((0 : Int) ≤ k ∧ k < (64 : Int)) ∧
 Fits IntKind.i64 (k * (2 : Int) ^ k.toNat) ∧
 ((0 : Int) ≤ k ∧ k < (64 : Int)) ∧
 Fits IntKind.i64 ((1 : Int) * (2 : Int) ^ k.toNat) ∧
 Fits IntKind.i64 (k * (2 : Int) ^ k.toNat - (1 : Int) * (2 : Int) ^ k.toNat) ∧
 Fits IntKind.i64 (k * (2 : Int) ^ k.toNat - (1 : Int) * (2 : Int) ^ k.toNat + (1 : Int)) ∧
 (¬(waksF k).fst = k * (2 : Int) ^ k.toNat - (1 : Int) * (2 : Int) ^ k.toNat + (1 : Int) →
 ¬(waksF k).fst =
 k * (2 : Int) ^ k.toNat - (1 : Int) * (2 : Int) ^ k.toNat + (1 : Int) ∧
 ¬(waksF k).fst =
 k * (2 : Int) ^ k.toNat - (1 : Int) * (2 : Int) ^ k.toNat + (1 : Int) ∧
 ¬(waksF k).fst =
 k * (2 : Int) ^ k.toNat - (1 : Int) * (2 : Int) ^ k.toNat + (1 : Int) ∧
 false = true) ∧
 (¬¬(waksF k).fst =
 k * (2 : Int) ^ k.toNat - (1 : Int) * (2 : Int) ^ k.toNat + (1 : Int) →
 ¬¬(waksF k).fst =
 k * (2 : Int) ^ k.toNat - (1 : Int) * (2 : Int) ^ k.toNat + (1 : Int) ∧
 ¬¬(waksF k).fst =
 k * (2 : Int) ^ k.toNat - (1 : Int) * (2 : Int) ^ k.toNat + (1 : Int) ∧
 ¬¬(waksF k).fst =
 k * (2 : Int) ^ k.toNat - (1 : Int) * (2 : Int) ^ k.toNat + (1 : Int) ∧
 True ∧
 ((!decide (ClosP c.fst c.snd.fst c.snd.snd)) = true →
 (!decide (ClosP c.fst c.snd.fst c.snd.snd)) = true ∧
 ((!(strictF c.fst c.snd.fst c.snd.snd).fst) = true →
 (!(strictF c.fst c.snd.fst c.snd.snd).fst) = true ∧
 (!(strictF c.fst c.snd.fst c.snd.snd).fst) = true ∧
 ((strictF c.fst c.snd.fst c.snd.snd).snd = (1 : Int) →
 (strictF c.fst c.snd.fst c.snd.snd).snd = (1 : Int) ∧
 (strictF c.fst c.snd.fst c.snd.snd).snd = (1 : Int) ∧
 (strictF c.fst c.snd.fst c.snd.snd).snd = (1 : Int) ∧
 True ∧ true = true) ∧
 (¬(strictF c.fst c.snd.fst c.snd.snd).snd = (1 : Int) →
 ¬(strictF c.fst c.snd.fst c.snd.snd).snd = (1 : Int) ∧
 ¬(strictF c.fst c.snd.fst c.snd.snd).snd = (1 : Int) ∧
 ¬(strictF c.fst c.snd.fst c.snd.snd).snd = (1 : Int) ∧
 false = true)) ∧
 ((!(strictF c.fst c.snd.fst c.snd.snd).fst) = false →
 (!(strictF c.fst c.snd.fst c.snd.snd).fst) = false ∧
 (!(strictF c.fst c.snd.fst c.snd.snd).fst) = false ∧
 false = true)) ∧
 ((!decide (ClosP c.fst c.snd.fst c.snd.snd)) = false →
 (!decide (ClosP c.fst c.snd.fst c.snd.snd)) = false ∧
 Fits IntKind.i64 ((2 : Int) * c.fst) ∧
 Fits IntKind.i64 ((2 : Int) * c.fst - (1 : Int)) ∧
 ((2 : Int) * c.fst - (1 : Int) ≤ c.snd.snd →
 (2 : Int) * c.fst - (1 : Int) ≤ c.snd.snd ∧
 (2 : Int) * c.fst - (1 : Int) ≤ c.snd.snd ∧
 ((strictF c.fst c.snd.fst c.snd.snd).fst = true →
 (strictF c.fst c.snd.fst c.snd.snd).fst = true ∧
 (strictF c.fst c.snd.fst c.snd.snd).fst = true ∧
 ((strictF c.fst c.snd.fst c.snd.snd).snd =
 (0 : Int) →
 (strictF c.fst c.snd.fst c.snd.snd).snd =
 (0 : Int) ∧
 (strictF c.fst c.snd.fst c.snd.snd).snd =
 (0 : Int) ∧
 (strictF c.fst c.snd.fst c.snd.snd).snd =
 (0 : Int) ∧
 True ∧ true = true) ∧
 (¬(strictF c.fst c.snd.fst c.snd.snd).snd =
 (0 : Int) →
 ¬(strictF c.fst c.snd.fst c.snd.snd).snd =
 (0 : Int) ∧
 ¬(strictF c.fst c.snd.fst c.snd.snd).snd =
 (0 : Int) ∧
 ¬(strictF c.fst c.snd.fst c.snd.snd).snd =
 (0 : Int) ∧
 false = true)) ∧
 (¬(strictF c.fst c.snd.fst c.snd.snd).fst = true →
 ¬(strictF c.fst c.snd.fst c.snd.snd).fst = true ∧
 ¬(strictF c.fst c.snd.fst c.snd.snd).fst = true ∧
 false = true)) ∧
 (¬(2 : Int) * c.fst - (1 : Int) ≤ c.snd.snd →
 ¬(2 : Int) * c.fst - (1 : Int) ≤ c.snd.snd ∧
 ¬(2 : Int) * c.fst - (1 : Int) ≤ c.snd.snd ∧
 (c.snd.fst = (1 : Int) →
 c.snd.fst = (1 : Int) ∧
 c.snd.fst = (1 : Int) ∧
 ((strictF c.fst c.snd.fst c.snd.snd).fst =
 decide (c.fst ≤ c.snd.snd) →
 (strictF c.fst c.snd.fst c.snd.snd).fst =
 decide (c.fst ≤ c.snd.snd) ∧
 (strictF c.fst c.snd.fst c.snd.snd).fst =
 decide (c.fst ≤ c.snd.snd) ∧
 ((strictF c.fst c.snd.fst c.snd.snd).snd =
 (0 : Int) →
 (strictF c.fst c.snd.fst
 c.snd.snd).snd =
 (0 : Int) ∧
 (strictF c.fst c.snd.fst
 c.snd.snd).snd =
 (0 : Int) ∧
 (strictF c.fst c.snd.fst
 c.snd.snd).snd =
 (0 : Int) ∧
 True ∧ true = true) ∧
 (¬(strictF c.fst c.snd.fst
 c.snd.snd).snd =
 (0 : Int) →
 ¬(strictF c.fst c.snd.fst
 c.snd.snd).snd =
 (0 : Int) ∧
 ¬(strictF c.fst c.snd.fst
 c.snd.snd).snd =
 (0 : Int) ∧
 ¬(strictF c.fst c.snd.fst
 c.snd.snd).snd =
 (0 : Int) ∧
 false = true)) ∧
 (¬(strictF c.fst c.snd.fst c.snd.snd).fst =
 decide (c.fst ≤ c.snd.snd) →
 ¬(strictF c.fst c.snd.fst c.snd.snd).fst =
 decide (c.fst ≤ c.snd.snd) ∧
 ¬(strictF c.fst c.snd.fst c.snd.snd).fst =
 decide (c.fst ≤ c.snd.snd) ∧
 false = true)) ∧
 (¬c.snd.fst = (1 : Int) →
 ¬c.snd.fst = (1 : Int) ∧
 ¬c.snd.fst = (1 : Int) ∧
 ((strictF c.fst c.snd.fst c.snd.snd).fst = false →
 (strictF c.fst c.snd.fst c.snd.snd).fst =
 false ∧
 (strictF c.fst c.snd.fst c.snd.snd).fst =
 false ∧
 ((strictF c.fst c.snd.fst c.snd.snd).snd =
 (0 : Int) →
 (strictF c.fst c.snd.fst
 c.snd.snd).snd =
 (0 : Int) ∧
 (strictF c.fst c.snd.fst
 c.snd.snd).snd =
 (0 : Int) ∧
 (strictF c.fst c.snd.fst
 c.snd.snd).snd =
 (0 : Int) ∧
 True ∧ true = true) ∧
 (¬(strictF c.fst c.snd.fst
 c.snd.snd).snd =
 (0 : Int) →
 ¬(strictF c.fst c.snd.fst
 c.snd.snd).snd =
 (0 : Int) ∧
 ¬(strictF c.fst c.snd.fst
 c.snd.snd).snd =
 (0 : Int) ∧
 ¬(strictF c.fst c.snd.fst
 c.snd.snd).snd =
 (0 : Int) ∧
 false = true)) ∧
 (¬(strictF c.fst c.snd.fst c.snd.snd).fst =
 false →
 ¬(strictF c.fst c.snd.fst c.snd.snd).fst =
 false ∧
 ¬(strictF c.fst c.snd.fst c.snd.snd).fst =
 false ∧
 false = true)))))) ∧
 (¬(waksF k).snd = (0 : Int) →
 ¬(waksF k).snd = (0 : Int) ∧
 ¬(waksF k).snd = (0 : Int) ∧
 True ∧
 ((!decide (ClosP c.fst c.snd.fst c.snd.snd)) = true →
 (!decide (ClosP c.fst c.snd.fst c.snd.snd)) = true ∧
 ((!(strictF c.fst c.snd.fst c.snd.snd).fst) = true →
 (!(strictF c.fst c.snd.fst c.snd.snd).fst) = true ∧
 (!(strictF c.fst c.snd.fst c.snd.snd).fst) = true ∧
 ((strictF c.fst c.snd.fst c.snd.snd).snd = (1 : Int) →
 (strictF c.fst c.snd.fst c.snd.snd).snd = (1 : Int) ∧
 (strictF c.fst c.snd.fst c.snd.snd).snd = (1 : Int) ∧
 (strictF c.fst c.snd.fst c.snd.snd).snd = (1 : Int) ∧ True ∧ true = true) ∧
 (¬(strictF c.fst c.snd.fst c.snd.snd).snd = (1 : Int) →
 ¬(strictF c.fst c.snd.fst c.snd.snd).snd = (1 : Int) ∧
 ¬(strictF c.fst c.snd.fst c.snd.snd).snd = (1 : Int) ∧
 ¬(strictF c.fst c.snd.fst c.snd.snd).snd = (1 : Int) ∧ false = true)) ∧
 ((!(strictF c.fst c.snd.fst c.snd.snd).fst) = false →
 (!(strictF c.fst c.snd.fst c.snd.snd).fst) = false ∧
 (!(strictF c.fst c.snd.fst c.snd.snd).fst) = false ∧ false = true)) ∧
 ((!decide (ClosP c.fst c.snd.fst c.snd.snd)) = false →
 (!decide (ClosP c.fst c.snd.fst c.snd.snd)) = false ∧
 Fits IntKind.i64 ((2 : Int) * c.fst) ∧
 Fits IntKind.i64 ((2 : Int) * c.fst - (1 : Int)) ∧
 ((2 : Int) * c.fst - (1 : Int) ≤ c.snd.snd →
 (2 : Int) * c.fst - (1 : Int) ≤ c.snd.snd ∧
 (2 : Int) * c.fst - (1 : Int) ≤ c.snd.snd ∧
 ((strictF c.fst c.snd.fst c.snd.snd).fst = true →
 (strictF c.fst c.snd.fst c.snd.snd).fst = true ∧
 (strictF c.fst c.snd.fst c.snd.snd).fst = true ∧
 ((strictF c.fst c.snd.fst c.snd.snd).snd = (0 : Int) →
 (strictF c.fst c.snd.fst c.snd.snd).snd = (0 : Int) ∧
 (strictF c.fst c.snd.fst c.snd.snd).snd = (0 : Int) ∧
 (strictF c.fst c.snd.fst c.snd.snd).snd = (0 : Int) ∧
 True ∧ true = true) ∧
 (¬(strictF c.fst c.snd.fst c.snd.snd).snd = (0 : Int) →
 ¬(strictF c.fst c.snd.fst c.snd.snd).snd = (0 : Int) ∧
 ¬(strictF c.fst c.snd.fst c.snd.snd).snd = (0 : Int) ∧
 ¬(strictF c.fst c.snd.fst c.snd.snd).snd = (0 : Int) ∧
 false = true)) ∧
 (¬(strictF c.fst c.snd.fst c.snd.snd).fst = true →
 ¬(strictF c.fst c.snd.fst c.snd.snd).fst = true ∧
 ¬(strictF c.fst c.snd.fst c.snd.snd).fst = true ∧ false = true)) ∧
 (¬(2 : Int) * c.fst - (1 : Int) ≤ c.snd.snd →
 ¬(2 : Int) * c.fst - (1 : Int) ≤ c.snd.snd ∧
 ¬(2 : Int) * c.fst - (1 : Int) ≤ c.snd.snd ∧
 (c.snd.fst = (1 : Int) →
 c.snd.fst = (1 : Int) ∧
 c.snd.fst = (1 : Int) ∧
 ((strictF c.fst c.snd.fst c.snd.snd).fst = decide (c.fst ≤ c.snd.snd) →
 (strictF c.fst c.snd.fst c.snd.snd).fst = decide (c.fst ≤ c.snd.snd) ∧
 (strictF c.fst c.snd.fst c.snd.snd).fst =
 decide (c.fst ≤ c.snd.snd) ∧
 ((strictF c.fst c.snd.fst c.snd.snd).snd = (0 : Int) →
 (strictF c.fst c.snd.fst c.snd.snd).snd = (0 : Int) ∧
 (strictF c.fst c.snd.fst c.snd.snd).snd = (0 : Int) ∧
 (strictF c.fst c.snd.fst c.snd.snd).snd = (0 : Int) ∧
 True ∧ true = true) ∧
 (¬(strictF c.fst c.snd.fst c.snd.snd).snd = (0 : Int) →
 ¬(strictF c.fst c.snd.fst c.snd.snd).snd = (0 : Int) ∧
 ¬(strictF c.fst c.snd.fst c.snd.snd).snd = (0 : Int) ∧
 ¬(strictF c.fst c.snd.fst c.snd.snd).snd = (0 : Int) ∧
 false = true)) ∧
 (¬(strictF c.fst c.snd.fst c.snd.snd).fst = decide (c.fst ≤ c.snd.snd) →
 ¬(strictF c.fst c.snd.fst c.snd.snd).fst =
 decide (c.fst ≤ c.snd.snd) ∧
 ¬(strictF c.fst c.snd.fst c.snd.snd).fst =
 decide (c.fst ≤ c.snd.snd) ∧
 false = true)) ∧
 (¬c.snd.fst = (1 : Int) →
 ¬c.snd.fst = (1 : Int) ∧
 ¬c.snd.fst = (1 : Int) ∧
 ((strictF c.fst c.snd.fst c.snd.snd).fst = false →
 (strictF c.fst c.snd.fst c.snd.snd).fst = false ∧
 (strictF c.fst c.snd.fst c.snd.snd).fst = false ∧
 ((strictF c.fst c.snd.fst c.snd.snd).snd = (0 : Int) →
 (strictF c.fst c.snd.fst c.snd.snd).snd = (0 : Int) ∧
 (strictF c.fst c.snd.fst c.snd.snd).snd = (0 : Int) ∧
 (strictF c.fst c.snd.fst c.snd.snd).snd = (0 : Int) ∧
 True ∧ true = true) ∧
 (¬(strictF c.fst c.snd.fst c.snd.snd).snd = (0 : Int) →
 ¬(strictF c.fst c.snd.fst c.snd.snd).snd = (0 : Int) ∧
 ¬(strictF c.fst c.snd.fst c.snd.snd).snd = (0 : Int) ∧
 ¬(strictF c.fst c.snd.fst c.snd.snd).snd = (0 : Int) ∧
 false = true)) ∧
 (¬(strictF c.fst c.snd.fst c.snd.snd).fst = false →
 ¬(strictF c.fst c.snd.fst c.snd.snd).fst = false ∧
 ¬(strictF c.fst c.snd.fst c.snd.snd).fst = false ∧
 false = true)))))))))))) := by
 kernel_rfl

end Go.SX.Pa

/- Chapter 06, part 8: the contract of the reference's Apply. -/
namespace Go.SX.Pa
open Go Go.Proofs

theorem one_letter {s : ByteArray} (h : s.size = 1) (hb : bt s 0 = 49) : s = ByteArray.mk #[49] := by
  have h' : s.data.size = 1 := h
  apply ByteArray.ext
  apply Array.ext
  · simpa using h'
  · intro i h1 h2
    have hi : i = 0 := by omega
    subst hi
    unfold bt at hb
    rw [Array.getElem?_eq_getElem h1] at hb
    simp only [Option.getD_some] at hb
    have : s.data[0] = 49 := UInt8.toNat_inj.1 (by have : (49 : UInt8).toNat = 49 := rfl; omega)
    rw [this]; rfl

theorem ok48 : p48.OK Tryd.prog := p48.rec_ok (fn := Tryd.f48) m53 C48 (fun _ h => cx2 (PC.OK.ci ok32) (PC.OK.ci h)) rfl (by decide +kernel) rfl fun (p : Int × ByteArray) hp => by
  obtain ⟨k, s⟩ := p
  refine (g48_eq k s).mpr ?_
  obtain ⟨⟨h1, h2⟩, h3, h4⟩ := hp
  have h1 : (1 : Int) ≤ k := h1
  have h2 : k ≤ (3 : Int) := h2
  have h3 : s.size = swN k.toNat := h3
  have hb : Bits s := h4
  simp only [pp1, eq_self, and_true, true_and, and_self, Int.toNat_natCast]
  refine ⟨fun h => ?_, fun h => ?_⟩
  · subst h
    have e : (1 : Int).toNat = 1 := rfl
    rw [e, swN_one] at h3
    have b := hb 0 (by omega)
    rw [e, applyF_one]
    refine ⟨fun h => by subst h; decide, fun h => ?_⟩
    rcases b with b | b
    · rw [b]; decide
    · exact absurd (one_letter h3 b) h
  · obtain ⟨K, hK⟩ : ∃ K : Nat, k = (K : Nat) := ⟨k.toNat, by omega⟩
    subst hK
    have hK : K = 2 ∨ K = 3 := by omega
    rw [Int.toNat_natCast] at h3
    have eK : ((K : Int) - 1).toNat = K - 1 := by omega
    have eH : (1 : Int) * 2 ^ (K - 1) = (hN K : Nat) := by rcases hK with rfl | rfl <;> decide
    have eS : switchesF ((K : Int) - 1) = (swN (K - 1) : Nat) := by rcases hK with rfl | rfl <;> decide
    have z : s.size = 2 * hN K + 2 * swN (K - 1) ∧ hN K ≤ 4 ∧ hN K = 2 * hN (K - 1) ∧ swN (K - 1) ≤ 6 := by
      rw [h3]
      rcases hK with rfl | rfl <;> decide
    obtain ⟨z1, z2, z3, z4⟩ := z
    simp only [eK, eH, eS, Int.toNat_natCast]
    have aEl : applyEl K s = elF (hN K) (swN (K - 1)) s (applyF (K - 1) (s.extract (hN K) (hN K + swN (K - 1)))) (applyF (K - 1) (s.extract (hN K + swN (K - 1)) (hN K + 2 * swN (K - 1)))) := rfl
    have hdone : (List.range (2 * hN K)).map (applyEl K s) = applyF K s := by rw [applyF_next K (by omega)]
    generalize hh : hN K = h at *
    generalize hn : swN (K - 1) = n at *
    have t1 : ((h : Int) + (n : Int)).toNat = h + n := by omega
    have t2 : ((h : Int) + 2 * (n : Int)).toNat = h + 2 * n := by omega
    have t3 : ((s.size : Int) - (h : Int)).toNat = h + 2 * n := by omega
    simp only [t1, t2, t3]
    have s0 : (s.extract h (h + n)).size = n := by rw [size_extract (by omega) (by omega)]; omega
    have s1 : (s.extract (h + n) (h + 2 * n)).size = n := by rw [size_extract (by omega) (by omega)]; omega
    have sl : (s.extract (h + 2 * n) s.size).size = h := by rw [size_extract (by omega) (by omega)]; omega
    have sf : (s.extract 0 h).size = h := by rw [size_extract (by omega) (by omega)]; omega
    have B0 : Bits (s.extract h (h + n)) := hb.extract (by omega) (by omega)
    have B1 : Bits (s.extract (h + n) (h + 2 * n)) := hb.extract (by omega) (by omega)
    have Bl : Bits (s.extract (h + 2 * n) s.size) := hb.extract (by omega) (by omega)
    have Bf : Bits (s.extract 0 h) := hb.extract (by omega) (by omega)
    obtain ⟨l0, r0⟩ := applyF_good (K - 1) (by omega) (by omega) _ (by rw [s0, hn]) B0
    obtain ⟨l1, r1⟩ := applyF_good (K - 1) (by omega) (by omega) _ (by rw [s1, hn]) B1
    rw [← z3] at l0 l1 r0 r1
    rw [s0, s1, sl, sf]
    generalize applyF (K - 1) (s.extract h (h + n)) = p0 at *
    generalize applyF (K - 1) (s.extract (h + n) (h + 2 * n)) = p1 at *
    have F := fun {a : Int} (q1 : -100 ≤ a) (q2 : a ≤ 100) => (fits_i64 (n := a) (by omega) (by omega))
    refine ⟨F (by omega) (by omega), by omega, F (by omega) (by omega), F (by omega) (by omega), by omega, by omega, F (by omega) (by omega), by omega, F (by omega) (by omega), F (by omega) (by omega), by omega, F (by omega) (by omega), F (by omega) (by omega), F (by omega) (by omega), F (by omega) (by omega), by omega,
      ⟨⟨by omega, by omega, fun i hi => B0 i (by omega)⟩, ?_⟩, ⟨⟨by omega, by omega, fun i hi => B1 i (by omega)⟩, ?_⟩, ⟨0, by omega, rfl, rfl⟩, fun x hx => ⟨F (by omega) (by omega), fun h5 => ?_, fun h5 => ?_⟩⟩
    · show K - 1 < (K : Int).toNat
      omega
    · show K - 1 < (K : Int).toNat
      omega
    · have hx' : x < 2 * h := by omega
      have tx : ((x : Int) / 2).toNat = x / 2 := by omega
      have b1 := Bf (x / 2) (by omega)
      simp only [tx, w8 b1, and_one (y := (x : Int)) (by omega)]
      have hx2 : (x : Int) % 2 = 0 ∨ (x : Int) % 2 = 1 := by omega
      have q1 := xr01 hx2 (show bt (s.extract 0 h) (x / 2) - 48 = 0 ∨ bt (s.extract 0 h) (x / 2) - 48 = 1 by omega)
      have hel : applyEl K s x = elF h n s p0 p1 x := by rw [aEl]
      unfold elF xr at hel
      simp only at hel
      have hsucc : (List.range (x + 1)).map (applyEl K s) = (List.range x).map (applyEl K s) ++ [applyEl K s x] := by simp [List.range_succ]
      rw [hel] at hsucc
      generalize bitsF .xor .i64 ((x : Int) % 2) (bt (s.extract 0 h) (x / 2) - 48) = p at q1 hsucc ⊢
      have a0 := r0 _ (getD_mem p0 0 (k := x / 2) (by omega))
      have a1 := r1 _ (getD_mem p1 0 (k := x / 2) (by omega))
      have hsz : ∀ (q : List Int), q.length = h → (0 : Int) ≤ (x : Int) / 2 ∧ (x : Int) / 2 < (q.length : Int) := fun q hq => by omega
      have hlm : ((List.range x).map (applyEl K s)).length = x := by simp
      rcases q1 with rfl | rfl
      · rw [if_pos rfl] at hsucc
        have e0 : [p0, p1].getD (Int.toNat 0) [] = p0 := rfl
        simp only [e0]
        have hz := hsz p0 l0
        generalize p0.getD (x / 2) 0 = y at a0 hsucc ⊢
        have b2 := Bl y.toNat (by omega)
        rw [w8 b2]
        have q2 := xr01 (a := 0) (.inl rfl) (show bt (s.extract (h + 2 * n) s.size) y.toNat - 48 = 0 ∨ bt (s.extract (h + 2 * n) s.size) y.toNat - 48 = 1 by omega)
        rw [xr_two (by omega) (.inl rfl) (by omega)] at hsucc
        exact ⟨by omega, F (by omega) (by omega), by omega, F (by omega) (by omega), by decide, by omega, F (by omega) (by omega), hz, F (by omega) (by omega), by omega, F (by omega) (by omega), F (by omega) (by omega), by rw [hlm]; unfold Small; omega, fits_nat (by omega), x + 1, by omega, by omega, hsucc.symm, by simp⟩
      · rw [if_neg (by decide)] at hsucc
        have e0 : [p0, p1].getD (Int.toNat 1) [] = p1 := rfl
        simp only [e0]
        have hz := hsz p1 l1
        generalize p1.getD (x / 2) 0 = y at a1 hsucc ⊢
        have b2 := Bl y.toNat (by omega)
        rw [w8 b2]
        have q2 := xr01 (a := 1) (.inr rfl) (show bt (s.extract (h + 2 * n) s.size) y.toNat - 48 = 0 ∨ bt (s.extract (h + 2 * n) s.size) y.toNat - 48 = 1 by omega)
        rw [xr_two (by omega) (.inr rfl) (by omega)] at hsucc
        exact ⟨by omega, F (by omega) (by omega), by omega, F (by omega) (by omega), by decide, by omega, F (by omega) (by omega), hz, F (by omega) (by omega), by omega, F (by omega) (by omega), F (by omega) (by omega), by rw [hlm]; unfold Small; omega, fits_nat (by omega), x + 1, by omega, by omega, hsucc.symm, by simp⟩
    · have : x = 2 * h := by omega
      subst this
      exact hdone

theorem ok23 : p23.OK Tryd.prog := p23.ok C23 (fun _ => cx_ok (cs := [p32.ci, p55.ci, p48.ci, p28.ci]) ⟨PC.OK.ci ok32, PC.OK.ci ok55, PC.OK.ci ok48, PC.OK.ci ok28, trivial⟩ _) (fn := Tryd.f23) rfl (by decide +kernel) rfl fun (p : Int × List Int) hp => by
  obtain ⟨k, l⟩ := p
  refine (g23_eq k l).mpr ?_
  obtain ⟨q1, q2, q3⟩ := hp
  have q1 : (1 : Int) ≤ k := q1
  have q2 : k ≤ (2 : Int) := q2
  have q3 : l.length ≤ 1000 := q3
  simp only [pp1, eq_self, and_true, true_and, and_self, Int.toNat_natCast]
  obtain ⟨K, hK⟩ : ∃ K : Nat, k = (K : Nat) := ⟨k.toNat, by omega⟩
  subst hK
  have hK : K = 1 ∨ K = 2 := by omega
  have eS : switchesF (K : Int) = (swN K : Nat) := by rcases hK with rfl | rfl <;> decide
  have z : swN K ≤ 6 ∧ 2 ^ swN K ≤ 64 ∧ hN K ≤ 4 := by rcases hK with rfl | rfl <;> decide
  obtain ⟨z1, z2, z3⟩ := z
  simp only [eS, Int.toNat_natCast, Int.one_mul]
  have e3 : ((2 : Int) ^ swN K) = ((2 ^ swN K : Nat) : Int) := by simp
  rw [e3]
  generalize hW : (2 : Nat) ^ swN K = W at *
  refine ⟨by omega, ⟨0, by omega, rfl, by simp [waysTo]⟩, fun x hx => ⟨by omega, fits_i64 (by omega) (by omega), fun h1 => ?_, fun h1 => ?_⟩⟩
  · have hg := applyF_good K (by omega) (by omega) (writ x (swN K)) (writ_size _ _) (writ_bits _ _)
    have hw := waysTo_succ K l x
    have hwl := waysTo_le K l x
    refine ⟨by omega, ⟨by omega, writ_size _ _, writ_bits _ _⟩, ⟨by rw [hg.1]; omega, q3⟩, fun h2 => ⟨fits_nat (by omega), fits_nat (by omega), x + 1, by omega, by omega, by simp, ?_⟩, fun h2 => ⟨fits_nat (by omega), x + 1, by omega, by omega, by simp, ?_⟩⟩
    · rw [hw, if_pos (of_decide_eq_true h2)]; simp
    · rw [hw, if_neg (of_decide_eq_false h2)]; simp
  · have : x = W := by omega
    rw [this]
end Go.SX.Pa

/- Chapter 06, part 9: the law PatchNumbers. -/
namespace Go.SX.Pa
open Go Go.Proofs

theorem waks_eq (k : Int) : (k - 1) * 2 ^ k.toNat + 1 = k * 2 ^ k.toNat - 1 * 2 ^ k.toNat + 1 := by
  rw [Int.sub_mul]
theorem waks_fits2 {k : Int} (h1 : 1 ≤ k) (h2 : k ≤ 20) : Fits .i64 (k * 2 ^ k.toNat) ∧ Fits .i64 (1 * 2 ^ k.toNat) ∧ Fits .i64 (k * 2 ^ k.toNat - 1 * 2 ^ k.toNat) ∧ Fits .i64 (k * 2 ^ k.toNat - 1 * 2 ^ k.toNat + 1) := by
  have hp : (2 : Int) ^ k.toNat ≤ 2 ^ 20 := by
    have : (2 : Nat) ^ k.toNat ≤ 2 ^ 20 := Nat.pow_le_pow_right (by omega) (by omega)
    exact_mod_cast this
  have hp0 : (0 : Int) < 2 ^ k.toNat := Int.pow_pos (by omega)
  have h0 : 0 ≤ k * 2 ^ k.toNat := Int.mul_nonneg (by omega) (by omega)
  have h3 : k * 2 ^ k.toNat ≤ 20 * 2 ^ 20 := Int.mul_le_mul (by omega) hp (by omega) (by omega)
  have e : (2 : Int) ^ 20 = 1048576 := by decide
  rw [e] at h3 hp
  exact ⟨fits_i64 (by omega) (by omega), fits_i64 (by omega) (by omega), fits_i64 (by omega) (by omega), fits_i64 (by omega) (by omega)⟩
theorem pow_small {k : Int} (h : 1 ≤ k ∧ k ≤ 2) : (0 : Int) ≤ 1 * 2 ^ k.toNat ∧ (1 : Int) * 2 ^ k.toNat ≤ 1000000 := by
  have : k = 1 ∨ k = 2 := by omega
  rcases this with rfl | rfl <;> decide

theorem ok3 : p3.OK Tryd.prog := p3.ok (fun _ => cx [p17.ci, p18.ci, p19.ci, p20.ci, p21.ci, p22.ci, p23.ci, p24.ci, p25.ci] []) (fun _ => cx_ok (cs := [p17.ci, p18.ci, p19.ci, p20.ci, p21.ci, p22.ci, p23.ci, p24.ci, p25.ci]) ⟨PC.OK.ci ok17, PC.OK.ci ok18, PC.OK.ci ok19, PC.OK.ci ok20, PC.OK.ci ok21, PC.OK.ci ok22, PC.OK.ci ok23, PC.OK.ci ok24, PC.OK.ci ok25, trivial⟩ _) (fn := Tryd.f3) rfl (by decide +kernel) rfl fun (p : Int × List Int × Cl) _ => by
  obtain ⟨k, l, c⟩ := p
  refine (g3_eq k l c).mpr ?_
  have hl : (l.take 13).length ≤ 1000 := by rw [List.length_take]; omega
  generalize l.take 13 = q at hl ⊢
  obtain ⟨n, r, m⟩ := c
  -- the third question
  obtain ⟨s, e, hs, hs1, hs2⟩ : ∃ (s : Bool) (e : Int), strictF n r m = (s, e) ∧ (ClosP n r m → s = decide (2 * n - 1 ≤ m ∨ r = 1 ∧ n ≤ m) ∧ e = 0 ∧ Fits .i64 (2 * n) ∧ Fits .i64 (2 * n - 1)) ∧ (¬ ClosP n r m → s = false ∧ e = 1) := by
    unfold strictF
    by_cases h : ClosP n r m
    · rw [if_pos h]
      have h' := h
      unfold ClosP at h'
      exact ⟨_, _, rfl, fun _ => ⟨rfl, rfl, fits_i64 (by omega) (by omega), fits_i64 (by omega) (by omega)⟩, fun h2 => absurd h h2⟩
    · rw [if_neg h]
      exact ⟨_, _, rfl, fun h2 => absurd h2 h, fun _ => ⟨rfl, rfl⟩⟩
  obtain ⟨w2, e2, hw, hw1, hw2⟩ : ∃ w2 e2 : Int, waksF k = (w2, e2) ∧ (1 ≤ k ∧ k ≤ 20 → w2 = k * 2 ^ k.toNat - 1 * 2 ^ k.toNat + 1 ∧ e2 = 0) ∧ (¬ (1 ≤ k ∧ k ≤ 20) → w2 = 0 ∧ e2 = 1) := by
    unfold waksF
    by_cases h : 1 ≤ k ∧ k ≤ 20
    · rw [if_pos h]
      exact ⟨_, _, rfl, fun _ => ⟨waks_eq k, rfl⟩, fun h2 => absurd h h2⟩
    · rw [if_neg h]
      exact ⟨_, _, rfl, fun h2 => absurd h2 h, fun _ => ⟨rfl, rfl⟩⟩
  simp only [hs, hw]
  by_cases hc : ClosP n r m
  · obtain ⟨rfl, rfl, g1, g2⟩ := hs1 hc
    have dc := decide_eq_true hc
    by_cases h12 : 1 ≤ k ∧ k ≤ 2
    · have hk20 : 1 ≤ k ∧ k ≤ 20 := by omega
      obtain ⟨rfl, rfl⟩ := hw1 hk20
      have ff := waks_fits2 hk20.1 hk20.2
      simp only [Int.one_mul] at ff
      obtain ⟨f1, f2, f3, f4⟩ := ff
      have pw := pow_small h12
      simp only [Int.one_mul] at pw
      obtain ⟨pw1, pw2⟩ := pw
      have b0 : 0 ≤ k := by omega
      have b64 : k < 64 := by omega
      have d12 := decide_eq_true h12
      have d20 := decide_eq_true hk20
      by_cases hp : PermP q (1 * 2 ^ k.toNat)
      · have dp := decide_eq_true hp
        rw [Int.one_mul] at dp
        have hv : waysF k q = (((waysTo k.toNat q (2 ^ swN k.toNat) : Nat) : Int), 0) := by
          unfold waysF; rw [if_pos h12, if_pos (by rw [Int.one_mul] at hp; exact hp)]
        by_cases a1 : 2 * n - 1 ≤ m <;> by_cases a2 : r = 1 <;> by_cases a3 : n ≤ m <;> (simp only [hv, d12, d20, dp, dc, Int.one_mul]; simp [f1, f2, f3, f4, pw1, pw2, hl, b0, b64, g1, g2, a1, a2, a3, h12.1, h12.2])
      · have dp := decide_eq_false hp
        rw [Int.one_mul] at dp
        have hv : waysF k q = (0, 2) := by
          unfold waysF; rw [if_pos h12, if_neg (by rw [Int.one_mul] at hp; exact hp)]
        by_cases a1 : 2 * n - 1 ≤ m <;> by_cases a2 : r = 1 <;> by_cases a3 : n ≤ m <;> (simp only [hv, d12, d20, dp, dc, Int.one_mul]; simp [f1, f2, f3, f4, pw1, pw2, hl, b0, b64, g1, g2, a1, a2, a3, h12.1, h12.2])
    · have hv : waysF k q = (0, 1) := by unfold waysF; rw [if_neg h12]
      have d12 := decide_eq_false h12
      by_cases hk20 : 1 ≤ k ∧ k ≤ 20
      · obtain ⟨rfl, rfl⟩ := hw1 hk20
        have ff := waks_fits2 hk20.1 hk20.2
        simp only [Int.one_mul] at ff
        obtain ⟨f1, f2, f3, f4⟩ := ff
        have b0 : 0 ≤ k := by omega
        have b64 : k < 64 := by omega
        have d20 := decide_eq_true hk20
        by_cases a1 : 2 * n - 1 ≤ m <;> by_cases a2 : r = 1 <;> by_cases a3 : n ≤ m <;> (simp only [hv, d12, d20, dc, Int.one_mul]; simp [f1, f2, f3, f4, hl, b0, b64, g1, g2, a1, a2, a3])
      · obtain ⟨rfl, rfl⟩ := hw2 hk20
        have d20 := decide_eq_false hk20
        by_cases a1 : 2 * n - 1 ≤ m <;> by_cases a2 : r = 1 <;> by_cases a3 : n ≤ m <;> (simp only [hv, d12, d20, dc, Int.one_mul]; simp [hl, g1, g2, a1, a2, a3])
  · obtain ⟨rfl, rfl⟩ := hs2 hc
    have dc := decide_eq_false hc
    by_cases h12 : 1 ≤ k ∧ k ≤ 2
    · have hk20 : 1 ≤ k ∧ k ≤ 20 := by omega
      obtain ⟨rfl, rfl⟩ := hw1 hk20
      have ff := waks_fits2 hk20.1 hk20.2
      simp only [Int.one_mul] at ff
      obtain ⟨f1, f2, f3, f4⟩ := ff
      have pw := pow_small h12
      simp only [Int.one_mul] at pw
      obtain ⟨pw1, pw2⟩ := pw
      have b0 : 0 ≤ k := by omega
      have b64 : k < 64 := by omega
      have d12 := decide_eq_true h12
      have d20 := decide_eq_true hk20
      by_cases hp : PermP q (1 * 2 ^ k.toNat)
      · have dp := decide_eq_true hp
        rw [Int.one_mul] at dp
        have hv : waysF k q = (((waysTo k.toNat q (2 ^ swN k.toNat) : Nat) : Int), 0) := by
          unfold waysF; rw [if_pos h12, if_pos (by rw [Int.one_mul] at hp; exact hp)]
        (simp only [hv, d12, d20, dp, dc, Int.one_mul]; simp [f1, f2, f3, f4, pw1, pw2, hl, b0, b64, h12.1, h12.2])
      · have dp := decide_eq_false hp
        rw [Int.one_mul] at dp
        have hv : waysF k q = (0, 2) := by
          unfold waysF; rw [if_pos h12, if_neg (by rw [Int.one_mul] at hp; exact hp)]
        (simp only [hv, d12, d20, dp, dc, Int.one_mul]; simp [f1, f2, f3, f4, pw1, pw2, hl, b0, b64, h12.1, h12.2])
    · have hv : waysF k q = (0, 1) := by unfold waysF; rw [if_neg h12]
      have d12 := decide_eq_false h12
      by_cases hk20 : 1 ≤ k ∧ k ≤ 20
      · obtain ⟨rfl, rfl⟩ := hw1 hk20
        have ff := waks_fits2 hk20.1 hk20.2
        simp only [Int.one_mul] at ff
        obtain ⟨f1, f2, f3, f4⟩ := ff
        have b0 : 0 ≤ k := by omega
        have b64 : k < 64 := by omega
        have d20 := decide_eq_true hk20
        (simp only [hv, d12, d20, dc, Int.one_mul]; simp [f1, f2, f3, f4, hl, b0, b64])
      · obtain ⟨rfl, rfl⟩ := hw2 hk20
        have d20 := decide_eq_false hk20
        (simp only [hv, d12, d20, dc, Int.one_mul]; simp [hl])
end Go.SX.Pa

/- Chapter 06 in plain words, part C: the reference's colourings. -/
namespace Go.SX.Pa
def properF (es : List Ed) (l : List Int) : Bool := (List.range l.length).all fun i => !clashF es l i
/-- The reference's search: f more edges. -/
def refG (es : List Ed) (m : Nat) : Nat → List Int → Option (List Int)
  | 0, l => if properF es l = true then some l else none
  | f + 1, l => if properF es l = true then (List.range m).findSome? fun c : Nat => refG es m f (l ++ [(c : Int)]) else none
def refC (es : List Ed) (m : Int) (l : List Int) : Option (List Int) := refG es m.toNat (es.length - l.length) l
def noRef (es : List Ed) (m : Int) (l : List Int) (k : Nat) : Prop := ∀ c : Nat, c < k → refC es m (l ++ [(c : Int)]) = none
def cntA (es : List Ed) (v : Nat) : Int := (es.countP fun e => decide (e.1 = (v : Int)) : Nat)
def cntB (es : List Ed) (v : Nat) : Int := (es.countP fun e => decide (e.2 = (v : Int)) : Nat)
def degR (es : List Ed) : Nat → Int
  | 0 => 0
  | v + 1 => max (max (degR es v) (cntA es v)) (cntB es v)
def graphF (a c : Int) (es : List Ed) : Int := if 12 < es.length then 3 else if ¬ (1 ≤ a ∧ a ≤ 6) ∨ ¬ (1 ≤ c ∧ c ≤ 6) ∨ es.any (badEd a c) = true then 1 else 0
end Go.SX.Pa

/- Chapter 06, part 10: the reference's colourings. -/
namespace Go.SX.Pa
open Go Go.Proofs
noncomputable section
@[reducible] def p35 : PC := ⟨35, [aEds, aIs], [aB], fun p => p.1.length ≤ 1000 ∧ p.2.length ≤ p.1.length, fun p => properF p.1 p.2⟩
@[reducible] def C35 (p : List Ed × List Int) : Ctx := cx [] [(0, fun _ => upTo p.2.length 5 [0, 1] fun i => ∀ a, a < i → clashF p.1 p.2 a = false), (1, withI 5 fun i => upTo i.toNat 6 [0, 1, 5] fun j => ∀ b, b < j → touch p.1 p.2 i.toNat b = false)]
def g35 (es : List Ed) (l : List Int) : Prop := p35.VC (C35 (es, l)) Tryd.f35 (es, l)
@[reducible] def p30 : PC := ⟨30, [aEds], [aI], fun es => es.length ≤ 1000, fun es => degR es 6⟩
@[reducible] def C30 (es : List Ed) : Ctx := cx [] [(0, fun _ => upToS 6 4 [0] (fun _ => True) fun v => [(3, .c (.int .i64 (degR es v)))]),
  (1, withI 4 fun v => upToS es.length 7 [0, 3, 4] (fun _ => True) fun j => [(5, .c (.int .i64 (cntA (es.take j) v.toNat))), (6, .c (.int .i64 (cntB (es.take j) v.toNat)))])]
def g30 (es : List Ed) : Prop := p30.VC (C30 es) Tryd.f30 es
@[reducible] def p27 : PC := ⟨27, [aI, aI, aEds], [aI], fun p => p.2.2.length ≤ 1000, fun p => graphF p.1 p.2.1 p.2.2⟩
@[reducible] def C27 (p : Int × Int × List Ed) : Ctx := cx [p21.ci] [(0, fun _ => upTo p.2.2.length 7 [0, 1, 2] fun k => (p.2.2.take k).any (badEd p.1 p.2.1) = false)]
def g27 (a c : Int) (es : List Ed) : Prop := p27.VC (C27 (a, c, es)) Tryd.f27 (a, c, es)
@[reducible] def n29 : NC := ⟨29, [aEds, aI, aIs], .int .i64, fun p => (p.1.length ≤ 1000 ∧ p.2.2.length ≤ p.1.length) ∧ 0 ≤ p.2.1 ∧ p.2.1 ≤ 1000, fun p => refC p.1 p.2.1 p.2.2⟩
@[reducible] def m29 (p : List Ed × Int × List Int) : Nat := p.1.length - p.2.2.length
@[reducible] def C29 (p : List Ed × Int × List Int) : Ctx := cx [p35.ci, (n29.below m29 (m29 p)).ci] [(0, fun _ => { τ := Nat, pre := [], preC := [], keep := [0, 1, 2], slots := fun k => [(7, .c (.int .i64 k))], ents := fun _ => [], ok := fun k => (k : Int) ≤ p.2.1 ∧ noRef p.1 p.2.1 p.2.2 k, m := fun k => p.2.1.toNat - k })]
def g29 (es : List Ed) (m : Int) (l : List Int) : Prop := NilVC (C29 (es, m, l)) Tryd.f29 n29 (es, m, l)
end
end Go.SX.Pa

/- Printed by VC.lean: what the executor asks. -/
namespace Go.SX.Pa
open Go Go.Proofs
theorem g35_eq (es : List Ed) (l : List Int) : g35 es l = (
 (∃ (x0 : Nat), (x0 ≤ l.length ∧ ∀ (a : Nat), a < x0 → clashF es l a = false) ∧ True ∧ (0 : Int) = (↑x0 : Int) ∧ es = es ∧ l = l ∧ True) ∧
 ∀ (x : Nat),
 (x ≤ l.length ∧ ∀ (a : Nat), a < x → clashF es l a = false) →
 ((↑x : Int) < (↑l.length : Int) →
 (↑x : Int) < (↑l.length : Int) ∧
 (∃ (x0 : Nat),
 (x0 ≤ (↑x : Int).toNat ∧ ∀ (b : Nat), b < x0 → touch es l (↑x : Int).toNat b = false) ∧
 True ∧ (0 : Int) = (↑x0 : Int) ∧ (↑x : Int) = (↑x : Int) ∧ es = es ∧ l = l ∧ True) ∧
 ∀ (x_1 : Nat),
 (x_1 ≤ (↑x : Int).toNat ∧ ∀ (b : Nat), b < x_1 → touch es l (↑x : Int).toNat b = false) →
 ((↑x_1 : Int) < (↑x : Int) →
 (↑x_1 : Int) < (↑x : Int) ∧
 ((0 : Int) ≤ (↑x : Int) ∧ (↑x : Int) < (↑l.length : Int)) ∧
 ((0 : Int) ≤ (↑x_1 : Int) ∧ (↑x_1 : Int) < (↑l.length : Int)) ∧
 (l.getD (↑x : Int).toNat (0 : Int) = l.getD (↑x_1 : Int).toNat (0 : Int) →
 l.getD (↑x : Int).toNat (0 : Int) = l.getD (↑x_1 : Int).toNat (0 : Int) ∧
 l.getD (↑x : Int).toNat (0 : Int) = l.getD (↑x_1 : Int).toNat (0 : Int) ∧
 ((0 : Int) ≤ (↑x : Int) ∧ (↑x : Int) < (↑es.length : Int)) ∧
 ((0 : Int) ≤ (↑x_1 : Int) ∧ (↑x_1 : Int) < (↑es.length : Int)) ∧
 ((es.getD (↑x : Int).toNat ((0 : Int), (0 : Int))).fst = (es.getD (↑x_1 : Int).toNat ((0 : Int), (0 : Int))).fst →
 (es.getD (↑x : Int).toNat ((0 : Int), (0 : Int))).fst = (es.getD (↑x_1 : Int).toNat ((0 : Int), (0 : Int))).fst ∧
 (es.getD (↑x : Int).toNat ((0 : Int), (0 : Int))).fst = (es.getD (↑x_1 : Int).toNat ((0 : Int), (0 : Int))).fst ∧
 false = properF es l) ∧
 (¬(es.getD (↑x : Int).toNat ((0 : Int), (0 : Int))).fst = (es.getD (↑x_1 : Int).toNat ((0 : Int), (0 : Int))).fst →
 ¬(es.getD (↑x : Int).toNat ((0 : Int), (0 : Int))).fst = (es.getD (↑x_1 : Int).toNat ((0 : Int), (0 : Int))).fst ∧
 ¬(es.getD (↑x : Int).toNat ((0 : Int), (0 : Int))).fst = (es.getD (↑x_1 : Int).toNat ((0 : Int), (0 : Int))).fst ∧
 ((0 : Int) ≤ (↑x : Int) ∧ (↑x : Int) < (↑es.length : Int)) ∧
 ((0 : Int) ≤ (↑x_1 : Int) ∧ (↑x_1 : Int) < (↑es.length : Int)) ∧
 ((es.getD (↑x : Int).toNat ((0 : Int), (0 : Int))).snd = (es.getD (↑x_1 : Int).toNat ((0 : Int), (0 : Int))).snd →
 (es.getD (↑x : Int).toNat ((0 : Int), (0 : Int))).snd = (es.getD (↑x_1 : Int).toNat ((0 : Int), (0 : Int))).snd ∧
 (es.getD (↑x : Int).toNat ((0 : Int), (0 : Int))).snd = (es.getD (↑x_1 : Int).toNat ((0 : Int), (0 : Int))).snd ∧
 (es.getD (↑x : Int).toNat ((0 : Int), (0 : Int))).snd = (es.getD (↑x_1 : Int).toNat ((0 : Int), (0 : Int))).snd ∧
 false = properF es l) ∧
 (¬(es.getD (↑x : Int).toNat ((0 : Int), (0 : Int))).snd = (es.getD (↑x_1 : Int).toNat ((0 : Int), (0 : Int))).snd →
 ¬(es.getD (↑x : Int).toNat ((0 : Int), (0 : Int))).snd = (es.getD (↑x_1 : Int).toNat ((0 : Int), (0 : Int))).snd ∧
 ¬(es.getD (↑x : Int).toNat ((0 : Int), (0 : Int))).snd = (es.getD (↑x_1 : Int).toNat ((0 : Int), (0 : Int))).snd ∧
 ¬(es.getD (↑x : Int).toNat ((0 : Int), (0 : Int))).snd = (es.getD (↑x_1 : Int).toNat ((0 : Int), (0 : Int))).snd ∧
 Fits IntKind.i64 ((↑x_1 : Int) + (1 : Int)) ∧
 ∃ (x' : Nat),
 (x' ≤ (↑x : Int).toNat ∧ ∀ (b : Nat), b < x' → touch es l (↑x : Int).toNat b = false) ∧
 (↑x : Int).toNat - x' < (↑x : Int).toNat - x_1 ∧
 True ∧ (↑x_1 : Int) + (1 : Int) = (↑x' : Int) ∧ (↑x : Int) = (↑x : Int) ∧ es = es ∧ l = l ∧ True))) ∧
 (¬l.getD (↑x : Int).toNat (0 : Int) = l.getD (↑x_1 : Int).toNat (0 : Int) →
 ¬l.getD (↑x : Int).toNat (0 : Int) = l.getD (↑x_1 : Int).toNat (0 : Int) ∧
 ¬l.getD (↑x : Int).toNat (0 : Int) = l.getD (↑x_1 : Int).toNat (0 : Int) ∧
 Fits IntKind.i64 ((↑x_1 : Int) + (1 : Int)) ∧
 ∃ (x' : Nat),
 (x' ≤ (↑x : Int).toNat ∧ ∀ (b : Nat), b < x' → touch es l (↑x : Int).toNat b = false) ∧
 (↑x : Int).toNat - x' < (↑x : Int).toNat - x_1 ∧
 True ∧ (↑x_1 : Int) + (1 : Int) = (↑x' : Int) ∧ (↑x : Int) = (↑x : Int) ∧ es = es ∧ l = l ∧ True)) ∧
 (¬(↑x_1 : Int) < (↑x : Int) →
 ¬(↑x_1 : Int) < (↑x : Int) ∧
 Fits IntKind.i64 ((↑x : Int) + (1 : Int)) ∧
 ∃ (x' : Nat),
 (x' ≤ l.length ∧ ∀ (a : Nat), a < x' → clashF es l a = false) ∧
 l.length - x' < l.length - x ∧ True ∧ (↑x : Int) + (1 : Int) = (↑x' : Int) ∧ es = es ∧ l = l ∧ True)) ∧
 (¬(↑x : Int) < (↑l.length : Int) → ¬(↑x : Int) < (↑l.length : Int) ∧ true = properF es l)) := by
 kernel_rfl

theorem g30_eq (es : List Ed) : g30 es = (
 (∃ (x0 : Nat), (x0 ≤ (6 : Nat) ∧ True) ∧ True ∧ (0 : Int) = (↑x0 : Int) ∧ (0 : Int) = degR es x0 ∧ es = es ∧ True) ∧
 ∀ (x : Nat),
 x ≤ (6 : Nat) ∧ True →
 ((↑x : Int) < (6 : Int) →
 (↑x : Int) < (6 : Int) ∧
 (∃ (x0 : Nat),
 (x0 ≤ es.length ∧ True) ∧
 True ∧
 (0 : Int) = (↑x0 : Int) ∧
 (0 : Int) = cntA (List.take x0 es) (↑x : Int).toNat ∧
 (0 : Int) = cntB (List.take x0 es) (↑x : Int).toNat ∧ (↑x : Int) = (↑x : Int) ∧ degR es x = degR es x ∧ es = es ∧ True) ∧
 ∀ (x_1 : Nat),
 x_1 ≤ es.length ∧ True →
 ((↑x_1 : Int) < (↑es.length : Int) →
 (↑x_1 : Int) < (↑es.length : Int) ∧
 ((0 : Int) ≤ (↑x_1 : Int) ∧ (↑x_1 : Int) < (↑es.length : Int)) ∧
 ((es.getD (↑x_1 : Int).toNat ((0 : Int), (0 : Int))).fst = (↑x : Int) →
 (es.getD (↑x_1 : Int).toNat ((0 : Int), (0 : Int))).fst = (↑x : Int) ∧
 Fits IntKind.i64 (cntA (List.take x_1 es) (↑x : Int).toNat + (1 : Int)) ∧
 ((0 : Int) ≤ (↑x_1 : Int) ∧ (↑x_1 : Int) < (↑es.length : Int)) ∧
 ((es.getD (↑x_1 : Int).toNat ((0 : Int), (0 : Int))).snd = (↑x : Int) →
 (es.getD (↑x_1 : Int).toNat ((0 : Int), (0 : Int))).snd = (↑x : Int) ∧
 Fits IntKind.i64 (cntB (List.take x_1 es) (↑x : Int).toNat + (1 : Int)) ∧
 Fits IntKind.i64 ((↑x_1 : Int) + (1 : Int)) ∧
 ∃ (x' : Nat),
 (x' ≤ es.length ∧ True) ∧
 es.length - x' < es.length - x_1 ∧
 True ∧
 (↑x_1 : Int) + (1 : Int) = (↑x' : Int) ∧
 cntA (List.take x_1 es) (↑x : Int).toNat + (1 : Int) = cntA (List.take x' es) (↑x : Int).toNat ∧
 cntB (List.take x_1 es) (↑x : Int).toNat + (1 : Int) = cntB (List.take x' es) (↑x : Int).toNat ∧
 (↑x : Int) = (↑x : Int) ∧ degR es x = degR es x ∧ es = es ∧ True) ∧
 (¬(es.getD (↑x_1 : Int).toNat ((0 : Int), (0 : Int))).snd = (↑x : Int) →
 ¬(es.getD (↑x_1 : Int).toNat ((0 : Int), (0 : Int))).snd = (↑x : Int) ∧
 Fits IntKind.i64 ((↑x_1 : Int) + (1 : Int)) ∧
 ∃ (x' : Nat),
 (x' ≤ es.length ∧ True) ∧
 es.length - x' < es.length - x_1 ∧
 True ∧
 (↑x_1 : Int) + (1 : Int) = (↑x' : Int) ∧
 cntA (List.take x_1 es) (↑x : Int).toNat + (1 : Int) = cntA (List.take x' es) (↑x : Int).toNat ∧
 cntB (List.take x_1 es) (↑x : Int).toNat = cntB (List.take x' es) (↑x : Int).toNat ∧
 (↑x : Int) = (↑x : Int) ∧ degR es x = degR es x ∧ es = es ∧ True)) ∧
 (¬(es.getD (↑x_1 : Int).toNat ((0 : Int), (0 : Int))).fst = (↑x : Int) →
 ¬(es.getD (↑x_1 : Int).toNat ((0 : Int), (0 : Int))).fst = (↑x : Int) ∧
 ((0 : Int) ≤ (↑x_1 : Int) ∧ (↑x_1 : Int) < (↑es.length : Int)) ∧
 ((es.getD (↑x_1 : Int).toNat ((0 : Int), (0 : Int))).snd = (↑x : Int) →
 (es.getD (↑x_1 : Int).toNat ((0 : Int), (0 : Int))).snd = (↑x : Int) ∧
 Fits IntKind.i64 (cntB (List.take x_1 es) (↑x : Int).toNat + (1 : Int)) ∧
 Fits IntKind.i64 ((↑x_1 : Int) + (1 : Int)) ∧
 ∃ (x' : Nat),
 (x' ≤ es.length ∧ True) ∧
 es.length - x' < es.length - x_1 ∧
 True ∧
 (↑x_1 : Int) + (1 : Int) = (↑x' : Int) ∧
 cntA (List.take x_1 es) (↑x : Int).toNat = cntA (List.take x' es) (↑x : Int).toNat ∧
 cntB (List.take x_1 es) (↑x : Int).toNat + (1 : Int) = cntB (List.take x' es) (↑x : Int).toNat ∧
 (↑x : Int) = (↑x : Int) ∧ degR es x = degR es x ∧ es = es ∧ True) ∧
 (¬(es.getD (↑x_1 : Int).toNat ((0 : Int), (0 : Int))).snd = (↑x : Int) →
 ¬(es.getD (↑x_1 : Int).toNat ((0 : Int), (0 : Int))).snd = (↑x : Int) ∧
 Fits IntKind.i64 ((↑x_1 : Int) + (1 : Int)) ∧
 ∃ (x' : Nat),
 (x' ≤ es.length ∧ True) ∧
 es.length - x' < es.length - x_1 ∧
 True ∧
 (↑x_1 : Int) + (1 : Int) = (↑x' : Int) ∧
 cntA (List.take x_1 es) (↑x : Int).toNat = cntA (List.take x' es) (↑x : Int).toNat ∧
 cntB (List.take x_1 es) (↑x : Int).toNat = cntB (List.take x' es) (↑x : Int).toNat ∧
 (↑x : Int) = (↑x : Int) ∧ degR es x = degR es x ∧ es = es ∧ True))) ∧
 (¬(↑x_1 : Int) < (↑es.length : Int) →
 ¬(↑x_1 : Int) < (↑es.length : Int) ∧
 Fits IntKind.i64 ((↑x : Int) + (1 : Int)) ∧
 ∃ (x' : Nat),
 (x' ≤ (6 : Nat) ∧ True) ∧
 (6 : Nat) - x' < (6 : Nat) - x ∧
 True ∧
 (↑x : Int) + (1 : Int) = (↑x' : Int) ∧
 max (max (degR es x) (cntA (List.take x_1 es) (↑x : Int).toNat)) (cntB (List.take x_1 es) (↑x : Int).toNat) = degR es x' ∧ es = es ∧ True)) ∧
 (¬(↑x : Int) < (6 : Int) → ¬(↑x : Int) < (6 : Int) ∧ degR es x = degR es (6 : Nat))) := by
 kernel_rfl

theorem g27_eq (a : Int) (c : Int) (es : List Ed) : g27 a c es = (
 ((12 : Int) < (↑es.length : Int) → (12 : Int) < (↑es.length : Int) ∧ (3 : Int) = graphF a c es) ∧
 (¬(12 : Int) < (↑es.length : Int) →
 ¬(12 : Int) < (↑es.length : Int) ∧
 True ∧
 ((!decide ((1 : Int) ≤ a ∧ a ≤ (6 : Int))) = true →
 (!decide ((1 : Int) ≤ a ∧ a ≤ (6 : Int))) = true ∧ (!decide ((1 : Int) ≤ a ∧ a ≤ (6 : Int))) = true ∧ (1 : Int) = graphF a c es) ∧
 ((!decide ((1 : Int) ≤ a ∧ a ≤ (6 : Int))) = false →
 (!decide ((1 : Int) ≤ a ∧ a ≤ (6 : Int))) = false ∧
 (!decide ((1 : Int) ≤ a ∧ a ≤ (6 : Int))) = false ∧
 True ∧
 ((!decide ((1 : Int) ≤ c ∧ c ≤ (6 : Int))) = true →
 (!decide ((1 : Int) ≤ c ∧ c ≤ (6 : Int))) = true ∧ (!decide ((1 : Int) ≤ c ∧ c ≤ (6 : Int))) = true ∧ (1 : Int) = graphF a c es) ∧
 ((!decide ((1 : Int) ≤ c ∧ c ≤ (6 : Int))) = false →
 (!decide ((1 : Int) ≤ c ∧ c ≤ (6 : Int))) = false ∧
 (!decide ((1 : Int) ≤ c ∧ c ≤ (6 : Int))) = false ∧
 (∃ (x0 : Nat), (x0 ≤ es.length ∧ (List.take x0 es).any (badEd a c) = false) ∧ True ∧ (0 : Int) = (↑x0 : Int) ∧ a = a ∧ c = c ∧ es = es ∧ True) ∧
 ∀ (x : Nat),
 x ≤ es.length ∧ (List.take x es).any (badEd a c) = false →
 ((↑x : Int) < (↑es.length : Int) →
 (↑x : Int) < (↑es.length : Int) ∧
 ((0 : Int) ≤ (↑x : Int) ∧ (↑x : Int) < (↑es.length : Int)) ∧
 Fits IntKind.i64 (a - (1 : Int)) ∧
 True ∧
 ((!decide
 ((0 : Int) ≤ (es.getD (↑x : Int).toNat ((0 : Int), (0 : Int))).fst ∧
 (es.getD (↑x : Int).toNat ((0 : Int), (0 : Int))).fst ≤ a - (1 : Int))) =
 true →
 (!decide
 ((0 : Int) ≤ (es.getD (↑x : Int).toNat ((0 : Int), (0 : Int))).fst ∧
 (es.getD (↑x : Int).toNat ((0 : Int), (0 : Int))).fst ≤ a - (1 : Int))) =
 true ∧
 (!decide
 ((0 : Int) ≤ (es.getD (↑x : Int).toNat ((0 : Int), (0 : Int))).fst ∧
 (es.getD (↑x : Int).toNat ((0 : Int), (0 : Int))).fst ≤ a - (1 : Int))) =
 true ∧
 (1 : Int) = graphF a c es) ∧
 ((!decide
 ((0 : Int) ≤ (es.getD (↑x : Int).toNat ((0 : Int), (0 : Int))).fst ∧
 (es.getD (↑x : Int).toNat ((0 : Int), (0 : Int))).fst ≤ a - (1 : Int))) =
 false →
 (!decide
 ((0 : Int) ≤ (es.getD (↑x : Int).toNat ((0 : Int), (0 : Int))).fst ∧
 (es.getD (↑x : Int).toNat ((0 : Int), (0 : Int))).fst ≤ a - (1 : Int))) =
 false ∧
 (!decide
 ((0 : Int) ≤ (es.getD (↑x : Int).toNat ((0 : Int), (0 : Int))).fst ∧
 (es.getD (↑x : Int).toNat ((0 : Int), (0 : Int))).fst ≤ a - (1 : Int))) =
 false ∧
 ((0 : Int) ≤ (↑x : Int) ∧ (↑x : Int) < (↑es.length : Int)) ∧
 Fits IntKind.i64 (c - (1 : Int)) ∧
 True ∧
 ((!decide
 ((0 : Int) ≤ (es.getD (↑x : Int).toNat ((0 : Int), (0 : Int))).snd ∧
 (es.getD (↑x : Int).toNat ((0 : Int), (0 : Int))).snd ≤ c - (1 : Int))) =
 true →
 (!decide
 ((0 : Int) ≤ (es.getD (↑x : Int).toNat ((0 : Int), (0 : Int))).snd ∧
 (es.getD (↑x : Int).toNat ((0 : Int), (0 : Int))).snd ≤ c - (1 : Int))) =
 true ∧
 (!decide
 ((0 : Int) ≤ (es.getD (↑x : Int).toNat ((0 : Int), (0 : Int))).snd ∧
 (es.getD (↑x : Int).toNat ((0 : Int), (0 : Int))).snd ≤ c - (1 : Int))) =
 true ∧
 (1 : Int) = graphF a c es) ∧
 ((!decide
 ((0 : Int) ≤ (es.getD (↑x : Int).toNat ((0 : Int), (0 : Int))).snd ∧
 (es.getD (↑x : Int).toNat ((0 : Int), (0 : Int))).snd ≤ c - (1 : Int))) =
 false →
 (!decide
 ((0 : Int) ≤ (es.getD (↑x : Int).toNat ((0 : Int), (0 : Int))).snd ∧
 (es.getD (↑x : Int).toNat ((0 : Int), (0 : Int))).snd ≤ c - (1 : Int))) =
 false ∧
 (!decide
 ((0 : Int) ≤ (es.getD (↑x : Int).toNat ((0 : Int), (0 : Int))).snd ∧
 (es.getD (↑x : Int).toNat ((0 : Int), (0 : Int))).snd ≤ c - (1 : Int))) =
 false ∧
 Fits IntKind.i64 ((↑x : Int) + (1 : Int)) ∧
 ∃ (x' : Nat),
 (x' ≤ es.length ∧ (List.take x' es).any (badEd a c) = false) ∧
 es.length - x' < es.length - x ∧
 True ∧ (↑x : Int) + (1 : Int) = (↑x' : Int) ∧ a = a ∧ c = c ∧ es = es ∧ True))) ∧
 (¬(↑x : Int) < (↑es.length : Int) → ¬(↑x : Int) < (↑es.length : Int) ∧ (0 : Int) = graphF a c es))))) := by
 kernel_rfl

theorem g29_eq (es : List Ed) (m : Int) (l : List Int) : g29 es m l = (
 (es.length ≤ (1000 : Nat) ∧ l.length ≤ es.length) ∧
 ((!properF es l) = true → (!properF es l) = true ∧ refC es m l = none) ∧
 ((!properF es l) = false →
 (!properF es l) = false ∧
 ((↑l.length : Int) = (↑es.length : Int) → (↑l.length : Int) = (↑es.length : Int) ∧ refC es m l = some l) ∧
 (¬(↑l.length : Int) = (↑es.length : Int) →
 ¬(↑l.length : Int) = (↑es.length : Int) ∧
 (∃ (x0 : Nat), ((↑x0 : Int) ≤ m ∧ ∀ (c : Nat), c < x0 → refC es m (l ++ [(↑c : Int)]) = none) ∧ True ∧ (0 : Int) = (↑x0 : Int) ∧ es = es ∧ m = m ∧ l = l ∧ True) ∧
 ∀ (x : Nat),
 ((↑x : Int) ≤ m ∧ ∀ (c : Nat), c < x → refC es m (l ++ [(↑c : Int)]) = none) →
 ((↑x : Int) < m →
 (↑x : Int) < m ∧
 Small ((0 : Nat) + l.length) ∧
 Small (l.length + ((0 : Nat) + (1 : Nat))) ∧
 (((es.length ≤ (1000 : Nat) ∧ (l ++ [(↑x : Int)]).length ≤ es.length) ∧ (0 : Int) ≤ m ∧ m ≤ (1000 : Int)) ∧
 m29 (es, m, l ++ [(↑x : Int)]) < m29 (es, m, l)) ∧
 (refC es m (l ++ [(↑x : Int)]) = none →
 Fits IntKind.i64 ((↑x : Int) + (1 : Int)) ∧
 ∃ (x' : Nat),
 ((↑x' : Int) ≤ m ∧ ∀ (c : Nat), c < x' → refC es m (l ++ [(↑c : Int)]) = none) ∧
 m.toNat - x' < m.toNat - x ∧ True ∧ (↑x : Int) + (1 : Int) = (↑x' : Int) ∧ es = es ∧ m = m ∧ l = l ∧ True) ∧
 ∀ (ys : List Int), refC es m (l ++ [(↑x : Int)]) = some ys → ys ≠ [] ∧ refC es m l = some ys) ∧
 (¬(↑x : Int) < m → ¬(↑x : Int) < m ∧ refC es m l = none)))) := by
 kernel_rfl

end Go.SX.Pa

/- Chapter 06, part 10: the contracts of the reference's colourings. -/
namespace Go.SX.Pa
open Go Go.Proofs

theorem proper_bad {es : List Ed} {l : List Int} {i : Nat} (hi : i < l.length) (h : clashF es l i = true) : properF es l = false := by
  unfold properF
  rw [List.all_eq_false]
  exact ⟨i, List.mem_range.2 hi, by rw [h]; simp⟩
theorem proper_good {es : List Ed} {l : List Int} (h : ∀ a, a < l.length → clashF es l a = false) : properF es l = true := by
  unfold properF
  rw [List.all_eq_true]
  intro i hi
  rw [h i (List.mem_range.1 hi)]; rfl

theorem ok35 : p35.OK Tryd.prog := p35.ok C35 (fun _ => cx0) (fn := Tryd.f35) rfl (by decide +kernel) rfl fun (p : List Ed × List Int) hp => by
  obtain ⟨es, l⟩ := p
  refine (g35_eq es l).mpr ?_
  obtain ⟨q1, q2⟩ := hp
  have q1 : es.length ≤ 1000 := q1
  have q2 : l.length ≤ es.length := q2
  simp only [pp1, eq_self, and_true, true_and, and_self, Int.toNat_natCast]
  refine ⟨⟨0, ⟨by omega, fun a ha => by omega⟩, rfl⟩, fun i ⟨hi, hok⟩ => ⟨fun h1 => ⟨⟨0, ⟨by omega, fun a ha => by omega⟩, rfl⟩, fun j ⟨hj, hno⟩ => ⟨fun h2 => ?_, fun h2 => ?_⟩⟩, fun h1 => ?_⟩⟩
  · have hi' : i < l.length := by omega
    have hj' : j < i := by omega
    have step : touch es l i j = false → Fits IntKind.i64 ((j : Int) + 1) ∧ ∃ x', (x' ≤ i ∧ ∀ (b : Nat), b < x' → touch es l i b = false) ∧ i - x' < i - j ∧ (j : Int) + 1 = (x' : Nat) := fun h =>
      ⟨fits_nat (by omega), j + 1, ⟨by omega, all_below hno h⟩, by omega, by simp⟩
    refine ⟨by omega, by omega, fun e1 => ⟨by omega, by omega, fun e2 => ?_, fun e2 => ⟨by omega, by omega, fun e3 => ?_, fun e3 => step ?_⟩⟩, fun e1 => step ?_⟩
    · exact (proper_bad hi' (touch_clash hj' (decide_eq_true ⟨e1.symm, .inl e2.symm⟩))).symm
    · exact (proper_bad hi' (touch_clash hj' (decide_eq_true ⟨e1.symm, .inr e3.symm⟩))).symm
    · exact decide_eq_false fun h => h.2.elim (fun h => e2 h.symm) (fun h => e3 h.symm)
    · exact decide_eq_false fun h => e1 h.1.symm
  · have : j = i := by omega
    subst this
    exact ⟨fits_nat (by omega), j + 1, ⟨by omega, all_below hok (no_clash hno)⟩, by omega, by simp⟩
  · have : i = l.length := by omega
    subst this
    exact (proper_good hok).symm

theorem cntA_succ (es : List Ed) (v k : Nat) (h : k < es.length) : cntA (es.take (k + 1)) v = cntA (es.take k) v + if (es.getD k (0, 0)).1 = (v : Int) then 1 else 0 := by
  unfold cntA
  rw [take_snoc es (0, 0) k h, List.countP_append]
  simp only [List.countP_cons, List.countP_nil, Nat.zero_add, decide_eq_true_eq]
  split <;> simp
theorem cntB_succ (es : List Ed) (v k : Nat) (h : k < es.length) : cntB (es.take (k + 1)) v = cntB (es.take k) v + if (es.getD k (0, 0)).2 = (v : Int) then 1 else 0 := by
  unfold cntB
  rw [take_snoc es (0, 0) k h, List.countP_append]
  simp only [List.countP_cons, List.countP_nil, Nat.zero_add, decide_eq_true_eq]
  split <;> simp
theorem cntA_le (es : List Ed) (v : Nat) : 0 ≤ cntA es v ∧ cntA es v ≤ es.length := by
  have : es.countP (fun e => decide (e.1 = (v : Int))) ≤ es.length := List.countP_le_length
  unfold cntA; omega
theorem cntB_le (es : List Ed) (v : Nat) : 0 ≤ cntB es v ∧ cntB es v ≤ es.length := by
  have : es.countP (fun e => decide (e.2 = (v : Int))) ≤ es.length := List.countP_le_length
  unfold cntB; omega

theorem ok30 : p30.OK Tryd.prog := p30.ok C30 (fun _ => cx0) (fn := Tryd.f30) rfl (by decide +kernel) rfl fun (es : List Ed) hp => by
  refine (g30_eq es).mpr ?_
  have hp : es.length ≤ 1000 := hp
  simp only [pp1, eq_self, and_true, true_and, and_self, Int.toNat_natCast]
  refine ⟨⟨0, by omega, rfl, rfl⟩, fun v hv => ⟨fun h1 => ⟨⟨0, by omega, rfl, rfl, rfl⟩, fun k hk => ⟨fun h2 => ?_, fun h2 => ?_⟩⟩, fun h1 => ?_⟩⟩
  · have hk' : k < es.length := by omega
    have a1 := cntA_succ es v k hk'
    have b1 := cntB_succ es v k hk'
    have a2 := cntA_le (es.take k) v
    have b2 := cntB_le (es.take k) v
    have hl : (es.take k).length = k := by rw [List.length_take]; omega
    rw [hl] at a2 b2
    refine ⟨by omega, fun e1 => ?_, fun e1 => ?_⟩
    · rw [if_pos e1] at a1
      refine ⟨fits_i64 (by omega) (by omega), by omega, fun e2 => ?_, fun e2 => ?_⟩
      · rw [if_pos e2] at b1
        exact ⟨fits_i64 (by omega) (by omega), fits_nat (by omega), k + 1, by omega, by omega, by simp, a1.symm, b1.symm⟩
      · rw [if_neg e2] at b1
        exact ⟨fits_nat (by omega), k + 1, by omega, by omega, by simp, a1.symm, by omega⟩
    · rw [if_neg e1] at a1
      refine ⟨by omega, fun e2 => ?_, fun e2 => ?_⟩
      · rw [if_pos e2] at b1
        exact ⟨fits_i64 (by omega) (by omega), fits_nat (by omega), k + 1, by omega, by omega, by simp, by omega, b1.symm⟩
      · rw [if_neg e2] at b1
        exact ⟨fits_nat (by omega), k + 1, by omega, by omega, by simp, by omega, by omega⟩
  · have : es.take k = es := List.take_of_length_le (by omega)
    rw [this]
    exact ⟨fits_nat (by omega), v + 1, by omega, by omega, by simp, rfl⟩
  · have : v = 6 := by omega
    rw [this]

theorem ok27 : p27.OK Tryd.prog := p27.ok C27 (fun _ => cx1 (PC.OK.ci ok21)) (fn := Tryd.f27) rfl (by decide +kernel) rfl fun (p : Int × Int × List Ed) hp => by
  obtain ⟨a, c, es⟩ := p
  refine (g27_eq a c es).mpr ?_
  have hp : es.length ≤ 1000 := hp
  simp only [pp1, eq_self, and_true, true_and, and_self, Int.toNat_natCast]
  unfold graphF
  refine ⟨fun h => by rw [if_pos (by omega)], fun h => ⟨fun h1 => ?_, fun h1 => ⟨fun h2 => ?_, fun h2 => ⟨⟨0, ⟨by omega, by simp⟩, rfl⟩, fun k ⟨hk, hok⟩ => ⟨fun h3 => ?_, fun h3 => ?_⟩⟩⟩⟩⟩
  · rw [Bool.not_eq_true'] at h1
    rw [if_neg (by omega), if_pos (.inl (of_decide_eq_false h1))]
  · rw [Bool.not_eq_true'] at h2
    rw [if_neg (by omega), if_pos (.inr (.inl (of_decide_eq_false h2)))]
  · rw [Bool.not_eq_false'] at h1 h2
    have h1 := of_decide_eq_true h1
    have h2 := of_decide_eq_true h2
    have hk' : k < es.length := by omega
    have bad : badEd a c (es.getD k (0, 0)) = true → 1 = (if 12 < es.length then (3 : Int) else if ¬ (1 ≤ a ∧ a ≤ 6) ∨ ¬ (1 ≤ c ∧ c ≤ 6) ∨ es.any (badEd a c) = true then 1 else 0) := fun hb => by
      rw [if_neg (by omega), if_pos (.inr (.inr (any_of_get (0, 0) hk' hb)))]
    refine ⟨by omega, fits_i64 (by omega) (by omega), fun h4 => bad ?_, fun h4 => ⟨by omega, fits_i64 (by omega) (by omega), fun h5 => bad ?_, fun h5 => ⟨fits_nat (by omega), k + 1, ⟨by omega, ?_⟩, by omega, by simp⟩⟩⟩
    · rw [Bool.not_eq_true'] at h4
      have h4 := of_decide_eq_false h4
      exact decide_eq_true (by omega)
    · rw [Bool.not_eq_true'] at h5
      have h5 := of_decide_eq_false h5
      exact decide_eq_true (by omega)
    · rw [Bool.not_eq_false'] at h4 h5
      have h4 := of_decide_eq_true h4
      have h5 := of_decide_eq_true h5
      rw [take_any _ _ (0, 0) k hk', hok, Bool.false_or]
      exact decide_eq_false (by omega)
  · rw [Bool.not_eq_false'] at h1 h2
    have h1 := of_decide_eq_true h1
    have h2 := of_decide_eq_true h2
    have : k = es.length := by omega
    subst this
    rw [List.take_length] at hok
    rw [if_neg (by omega), if_neg (by rw [hok]; simp; omega)]

theorem refC_bad {es : List Ed} {m : Int} {l : List Int} (h : properF es l = false) : refC es m l = none := by
  unfold refC
  cases es.length - l.length with
  | zero => unfold refG; rw [h]; rfl
  | succ n => unfold refG; rw [h]; rfl
theorem refC_done {es : List Ed} {m : Int} {l : List Int} (h : properF es l = true) (hl : l.length = es.length) : refC es m l = some l := by
  unfold refC
  rw [hl, Nat.sub_self]
  unfold refG
  rw [if_pos h]
theorem refC_step {es : List Ed} {m : Int} {l : List Int} (h : properF es l = true) (hl : l.length < es.length) : refC es m l = (List.range m.toNat).findSome? fun c : Nat => refC es m (l ++ [(c : Int)]) := by
  conv => lhs; unfold refC
  obtain ⟨f, hf⟩ : ∃ f, es.length - l.length = f + 1 := ⟨es.length - l.length - 1, by omega⟩
  rw [hf]
  unfold refG
  rw [if_pos h]
  congr 1
  funext c
  unfold refC
  rw [List.length_append, List.length_singleton, show es.length - (l.length + 1) = f by omega]
theorem refG_length (es : List Ed) (m : Nat) : (f : Nat) → (l ys : List Int) → refG es m f l = some ys → ys.length = l.length + f
  | 0, l, ys, h => by
    unfold refG at h
    split at h
    · cases h; rfl
    · cases h
  | f + 1, l, ys, h => by
    unfold refG at h
    split at h
    · obtain ⟨c, _, hc⟩ := List.exists_of_findSome?_eq_some h
      have := refG_length es m f _ _ hc
      simp at this
      omega
    · cases h

theorem ok29 : NilOK Tryd.prog n29 := n29.rec_ok (fn := Tryd.f29) m29 C29 (fun _ h => cx2 (PC.OK.ci ok35) h.ci) rfl (by decide +kernel) rfl fun (p : List Ed × Int × List Int) hp => by
  obtain ⟨es, m, l⟩ := p
  refine (g29_eq es m l).mpr ?_
  obtain ⟨⟨q1, q2⟩, q3, q4⟩ := hp
  have q1 : es.length ≤ 1000 := q1
  have q2 : l.length ≤ es.length := q2
  have q3 : (0 : Int) ≤ m := q3
  have q4 : m ≤ (1000 : Int) := q4
  simp only [pp1, eq_self, and_true, true_and, and_self]
  refine ⟨⟨q1, q2⟩, fun h => refC_bad (by simpa using h), fun h => ?_⟩
  have h : properF es l = true := by simpa using h
  refine ⟨fun h1 => refC_done h (by omega), fun h1 => ⟨⟨0, ⟨by omega, fun c hc => by omega⟩, rfl⟩, fun k ⟨hk, hno⟩ => ⟨fun h2 => ?_, fun h2 => ?_⟩⟩⟩
  · have hl1 : (l ++ [(k : Int)]).length = l.length + 1 := by simp
    refine ⟨by unfold Small; omega, by unfold Small; omega, ⟨⟨⟨q1, by omega⟩, by omega, by omega⟩, ?_⟩, fun h3 => ⟨fits_nat (by omega), k + 1, ⟨by omega, fun c hc => ?_⟩, by omega, by simp⟩, fun ys h3 => ⟨fun e => ?_, ?_⟩⟩
    · show es.length - (l ++ [(k : Int)]).length < es.length - l.length
      omega
    · rcases Nat.lt_succ_iff_lt_or_eq.1 hc with h4 | h4
      · exact hno c h4
      · subst h4; exact h3
    · have := refG_length _ _ _ _ _ h3
      rw [e] at this
      simp at this
      omega
    · rw [refC_step h (by omega)]
      exact findSome_at (x := k) (by omega) (fun c hc => hno c hc) h3
  · rw [refC_step h (by omega)]
    exact findSome_no fun c hc => hno c (by omega)
end Go.SX.Pa

/- Chapter 06, part 11: the law PatchColors; the plain law behind it. -/
namespace Go.SX.Pa
open Go Go.Proofs

/-! ### The two searches are one -/
theorem touch_append (es : List Ed) (l : List Int) (c : Int) {i j : Nat} (hi : i < l.length) (hj : j < l.length) : touch es (l ++ [c]) i j = touch es l i j := by
  unfold touch
  apply decide_eq_decide.2
  simp only [List.getD, List.getElem?_append_left hi, List.getElem?_append_left hj]
theorem clash_append (es : List Ed) (l : List Int) (c : Int) {i : Nat} (hi : i < l.length) : clashF es (l ++ [c]) i = clashF es l i := by
  unfold clashF
  apply Bool.eq_iff_iff.2
  rw [List.any_eq_true, List.any_eq_true]
  constructor
  · rintro ⟨j, hj, h⟩
    rw [touch_append es l c hi (by have := List.mem_range.1 hj; omega)] at h
    exact ⟨j, hj, h⟩
  · rintro ⟨j, hj, h⟩
    refine ⟨j, hj, ?_⟩
    rw [touch_append es l c hi (by have := List.mem_range.1 hj; omega)]
    exact h
theorem proper_append (es : List Ed) (l : List Int) (c : Int) (h : properF es l = true) : properF es (l ++ [c]) = !clashF es (l ++ [c]) l.length := by
  unfold properF at h ⊢
  rw [List.length_append, List.length_singleton, List.range_succ, List.all_append]
  have : (List.range l.length).all (fun i => !clashF es (l ++ [c]) i) = true := by
    rw [List.all_eq_true] at h ⊢
    intro i hi
    rw [clash_append es l c (List.mem_range.1 hi)]
    exact h i hi
  rw [this]
  simp
theorem ref_ext (es : List Ed) (m : Nat) : (f : Nat) → (l : List Int) → properF es l = true → refG es m f l = extF es m f l
  | 0, l, h => by unfold refG extF; rw [if_pos h]
  | f + 1, l, h => by
    unfold refG extF
    rw [if_pos h]
    congr 1
    funext c
    have hp := proper_append es l (c : Int) h
    cases hc : clashF es (l ++ [(c : Int)]) l.length with
    | true =>
      rw [hc] at hp
      rw [if_pos rfl]
      cases f with
      | zero => unfold refG; rw [hp]; rfl
      | succ n => unfold refG; rw [hp]; rfl
    | false =>
      rw [hc] at hp
      rw [if_neg (by decide)]
      exact ref_ext es m f _ hp
theorem refC_nil (es : List Ed) (m : Int) : refC es m [] = extR es m [] := ref_ext es m.toNat _ [] rfl

/-! ### The greatest degree -/
theorem degR_le (es : List Ed) (x : Int) : (n : Nat) → (degR es n ≤ x ↔ 0 ≤ x ∧ ∀ v, v < n → cntA es v ≤ x ∧ cntB es v ≤ x)
  | 0 => by simp [degR]
  | n + 1 => by
    have ih := degR_le es x n
    unfold degR
    constructor
    · intro h
      have h1 : degR es n ≤ x := by omega
      obtain ⟨h2, h3⟩ := ih.1 h1
      refine ⟨h2, fun v hv => ?_⟩
      rcases Nat.lt_succ_iff_lt_or_eq.1 hv with h4 | h4
      · exact h3 v h4
      · subst h4; omega
    · rintro ⟨h1, h2⟩
      have h3 := ih.2 ⟨h1, fun v hv => h2 v (by omega)⟩
      have h4 := h2 n (by omega)
      omega
theorem degTo_degR (es : List Ed) (hb : ∀ e ∈ es, (0 ≤ e.1 ∧ e.1 < 6) ∧ 0 ≤ e.2 ∧ e.2 < 6) : (k : Nat) → k ≤ es.length → (degTo es k).2.2 = degR (es.take k) 6
  | 0, _ => by simp [degTo, degR, cntA, cntB]
  | k + 1, h => by
    have ih := degTo_degR es hb k (by omega)
    have hk : k < es.length := by omega
    have he := hb _ (getD_mem es (0, 0) hk)
    have la := (degTo_look es (es.getD k (0, 0)).1 (k + 1) h).1
    have lb := (degTo_look es (es.getD k (0, 0)).2 (k + 1) h).2
    rw [degTo_succ es k hk] at la lb ⊢
    have cA := fun v => cntA_succ es v k hk
    have cB := fun v => cntB_succ es v k hk
    obtain ⟨A, hA⟩ : ∃ A : Nat, (es.getD k (0, 0)).1 = (A : Int) := ⟨(es.getD k (0, 0)).1.toNat, by omega⟩
    obtain ⟨B, hB⟩ : ∃ B : Nat, (es.getD k (0, 0)).2 = (B : Int) := ⟨(es.getD k (0, 0)).2.toNat, by omega⟩
    have eA : (((es.take (k + 1)).countP fun e => decide (e.1 = (es.getD k (0, 0)).1) : Nat) : Int) = cntA (es.take (k + 1)) A := by unfold cntA; rw [hA]
    have eB : (((es.take (k + 1)).countP fun e => decide (e.2 = (es.getD k (0, 0)).2) : Nat) : Int) = cntB (es.take (k + 1)) B := by unfold cntB; rw [hB]
    rw [eA] at la
    rw [eB] at lb
    have hAB : A < 6 ∧ B < 6 := by omega
    have hst : (degStep (degTo es k) (es.getD k (0, 0))).2.2 = max (max (degTo es k).2.2 (cntA (es.take (k + 1)) A)) (cntB (es.take (k + 1)) B) := by
      rw [← la, ← lb]; rfl
    rw [hst, ih]
    have D1 := (degR_le (es.take (k + 1)) (degR (es.take (k + 1)) 6) 6).1 (Int.le_refl _)
    have D0 := (degR_le (es.take k) (degR (es.take k) 6) 6).1 (Int.le_refl _)
    apply Int.le_antisymm
    · have m0 : degR (es.take k) 6 ≤ degR (es.take (k + 1)) 6 := (degR_le _ _ 6).2 ⟨D1.1, fun v hv => by
        have h1 := D1.2 v hv
        rw [cA v, cB v] at h1
        split at h1 <;> split at h1 <;> omega⟩
      have h1 := (D1.2 A hAB.1).1
      have h2 := (D1.2 B hAB.2).2
      omega
    · refine (degR_le _ _ 6).2 ⟨by omega, fun v hv => ?_⟩
      have h0 := D0.2 v hv
      have h1 := cA v
      have h2 := cB v
      constructor
      · by_cases e : v = A
        · subst e; omega
        · rw [if_neg (by omega)] at h1; omega
      · by_cases e : v = B
        · subst e; omega
        · rw [if_neg (by omega)] at h2; omega
theorem degF_degR (es : List Ed) (hb : ∀ e ∈ es, (0 ≤ e.1 ∧ e.1 < 6) ∧ 0 ≤ e.2 ∧ e.2 < 6) : degF es = degR es 6 := by
  have := degTo_degR es hb es.length (Nat.le_refl _)
  rw [List.take_length] at this
  exact this
theorem colF_refC (es : List Ed) (hb : ∀ e ∈ es, (0 ≤ e.1 ∧ e.1 < 6) ∧ 0 ≤ e.2 ∧ e.2 < 6) : colF es (degF es) = refC es (degR es 6) [] := by
  unfold colF
  rw [if_pos (Int.le_refl _), refC_nil, degF_degR es hb]

noncomputable section
@[reducible] def p4 : PC := ⟨4, [aI, aI, aEds], [aB], fun _ => True, fun _ => true⟩
def g4 (a c : Int) (es : List Ed) : Prop := p4.VC (cx [p26.ci, p27.ci, p25.ci, p30.ci, n29.ci, p28.ci] []) Tryd.f4 (a, c, es)
end
end Go.SX.Pa

/- Printed by VC.lean: what the executor asks. -/
namespace Go.SX.Pa
open Go Go.Proofs
theorem g4_eq (a : Int) (c : Int) (es : List Ed) : g4 a c es = (
 ((0 : Int) ≤ (↑(0 : Nat) : Int) ∧ (↑(0 : Nat) : Int) ≤ min (↑es.length : Int) (13 : Int) ∧ min (↑es.length : Int) (13 : Int) ≤ (↑es.length : Int)) ∧
 True ∧
 Small ((0 : Nat) + (List.drop (↑(0 : Nat) : Int).toNat (List.take (min (↑es.length : Int) (13 : Int)).toNat es)).length) ∧
 (List.drop (↑(0 : Nat) : Int).toNat (List.take (min (↑es.length : Int) (13 : Int)).toNat es)).length ≤ (1000 : Nat) ∧
 (List.drop (↑(0 : Nat) : Int).toNat (List.take (min (↑es.length : Int) (13 : Int)).toNat es)).length ≤ (1000 : Nat) ∧
 (¬graphF a c (List.drop (↑(0 : Nat) : Int).toNat (List.take (min (↑es.length : Int) (13 : Int)).toNat es)) = (0 : Int) →
 ¬graphF a c (List.drop (↑(0 : Nat) : Int).toNat (List.take (min (↑es.length : Int) (13 : Int)).toNat es)) = (0 : Int) ∧
 ((↑(colorsF a c (List.drop (↑(0 : Nat) : Int).toNat (List.take (min (↑es.length : Int) (13 : Int)).toNat es))).fst.length : Int) = (0 : Int) →
 (↑(colorsF a c (List.drop (↑(0 : Nat) : Int).toNat (List.take (min (↑es.length : Int) (13 : Int)).toNat es))).fst.length : Int) = (0 : Int) ∧
 (↑(colorsF a c (List.drop (↑(0 : Nat) : Int).toNat (List.take (min (↑es.length : Int) (13 : Int)).toNat es))).fst.length : Int) = (0 : Int) ∧
 ((colorsF a c (List.drop (↑(0 : Nat) : Int).toNat (List.take (min (↑es.length : Int) (13 : Int)).toNat es))).snd =
 graphF a c (List.drop (↑(0 : Nat) : Int).toNat (List.take (min (↑es.length : Int) (13 : Int)).toNat es)) →
 (colorsF a c (List.drop (↑(0 : Nat) : Int).toNat (List.take (min (↑es.length : Int) (13 : Int)).toNat es))).snd =
 graphF a c (List.drop (↑(0 : Nat) : Int).toNat (List.take (min (↑es.length : Int) (13 : Int)).toNat es)) ∧
 (colorsF a c (List.drop (↑(0 : Nat) : Int).toNat (List.take (min (↑es.length : Int) (13 : Int)).toNat es))).snd =
 graphF a c (List.drop (↑(0 : Nat) : Int).toNat (List.take (min (↑es.length : Int) (13 : Int)).toNat es)) ∧
 (colorsF a c (List.drop (↑(0 : Nat) : Int).toNat (List.take (min (↑es.length : Int) (13 : Int)).toNat es))).snd =
 graphF a c (List.drop (↑(0 : Nat) : Int).toNat (List.take (min (↑es.length : Int) (13 : Int)).toNat es)) ∧
 True ∧ true = true) ∧
 (¬(colorsF a c (List.drop (↑(0 : Nat) : Int).toNat (List.take (min (↑es.length : Int) (13 : Int)).toNat es))).snd =
 graphF a c (List.drop (↑(0 : Nat) : Int).toNat (List.take (min (↑es.length : Int) (13 : Int)).toNat es)) →
 ¬(colorsF a c (List.drop (↑(0 : Nat) : Int).toNat (List.take (min (↑es.length : Int) (13 : Int)).toNat es))).snd =
 graphF a c (List.drop (↑(0 : Nat) : Int).toNat (List.take (min (↑es.length : Int) (13 : Int)).toNat es)) ∧
 ¬(colorsF a c (List.drop (↑(0 : Nat) : Int).toNat (List.take (min (↑es.length : Int) (13 : Int)).toNat es))).snd =
 graphF a c (List.drop (↑(0 : Nat) : Int).toNat (List.take (min (↑es.length : Int) (13 : Int)).toNat es)) ∧
 ¬(colorsF a c (List.drop (↑(0 : Nat) : Int).toNat (List.take (min (↑es.length : Int) (13 : Int)).toNat es))).snd =
 graphF a c (List.drop (↑(0 : Nat) : Int).toNat (List.take (min (↑es.length : Int) (13 : Int)).toNat es)) ∧
 false = true)) ∧
 (¬(↑(colorsF a c (List.drop (↑(0 : Nat) : Int).toNat (List.take (min (↑es.length : Int) (13 : Int)).toNat es))).fst.length : Int) = (0 : Int) →
 ¬(↑(colorsF a c (List.drop (↑(0 : Nat) : Int).toNat (List.take (min (↑es.length : Int) (13 : Int)).toNat es))).fst.length : Int) = (0 : Int) ∧
 ¬(↑(colorsF a c (List.drop (↑(0 : Nat) : Int).toNat (List.take (min (↑es.length : Int) (13 : Int)).toNat es))).fst.length : Int) = (0 : Int) ∧
 false = true)) ∧
 (¬¬graphF a c (List.drop (↑(0 : Nat) : Int).toNat (List.take (min (↑es.length : Int) (13 : Int)).toNat es)) = (0 : Int) →
 ¬¬graphF a c (List.drop (↑(0 : Nat) : Int).toNat (List.take (min (↑es.length : Int) (13 : Int)).toNat es)) = (0 : Int) ∧
 (List.drop (↑(0 : Nat) : Int).toNat (List.take (min (↑es.length : Int) (13 : Int)).toNat es)).length ≤ (1000 : Nat) ∧
 (((List.drop (↑(0 : Nat) : Int).toNat (List.take (min (↑es.length : Int) (13 : Int)).toNat es)).length ≤ (1000 : Nat) ∧
 (0 : Nat) ≤ (List.drop (↑(0 : Nat) : Int).toNat (List.take (min (↑es.length : Int) (13 : Int)).toNat es)).length) ∧
 (0 : Int) ≤ degR (List.drop (↑(0 : Nat) : Int).toNat (List.take (min (↑es.length : Int) (13 : Int)).toNat es)) (6 : Nat) ∧
 degR (List.drop (↑(0 : Nat) : Int).toNat (List.take (min (↑es.length : Int) (13 : Int)).toNat es)) (6 : Nat) ≤ (1000 : Int)) ∧
 (refC (List.drop (↑(0 : Nat) : Int).toNat (List.take (min (↑es.length : Int) (13 : Int)).toNat es))
 (degR (List.drop (↑(0 : Nat) : Int).toNat (List.take (min (↑es.length : Int) (13 : Int)).toNat es)) (6 : Nat)) [] =
 none →
 ((colorsF a c (List.drop (↑(0 : Nat) : Int).toNat (List.take (min (↑es.length : Int) (13 : Int)).toNat es))).fst.length ≤ (1000 : Nat) ∧
 (0 : Nat) ≤ (1000 : Nat)) ∧
 (decide ((colorsF a c (List.drop (↑(0 : Nat) : Int).toNat (List.take (min (↑es.length : Int) (13 : Int)).toNat es))).fst = []) = true →
 decide ((colorsF a c (List.drop (↑(0 : Nat) : Int).toNat (List.take (min (↑es.length : Int) (13 : Int)).toNat es))).fst = []) = true ∧
 decide ((colorsF a c (List.drop (↑(0 : Nat) : Int).toNat (List.take (min (↑es.length : Int) (13 : Int)).toNat es))).fst = []) = true ∧
 ((colorsF a c (List.drop (↑(0 : Nat) : Int).toNat (List.take (min (↑es.length : Int) (13 : Int)).toNat es))).snd = (0 : Int) →
 (colorsF a c (List.drop (↑(0 : Nat) : Int).toNat (List.take (min (↑es.length : Int) (13 : Int)).toNat es))).snd = (0 : Int) ∧
 (colorsF a c (List.drop (↑(0 : Nat) : Int).toNat (List.take (min (↑es.length : Int) (13 : Int)).toNat es))).snd = (0 : Int) ∧
 (colorsF a c (List.drop (↑(0 : Nat) : Int).toNat (List.take (min (↑es.length : Int) (13 : Int)).toNat es))).snd = (0 : Int) ∧
 True ∧ true = true) ∧
 (¬(colorsF a c (List.drop (↑(0 : Nat) : Int).toNat (List.take (min (↑es.length : Int) (13 : Int)).toNat es))).snd = (0 : Int) →
 ¬(colorsF a c (List.drop (↑(0 : Nat) : Int).toNat (List.take (min (↑es.length : Int) (13 : Int)).toNat es))).snd = (0 : Int) ∧
 ¬(colorsF a c (List.drop (↑(0 : Nat) : Int).toNat (List.take (min (↑es.length : Int) (13 : Int)).toNat es))).snd = (0 : Int) ∧
 ¬(colorsF a c (List.drop (↑(0 : Nat) : Int).toNat (List.take (min (↑es.length : Int) (13 : Int)).toNat es))).snd = (0 : Int) ∧
 false = true)) ∧
 (decide ((colorsF a c (List.drop (↑(0 : Nat) : Int).toNat (List.take (min (↑es.length : Int) (13 : Int)).toNat es))).fst = []) = false →
 decide ((colorsF a c (List.drop (↑(0 : Nat) : Int).toNat (List.take (min (↑es.length : Int) (13 : Int)).toNat es))).fst = []) = false ∧
 decide ((colorsF a c (List.drop (↑(0 : Nat) : Int).toNat (List.take (min (↑es.length : Int) (13 : Int)).toNat es))).fst = []) = false ∧
 false = true)) ∧
 ∀ (ys : List Int),
 refC (List.drop (↑(0 : Nat) : Int).toNat (List.take (min (↑es.length : Int) (13 : Int)).toNat es))
 (degR (List.drop (↑(0 : Nat) : Int).toNat (List.take (min (↑es.length : Int) (13 : Int)).toNat es)) (6 : Nat)) [] =
 some ys →
 ((colorsF a c (List.drop (↑(0 : Nat) : Int).toNat (List.take (min (↑es.length : Int) (13 : Int)).toNat es))).fst.length ≤ (1000 : Nat) ∧
 ys.length ≤ (1000 : Nat)) ∧
 (decide ((colorsF a c (List.drop (↑(0 : Nat) : Int).toNat (List.take (min (↑es.length : Int) (13 : Int)).toNat es))).fst = ys) = true →
 decide ((colorsF a c (List.drop (↑(0 : Nat) : Int).toNat (List.take (min (↑es.length : Int) (13 : Int)).toNat es))).fst = ys) = true ∧
 decide ((colorsF a c (List.drop (↑(0 : Nat) : Int).toNat (List.take (min (↑es.length : Int) (13 : Int)).toNat es))).fst = ys) = true ∧
 ((colorsF a c (List.drop (↑(0 : Nat) : Int).toNat (List.take (min (↑es.length : Int) (13 : Int)).toNat es))).snd = (0 : Int) →
 (colorsF a c (List.drop (↑(0 : Nat) : Int).toNat (List.take (min (↑es.length : Int) (13 : Int)).toNat es))).snd = (0 : Int) ∧
 (colorsF a c (List.drop (↑(0 : Nat) : Int).toNat (List.take (min (↑es.length : Int) (13 : Int)).toNat es))).snd = (0 : Int) ∧
 (colorsF a c (List.drop (↑(0 : Nat) : Int).toNat (List.take (min (↑es.length : Int) (13 : Int)).toNat es))).snd = (0 : Int) ∧
 True ∧ true = true) ∧
 (¬(colorsF a c (List.drop (↑(0 : Nat) : Int).toNat (List.take (min (↑es.length : Int) (13 : Int)).toNat es))).snd = (0 : Int) →
 ¬(colorsF a c (List.drop (↑(0 : Nat) : Int).toNat (List.take (min (↑es.length : Int) (13 : Int)).toNat es))).snd = (0 : Int) ∧
 ¬(colorsF a c (List.drop (↑(0 : Nat) : Int).toNat (List.take (min (↑es.length : Int) (13 : Int)).toNat es))).snd = (0 : Int) ∧
 ¬(colorsF a c (List.drop (↑(0 : Nat) : Int).toNat (List.take (min (↑es.length : Int) (13 : Int)).toNat es))).snd = (0 : Int) ∧
 false = true)) ∧
 (decide ((colorsF a c (List.drop (↑(0 : Nat) : Int).toNat (List.take (min (↑es.length : Int) (13 : Int)).toNat es))).fst = ys) = false →
 decide ((colorsF a c (List.drop (↑(0 : Nat) : Int).toNat (List.take (min (↑es.length : Int) (13 : Int)).toNat es))).fst = ys) = false ∧
 decide ((colorsF a c (List.drop (↑(0 : Nat) : Int).toNat (List.take (min (↑es.length : Int) (13 : Int)).toNat es))).fst = ys) = false ∧
 false = true))) := by
 kernel_rfl

end Go.SX.Pa

/- Chapter 06, part 11: the law PatchColors: its contract. -/
namespace Go.SX.Pa
open Go Go.Proofs

theorem colors_graph (a c : Int) (es : List Ed) :
    (graphF a c es ≠ 0 → colorsF a c es = ([], graphF a c es)) ∧ (graphF a c es = 0 → colorsF a c es = ((refC es (degR es 6) []).getD [], 0) ∧ es.length ≤ 12) := by
  unfold graphF colorsF
  by_cases h : 12 < es.length
  · rw [if_pos h, if_pos h]
    exact ⟨fun _ => rfl, fun h => absurd h (by decide)⟩
  · rw [if_neg h, if_neg h]
    by_cases h2 : min a c < 1 ∨ 6 < max a c ∨ es.any (badEd a c) = true
    · rw [if_pos h2, if_pos (by
        rcases h2 with h2 | h2 | h2
        · by_cases h3 : 1 ≤ a ∧ a ≤ 6
          · exact .inr (.inl (by omega))
          · exact .inl h3
        · by_cases h3 : 1 ≤ a ∧ a ≤ 6
          · exact .inr (.inl (by omega))
          · exact .inl h3
        · exact .inr (.inr h2))]
      exact ⟨fun _ => rfl, fun h => absurd h (by decide)⟩
    · have h2' : ¬ min a c < 1 ∧ ¬ 6 < max a c ∧ es.any (badEd a c) = false := ⟨fun h => h2 (.inl h), fun h => h2 (.inr (.inl h)), by cases hb : es.any (badEd a c) with | true => exact absurd (.inr (.inr hb)) h2 | false => rfl⟩
      obtain ⟨k1, k2, k3⟩ := h2'
      rw [if_neg h2, if_neg (by rw [k3]; simp; omega)]
      refine ⟨fun h => absurd rfl h, fun _ => ⟨?_, by omega⟩⟩
      rw [colF_refC es fun e he => ?_]
      have := List.any_eq_false.1 k3 e he
      unfold badEd at this
      rw [decide_eq_true_eq] at this
      omega

theorem ok4 : p4.OK Tryd.prog := p4.ok (fun _ => cx [p26.ci, p27.ci, p25.ci, p30.ci, n29.ci, p28.ci] []) (fun _ => cx_ok (cs := [p26.ci, p27.ci, p25.ci, p30.ci, n29.ci, p28.ci]) ⟨PC.OK.ci ok26, PC.OK.ci ok27, PC.OK.ci ok25, PC.OK.ci ok30, ok29.ci, PC.OK.ci ok28, trivial⟩ _) (fn := Tryd.f4) rfl (by decide +kernel) rfl fun (p : Int × Int × List Ed) _ => by
  obtain ⟨a, c, es⟩ := p
  refine (g4_eq a c es).mpr ?_
  simp only [pp1, eq_self, and_true, true_and, and_self, Int.toNat_natCast, List.drop_zero]
  have hq : (es.take (min (es.length : Int) 13).toNat).length ≤ 13 := by rw [List.length_take]; omega
  have hm : (0 : Int) ≤ (0 : Nat) ∧ (0 : Int) ≤ min (es.length : Int) 13 ∧ min (es.length : Int) 13 ≤ es.length := by omega
  generalize es.take (min (es.length : Int) 13).toNat = q at hq ⊢
  obtain ⟨h1, h2⟩ := colors_graph a c q
  have hd : 0 ≤ degR q 6 ∧ degR q 6 ≤ 1000 := ⟨((degR_le q _ 6).1 (Int.le_refl _)).1, (degR_le q 1000 6).2 ⟨by omega, fun v _ => by have := cntA_le q v; have := cntB_le q v; omega⟩⟩
  refine ⟨by omega, by unfold Small; omega, by omega, by omega, fun hg => ?_, fun hg => ?_⟩
  · have hg : graphF a c q ≠ 0 := hg
    rw [h1 hg]
    exact ⟨fun _ => ⟨fun _ => rfl, fun h => absurd rfl h⟩, fun h => absurd rfl h⟩
  · have hg : graphF a c q = 0 := Classical.not_not.1 hg
    obtain ⟨e1, e2⟩ := h2 hg
    rw [e1]
    refine ⟨by omega, ⟨⟨by omega, by omega⟩, by omega, by omega⟩, fun h3 => ?_, fun ys h3 => ?_⟩
    · rw [h3]
      exact ⟨⟨by simp, by omega⟩, fun _ => ⟨fun _ => rfl, fun h => absurd rfl h⟩, fun h => by simp at h⟩
    · rw [h3]
      have hl := refG_length _ _ _ _ _ h3
      simp at hl
      refine ⟨⟨?_, by omega⟩, fun _ => ⟨fun _ => rfl, fun h => absurd rfl h⟩, fun h => by simp at h⟩
      show ys.length ≤ 1000
      omega
end Go.SX.Pa

/- Chapter 06, part 12: permutations by number. -/
namespace Go.SX.Pa
open Go Go.Proofs
noncomputable section
@[reducible] def p31 : PC := ⟨31, [aI, aBs], [aIs], fun p => (0 ≤ p.1 ∧ p.1 ≤ 100) ∧ p.2.length ≤ maxLen ∧ ∀ b ∈ p.2, 0 ≤ b ∧ b ≤ 255, fun p => nthTo p.2 p.1.toNat⟩
@[reducible] def A31 (n : Int) (code : List Int) : Ann where
  τ := Nat
  pre := []
  preC := []
  keep := [0, 1]
  slots k := [(6, .c (.int .i64 k)), (5, .c (.ro (.int .i64) (nthTo code k)))]
  ents _ := [(0, .dead)]
  ok k := k ≤ n.toNat
  m k := n.toNat - k
@[reducible] def C31 (p : Int × List Int) : Ctx := cx [] [(0, fun _ => A31 p.1 p.2)]
def g31 (n : Int) (code : List Int) : Prop := p31.VC (C31 (n, code)) Tryd.f31 (n, code)
end
end Go.SX.Pa

/- Printed by VC.lean: what the executor asks. -/
namespace Go.SX.Pa
open Go Go.Proofs
theorem g31_eq (n : Int) (code : List Int) : g31 n code = (
 (∃ (x0 : Nat), x0 ≤ n.toNat ∧ (True ∧ True) ∧ (0 : Int) = (↑x0 : Int) ∧ [] = nthTo code x0 ∧ n = n ∧ code = code ∧ True) ∧
 ∀ (x : Nat),
 x ≤ n.toNat →
 ((↑x : Int) < n →
 (↑x : Int) < n ∧
 ((↑x : Int) < (↑code.length : Int) →
 (↑x : Int) < (↑code.length : Int) ∧
 ((0 : Int) ≤ (↑x : Int) ∧ (↑x : Int) < (↑code.length : Int)) ∧
 Fits IntKind.i64 (code.getD (↑x : Int).toNat (0 : Int)) ∧
 Fits IntKind.i64 ((↑x : Int) + (1 : Int)) ∧
 ((0 : Int) ≤ code.getD (↑x : Int).toNat (0 : Int) ∧ (0 : Int) < (↑x : Int) + (1 : Int)) ∧
 ((0 : Int) ≤ (↑(0 : Nat) : Int) ∧
 (↑(0 : Nat) : Int) ≤ code.getD (↑x : Int).toNat (0 : Int) % ((↑x : Int) + (1 : Int)) ∧
 code.getD (↑x : Int).toNat (0 : Int) % ((↑x : Int) + (1 : Int)) ≤ (↑(nthTo code x).length : Int)) ∧
 True ∧
 ((0 : Int) ≤ code.getD (↑x : Int).toNat (0 : Int) % ((↑x : Int) + (1 : Int)) ∧
 code.getD (↑x : Int).toNat (0 : Int) % ((↑x : Int) + (1 : Int)) ≤ (↑(nthTo code x).length : Int) ∧
 (↑(nthTo code x).length : Int) ≤ (↑(nthTo code x).length : Int)) ∧
 True ∧
 ((Small
 ((0 : Nat) +
 (List.drop (↑(0 : Nat) : Int).toNat
 (List.take (code.getD (↑x : Int).toNat (0 : Int) % ((↑x : Int) + (1 : Int))).toNat (nthTo code x))).length) ∧
 Small
 ((List.drop (↑(0 : Nat) : Int).toNat
 (List.take (code.getD (↑x : Int).toNat (0 : Int) % ((↑x : Int) + (1 : Int))).toNat (nthTo code x))).length +
 ((0 : Nat) + (1 : Nat))) ∧
 Small
 ((List.drop (↑(0 : Nat) : Int).toNat
 (List.take (code.getD (↑x : Int).toNat (0 : Int) % ((↑x : Int) + (1 : Int))).toNat (nthTo code x)) ++
 [(↑x : Int)]).length +
 (List.drop (code.getD (↑x : Int).toNat (0 : Int) % ((↑x : Int) + (1 : Int))).toNat
 (List.take (↑(nthTo code x).length : Int).toNat (nthTo code x))).length) ∧
 Fits IntKind.i64 ((↑x : Int) + (1 : Int)) ∧
 ∃ (x' : Nat),
 x' ≤ n.toNat ∧
 n.toNat - x' < n.toNat - x ∧
 (True ∧ True) ∧
 (↑x : Int) + (1 : Int) = (↑x' : Int) ∧
 List.drop (↑(0 : Nat) : Int).toNat
 (List.take (code.getD (↑x : Int).toNat (0 : Int) % ((↑x : Int) + (1 : Int))).toNat (nthTo code x)) ++
 [(↑x : Int)] ++
 List.drop (code.getD (↑x : Int).toNat (0 : Int) % ((↑x : Int) + (1 : Int))).toNat
 (List.take (↑(nthTo code x).length : Int).toNat (nthTo code x)) =
 nthTo code x' ∧
 n = n ∧ code = code ∧ True) ∧
 Small
 ((0 : Nat) +
 (List.drop (↑(0 : Nat) : Int).toNat
 (List.take (code.getD (↑x : Int).toNat (0 : Int) % ((↑x : Int) + (1 : Int))).toNat (nthTo code x))).length) ∧
 Small
 ((List.drop (↑(0 : Nat) : Int).toNat
 (List.take (code.getD (↑x : Int).toNat (0 : Int) % ((↑x : Int) + (1 : Int))).toNat (nthTo code x))).length +
 ((0 : Nat) + (1 : Nat))) ∧
 Small
 ((List.drop (↑(0 : Nat) : Int).toNat
 (List.take (code.getD (↑x : Int).toNat (0 : Int) % ((↑x : Int) + (1 : Int))).toNat (nthTo code x)) ++
 [(↑x : Int)]).length +
 (List.drop (code.getD (↑x : Int).toNat (0 : Int) % ((↑x : Int) + (1 : Int))).toNat
 (List.take (↑(nthTo code x).length : Int).toNat (nthTo code x))).length) ∧
 Fits IntKind.i64 ((↑x : Int) + (1 : Int)) ∧
 ∃ (x' : Nat),
 x' ≤ n.toNat ∧
 n.toNat - x' < n.toNat - x ∧
 (True ∧ True) ∧
 (↑x : Int) + (1 : Int) = (↑x' : Int) ∧
 List.drop (↑(0 : Nat) : Int).toNat
 (List.take (code.getD (↑x : Int).toNat (0 : Int) % ((↑x : Int) + (1 : Int))).toNat (nthTo code x)) ++
 [(↑x : Int)] ++
 List.drop (code.getD (↑x : Int).toNat (0 : Int) % ((↑x : Int) + (1 : Int))).toNat
 (List.take (↑(nthTo code x).length : Int).toNat (nthTo code x)) =
 nthTo code x' ∧
 n = n ∧ code = code ∧ True) ∧
 Small
 ((0 : Nat) +
 (List.drop (↑(0 : Nat) : Int).toNat
 (List.take (code.getD (↑x : Int).toNat (0 : Int) % ((↑x : Int) + (1 : Int))).toNat (nthTo code x))).length) ∧
 Small
 ((List.drop (↑(0 : Nat) : Int).toNat
 (List.take (code.getD (↑x : Int).toNat (0 : Int) % ((↑x : Int) + (1 : Int))).toNat (nthTo code x))).length +
 ((0 : Nat) + (1 : Nat))) ∧
 Small
 ((List.drop (↑(0 : Nat) : Int).toNat
 (List.take (code.getD (↑x : Int).toNat (0 : Int) % ((↑x : Int) + (1 : Int))).toNat (nthTo code x)) ++
 [(↑x : Int)]).length +
 (List.drop (code.getD (↑x : Int).toNat (0 : Int) % ((↑x : Int) + (1 : Int))).toNat
 (List.take (↑(nthTo code x).length : Int).toNat (nthTo code x))).length) ∧
 Fits IntKind.i64 ((↑x : Int) + (1 : Int)) ∧
 ∃ (x' : Nat),
 x' ≤ n.toNat ∧
 n.toNat - x' < n.toNat - x ∧
 (True ∧ True) ∧
 (↑x : Int) + (1 : Int) = (↑x' : Int) ∧
 List.drop (↑(0 : Nat) : Int).toNat
 (List.take (code.getD (↑x : Int).toNat (0 : Int) % ((↑x : Int) + (1 : Int))).toNat (nthTo code x)) ++
 [(↑x : Int)] ++
 List.drop (code.getD (↑x : Int).toNat (0 : Int) % ((↑x : Int) + (1 : Int))).toNat
 (List.take (↑(nthTo code x).length : Int).toNat (nthTo code x)) =
 nthTo code x' ∧
 n = n ∧ code = code ∧ True) ∧
 (¬(↑x : Int) < (↑code.length : Int) →
 ¬(↑x : Int) < (↑code.length : Int) ∧
 ((0 : Int) ≤ (↑(0 : Nat) : Int) ∧ (↑(0 : Nat) : Int) ≤ (0 : Int) ∧ (0 : Int) ≤ (↑(nthTo code x).length : Int)) ∧
 True ∧
 ((0 : Int) ≤ (0 : Int) ∧ (0 : Int) ≤ (↑(nthTo code x).length : Int) ∧ (↑(nthTo code x).length : Int) ≤ (↑(nthTo code x).length : Int)) ∧
 True ∧
 ((Small ((0 : Nat) + (List.drop (↑(0 : Nat) : Int).toNat (List.take (Int.toNat (0 : Int)) (nthTo code x))).length) ∧
 Small ((List.drop (↑(0 : Nat) : Int).toNat (List.take (Int.toNat (0 : Int)) (nthTo code x))).length + ((0 : Nat) + (1 : Nat))) ∧
 Small
 ((List.drop (↑(0 : Nat) : Int).toNat (List.take (Int.toNat (0 : Int)) (nthTo code x)) ++ [(↑x : Int)]).length +
 (List.drop (Int.toNat (0 : Int)) (List.take (↑(nthTo code x).length : Int).toNat (nthTo code x))).length) ∧
 Fits IntKind.i64 ((↑x : Int) + (1 : Int)) ∧
 ∃ (x' : Nat),
 x' ≤ n.toNat ∧
 n.toNat - x' < n.toNat - x ∧
 (True ∧ True) ∧
 (↑x : Int) + (1 : Int) = (↑x' : Int) ∧
 List.drop (↑(0 : Nat) : Int).toNat (List.take (Int.toNat (0 : Int)) (nthTo code x)) ++ [(↑x : Int)] ++
 List.drop (Int.toNat (0 : Int)) (List.take (↑(nthTo code x).length : Int).toNat (nthTo code x)) =
 nthTo code x' ∧
 n = n ∧ code = code ∧ True) ∧
 Small ((0 : Nat) + (List.drop (↑(0 : Nat) : Int).toNat (List.take (Int.toNat (0 : Int)) (nthTo code x))).length) ∧
 Small ((List.drop (↑(0 : Nat) : Int).toNat (List.take (Int.toNat (0 : Int)) (nthTo code x))).length + ((0 : Nat) + (1 : Nat))) ∧
 Small
 ((List.drop (↑(0 : Nat) : Int).toNat (List.take (Int.toNat (0 : Int)) (nthTo code x)) ++ [(↑x : Int)]).length +
 (List.drop (Int.toNat (0 : Int)) (List.take (↑(nthTo code x).length : Int).toNat (nthTo code x))).length) ∧
 Fits IntKind.i64 ((↑x : Int) + (1 : Int)) ∧
 ∃ (x' : Nat),
 x' ≤ n.toNat ∧
 n.toNat - x' < n.toNat - x ∧
 (True ∧ True) ∧
 (↑x : Int) + (1 : Int) = (↑x' : Int) ∧
 List.drop (↑(0 : Nat) : Int).toNat (List.take (Int.toNat (0 : Int)) (nthTo code x)) ++ [(↑x : Int)] ++
 List.drop (Int.toNat (0 : Int)) (List.take (↑(nthTo code x).length : Int).toNat (nthTo code x)) =
 nthTo code x' ∧
 n = n ∧ code = code ∧ True) ∧
 Small ((0 : Nat) + (List.drop (↑(0 : Nat) : Int).toNat (List.take (Int.toNat (0 : Int)) (nthTo code x))).length) ∧
 Small ((List.drop (↑(0 : Nat) : Int).toNat (List.take (Int.toNat (0 : Int)) (nthTo code x))).length + ((0 : Nat) + (1 : Nat))) ∧
 Small
 ((List.drop (↑(0 : Nat) : Int).toNat (List.take (Int.toNat (0 : Int)) (nthTo code x)) ++ [(↑x : Int)]).length +
 (List.drop (Int.toNat (0 : Int)) (List.take (↑(nthTo code x).length : Int).toNat (nthTo code x))).length) ∧
 Fits IntKind.i64 ((↑x : Int) + (1 : Int)) ∧
 ∃ (x' : Nat),
 x' ≤ n.toNat ∧
 n.toNat - x' < n.toNat - x ∧
 (True ∧ True) ∧
 (↑x : Int) + (1 : Int) = (↑x' : Int) ∧
 List.drop (↑(0 : Nat) : Int).toNat (List.take (Int.toNat (0 : Int)) (nthTo code x)) ++ [(↑x : Int)] ++
 List.drop (Int.toNat (0 : Int)) (List.take (↑(nthTo code x).length : Int).toNat (nthTo code x)) =
 nthTo code x' ∧
 n = n ∧ code = code ∧ True)) ∧
 (¬(↑x : Int) < n → ¬(↑x : Int) < n ∧ nthTo code x = nthTo code n.toNat)) := by
 kernel_rfl

end Go.SX.Pa

/- Chapter 06, part 12: permutations by number: the contract. -/
namespace Go.SX.Pa
open Go Go.Proofs

theorem nthAt_le (code : List Int) (i : Nat) : nthAt code i ≤ i := by
  unfold nthAt
  split
  · have : (code.getD i 0).toNat % (i + 1) < i + 1 := Nat.mod_lt _ (Nat.succ_pos i); omega
  · omega
theorem nthTo_succ (code : List Int) (i : Nat) : nthTo code (i + 1) = (nthTo code i).take (nthAt code i) ++ [(i : Int)] ++ (nthTo code i).drop (nthAt code i) := rfl
theorem nthTo_length (code : List Int) : (i : Nat) → (nthTo code i).length = i
  | 0 => rfl
  | i + 1 => by
    have := nthTo_length code i
    have h2 := nthAt_le code i
    simp [nthTo, this]; omega
theorem nthTo_mem (code : List Int) : (i : Nat) → ∀ x, x ∈ nthTo code i ↔ 0 ≤ x ∧ x < i
  | 0, x => by simp [nthTo] <;> omega
  | i + 1, x => by
    have ih := nthTo_mem code i x
    have : x ∈ nthTo code (i + 1) ↔ x ∈ nthTo code i ∨ x = i := by
      rw [show x ∈ nthTo code i ↔ x ∈ (nthTo code i).take (nthAt code i) ++ (nthTo code i).drop (nthAt code i) by rw [List.take_append_drop]]
      simp only [nthTo, List.mem_append, List.mem_singleton]
      constructor
      · rintro ((h | h) | h)
        · exact .inl (.inl h)
        · exact .inr h
        · exact .inl (.inr h)
      · rintro ((h | h) | h)
        · exact .inl (.inl h)
        · exact .inr h
        · exact .inl (.inr h)
    rw [this, ih]; omega
theorem nthTo_nodup (code : List Int) : (i : Nat) → (nthTo code i).Nodup
  | 0 => by simp [nthTo]
  | i + 1 => by
    have ih := nthTo_nodup code i
    have hi : (i : Int) ∉ nthTo code i := fun h => by have := (nthTo_mem code i i).1 h; omega
    rw [← List.take_append_drop (nthAt code i) (nthTo code i)] at ih hi
    unfold nthTo
    generalize (nthTo code i).take (nthAt code i) = a at ih hi ⊢
    generalize (nthTo code i).drop (nthAt code i) = b at ih hi ⊢
    rw [List.mem_append] at hi
    rw [List.nodup_append] at ih
    obtain ⟨h1, h2, h3⟩ := ih
    rw [List.append_assoc, List.nodup_append]
    refine ⟨h1, ?_, fun x hx y hy => ?_⟩
    · rw [List.singleton_append, List.nodup_cons]
      exact ⟨fun h => hi (.inr h), h2⟩
    · rw [List.singleton_append, List.mem_cons] at hy
      rcases hy with rfl | hy
      · rintro rfl; exact hi (.inl hx)
      · exact h3 x hx y hy
theorem nth_perm (code : List Int) (n : Nat) : PermP (nthTo code n) n := ⟨by rw [nthTo_length], fun x hx => (nthTo_mem code n x).1 hx, nthTo_nodup code n⟩

theorem ok31 : p31.OK Tryd.prog := p31.ok C31 (fun _ => cx0) (fn := Tryd.f31) rfl (by decide +kernel) rfl fun (p : Int × List Int) hp => by
  obtain ⟨n, code⟩ := p
  refine (g31_eq n code).mpr ?_
  have hp : (0 ≤ n ∧ n ≤ 100) ∧ code.length ≤ maxLen ∧ ∀ b ∈ code, 0 ≤ b ∧ b ≤ 255 := hp
  obtain ⟨hn, _, hb⟩ := hp
  simp only [pp1, eq_self, and_true, true_and, and_self, Int.toNat_natCast, List.drop_zero]
  refine ⟨⟨0, by omega, rfl, rfl⟩, fun x hx => ⟨fun h1 => ⟨fun h2 => ?_, fun h2 => ?_⟩, fun h1 => ?_⟩⟩
  · have hl := nthTo_length code x
    have hx' : x < code.length := by omega
    have hbx := hb _ (getD_mem code 0 hx')
    have hm0 : 0 ≤ code.getD x 0 % ((x : Int) + 1) := Int.emod_nonneg _ (by omega)
    have hm1 : code.getD x 0 % ((x : Int) + 1) < (x : Int) + 1 := Int.emod_lt_of_pos _ (by omega)
    have hat : nthAt code x = (code.getD x 0 % ((x : Int) + 1)).toNat := by
      unfold nthAt; rw [if_pos hx']
      obtain ⟨m, hm⟩ : ∃ m : Nat, code.getD x 0 = (m : Int) := ⟨_, (Int.toNat_of_nonneg hbx.1).symm⟩
      rw [hm, Int.toNat_natCast, show ((x : Int) + 1) = ((x + 1 : Nat) : Int) by omega, ← Int.natCast_emod, Int.toNat_natCast]
    refine ⟨by omega, fits_i64 (by omega) (by omega), fits_i64 (by omega) (by omega), by omega, by omega, by omega, ?_, ?_, ?_, fits_i64 (by omega) (by omega), x + 1, by omega, by omega, by omega, ?_⟩
    · unfold Small; simp; omega
    · unfold Small; simp; omega
    · unfold Small; simp; omega
    · rw [nthTo_succ, hat, List.take_length]
  · have hl := nthTo_length code x
    have hat : nthAt code x = 0 := by unfold nthAt; rw [if_neg (by omega)]
    refine ⟨by omega, by omega, ?_, ?_, ?_, fits_i64 (by omega) (by omega), x + 1, by omega, by omega, by omega, ?_⟩
    · unfold Small; simp
    · unfold Small; simp
    · unfold Small; simp; omega
    · rw [nthTo_succ, hat, List.take_length]
      rfl
  · rw [show n.toNat = x by omega]
end Go.SX.Pa

/- Chapter 06 in plain words, part K: every bipartite multigraph of degree at most d has a colouring of its edges with d numbers (Konig), by Kempe's chains. -/
namespace Go.SX.Pa

/-- A list shorter than d lacks a number below d. -/
theorem lacks (d : Nat) (l : List Nat) (h : l.length < d) : ∃ x, x < d ∧ x ∉ l := by
  refine Classical.byContradiction fun hno => ?_
  have hall : ∀ x ∈ List.range d, x ∈ l := fun x hx => Classical.byContradiction fun hn => hno ⟨x, List.mem_range.1 hx, hn⟩
  have key : ∀ (a b : List Nat), a.Nodup → (∀ x ∈ a, x ∈ b) → a.length ≤ b.length := by
    intro a
    induction a with
    | nil => intro b _ _; simp
    | cons x a ih =>
      intro b hn hs
      have hx := hs x (by simp)
      have h1 := ih (b.erase x) (List.nodup_cons.1 hn).2 (fun y hy => by
        refine (List.mem_erase_of_ne ?_).2 (hs y (by simp [hy]))
        rintro rfl
        exact (List.nodup_cons.1 hn).1 hy)
      rw [List.length_erase_of_mem hx] at h1
      have : 0 < b.length := List.length_pos_of_mem hx
      simp only [List.length_cons]
      omega
  have := key _ _ List.nodup_range hall
  rw [List.length_range] at this
  omega

section
variable (a b : Nat → Int)
/-- The colours c of the first k edges are proper. -/
def PropN (c : Nat → Nat) (k : Nat) : Prop := ∀ i j, i < k → j < k → i ≠ j → c i = c j → a i ≠ a j ∧ b i ≠ b j

variable (c : Nat → Nat) (k α β : Nat) (v : Int)
/-- The chain: (true, y): a second vertex; (false, x): a first one. -/
inductive Chain : Bool → Int → Prop
  | start : Chain true v
  | back (i : Nat) : i < k → c i = α → Chain true (b i) → Chain false (a i)
  | forth (i : Nat) : i < k → c i = β → Chain false (a i) → Chain true (b i)

open Classical in
noncomputable def swapped (i : Nat) : Nat := if c i = α ∧ Chain a b c k α β v true (b i) then β else if c i = β ∧ Chain a b c k α β v false (a i) then α else c i

variable {a b c k α β v}
theorem chain_first (h : PropN a b c k) {i : Nat} (hi : i < k) (hc : c i = α) : Chain a b c k α β v false (a i) ↔ Chain a b c k α β v true (b i) := by
  constructor
  · intro hch
    generalize hx : a i = x at hch
    cases hch with
    | back j hj hcj hb =>
      by_cases e : i = j
      · subst e; exact hb
      · exact absurd hx (h i j hi hj e (hc.trans hcj.symm)).1
  · exact fun hch => .back i hi hc hch
theorem chain_second (h : PropN a b c k) (hv : ∀ j, j < k → c j = β → b j ≠ v) {i : Nat} (hi : i < k) (hc : c i = β) : Chain a b c k α β v true (b i) ↔ Chain a b c k α β v false (a i) := by
  constructor
  · intro hch
    generalize hx : b i = x at hch
    cases hch with
    | start => exact absurd hx (hv i hi hc)
    | forth j hj hcj hb =>
      by_cases e : i = j
      · subst e; exact hb
      · exact absurd hx (h i j hi hj e (hc.trans hcj.symm)).2
  · exact fun hch => .forth i hi hc hch

open Classical in
theorem swap_ne {α β x y : Nat} {Tx Fx Ty Fy S : Prop} (hab : α ≠ β) (hne : x ≠ y) (h1 : x = α → (Tx ↔ S)) (h2 : x = β → (Fx ↔ S)) (h3 : y = α → (Ty ↔ S)) (h4 : y = β → (Fy ↔ S)) :
    (if x = α ∧ Tx then β else if x = β ∧ Fx then α else x) ≠ (if y = α ∧ Ty then β else if y = β ∧ Fy then α else y) := by
  have e1 : (x = α ∧ Tx) = (x = α ∧ S) := propext (and_congr_right h1)
  have e2 : (x = β ∧ Fx) = (x = β ∧ S) := propext (and_congr_right h2)
  have e3 : (y = α ∧ Ty) = (y = α ∧ S) := propext (and_congr_right h3)
  have e4 : (y = β ∧ Fy) = (y = β ∧ S) := propext (and_congr_right h4)
  simp only [e1, e2, e3, e4]
  by_cases hS : S
  · simp only [hS, and_true]
    split <;> split <;> (try split) <;> (try split) <;> omega
  · simp only [hS, and_false, if_false]
    exact hne
theorem swapped_proper (h : PropN a b c k) (hab : α ≠ β) (hv : ∀ j, j < k → c j = β → b j ≠ v) : PropN a b (swapped a b c k α β v) k := by
  -- the swap looks at one vertex only
  have key : ∀ i, i < k → ∀ j, j < k → i ≠ j → (a i = a j ∨ b i = b j) → swapped a b c k α β v i ≠ swapped a b c k α β v j := by
    intro i hi j hj hij hs
    have hne : c i ≠ c j := fun e => by
      have := h i j hi hj hij e
      rcases hs with h1 | h1
      · exact this.1 h1
      · exact this.2 h1
    have f1 := fun (hc : c i = α) => chain_first (α := α) (β := β) (v := v) h hi hc
    have f2 := fun (hc : c j = α) => chain_first (α := α) (β := β) (v := v) h hj hc
    have s1 := fun (hc : c i = β) => chain_second (α := α) h hv hi hc
    have s2 := fun (hc : c j = β) => chain_second (α := α) h hv hj hc
    unfold swapped
    rcases hs with h1 | h1
    · refine swap_ne (S := Chain a b c k α β v false (a i)) hab hne (fun e => (f1 e).symm) (fun e => Iff.rfl) (fun e => ?_) (fun e => ?_)
      · rw [h1]; exact (f2 e).symm
      · rw [h1]
    · refine swap_ne (S := Chain a b c k α β v true (b i)) hab hne (fun e => Iff.rfl) (fun e => (s1 e).symm) (fun e => ?_) (fun e => ?_)
      · rw [h1]
      · rw [h1]; exact (s2 e).symm
  intro i j hi hj hij hc
  exact ⟨fun e => key i hi j hj hij (.inl e) hc, fun e => key i hi j hj hij (.inr e) hc⟩

theorem swapped_lt {d : Nat} (hα : α < d) (hβ : β < d) {i : Nat} (h : c i < d) : swapped a b c k α β v i < d := by
  unfold swapped
  split
  · exact hβ
  · split
    · exact hα
    · exact h
end

/-- The degree in the first k edges. -/
def cntN (a : Nat → Int) (v : Int) (k : Nat) : Nat := (List.range k).countP fun i => decide (a i = v)
theorem cntN_succ (a : Nat → Int) (v : Int) (k : Nat) : cntN a v (k + 1) = cntN a v k + if a k = v then 1 else 0 := by
  unfold cntN
  rw [List.range_succ, List.countP_append]
  by_cases h : a k = v <;> simp [h]
theorem free_at (a : Nat → Int) (c : Nat → Nat) (v : Int) (k d : Nat) (h : cntN a v k < d) : ∃ x, x < d ∧ ∀ i, i < k → a i = v → c i ≠ x := by
  obtain ⟨x, h1, h2⟩ := lacks d (((List.range k).filter fun i => decide (a i = v)).map c) (by rw [List.length_map, ← List.countP_eq_length_filter]; exact h)
  refine ⟨x, h1, fun i hi hv he => h2 ?_⟩
  rw [List.mem_map]
  exact ⟨i, List.mem_filter.2 ⟨List.mem_range.2 hi, by simpa using hv⟩, he⟩

theorem konig (a b : Nat → Int) (d : Nat) : (n : Nat) → (∀ v, cntN a v n ≤ d) → (∀ v, cntN b v n ≤ d) → ∃ c : Nat → Nat, (∀ i, i < n → c i < d) ∧ PropN a b c n
  | 0, _, _ => ⟨fun _ => 0, fun i h => absurd h (Nat.not_lt_zero _), fun i _ h => absurd h (Nat.not_lt_zero _)⟩
  | n + 1, ha, hb => by
    have la : ∀ v, cntN a v n ≤ d := fun v => by have := ha v; rw [cntN_succ] at this; omega
    have lb : ∀ v, cntN b v n ≤ d := fun v => by have := hb v; rw [cntN_succ] at this; omega
    obtain ⟨c, hc, hp⟩ := konig a b d n la lb
    have ua : cntN a (a n) n < d := by have := ha (a n); rw [cntN_succ, if_pos rfl] at this; omega
    have ub : cntN b (b n) n < d := by have := hb (b n); rw [cntN_succ, if_pos rfl] at this; omega
    obtain ⟨α, hα, fα⟩ := free_at a c (a n) n d ua
    obtain ⟨β, hβ, fβ⟩ := free_at b c (b n) n d ub
    -- it suffices to colour the first n edges so that some colour is free at both ends
    have fin : ∀ (c' : Nat → Nat) (x : Nat), x < d → (∀ i, i < n → c' i < d) → PropN a b c' n → (∀ i, i < n → a i = a n → c' i ≠ x) → (∀ i, i < n → b i = b n → c' i ≠ x) →
        ∃ c : Nat → Nat, (∀ i, i < n + 1 → c i < d) ∧ PropN a b c (n + 1) := by
      intro c' x hx h1 h2 h3 h4
      refine ⟨fun i => if i = n then x else c' i, fun i hi => ?_, fun i j hi hj hij he => ?_⟩
      · simp only
        split
        · exact hx
        · exact h1 i (by omega)
      · simp only at he
        by_cases e1 : i = n
        · have e2 : j ≠ n := fun e => hij (e1.trans e.symm)
          rw [if_pos e1, if_neg e2] at he
          subst e1
          exact ⟨fun e => h3 j (by omega) e.symm he.symm, fun e => h4 j (by omega) e.symm he.symm⟩
        · rw [if_neg e1] at he
          by_cases e2 : j = n
          · rw [if_pos e2] at he
            subst e2
            exact ⟨fun e => h3 i (by omega) e he, fun e => h4 i (by omega) e he⟩
          · rw [if_neg e2] at he
            exact h2 i j (by omega) (by omega) hij he
    by_cases hab : α = β
    · subst hab
      exact fin c α hα hc hp (fun i hi e => fα i hi e) (fun i hi e => fβ i hi e)
    · have hv : ∀ j, j < n → c j = β → b j ≠ b n := fun j hj hcj e => fβ j hj e hcj
      refine fin (swapped a b c n α β (b n)) α hα (fun i hi => swapped_lt hα hβ (hc i hi)) (swapped_proper hp hab hv) (fun i hi e => ?_) (fun i hi e => ?_)
      · -- the first end is not on the chain
        have hno : ¬ Chain a b c n α β (b n) false (a n) := by
          intro hch
          generalize hx : a n = x at hch
          cases hch with
          | back j hj hcj _ => exact fα j hj hx.symm hcj
        unfold swapped
        have hci := fα i hi e
        rw [if_neg (fun h => hci h.1), e, if_neg (fun h => hno h.2)]
        exact hci
      · -- the second end begins the chain
        have hyes : Chain a b c n α β (b n) true (b i) := by rw [e]; exact .start
        unfold swapped
        by_cases h1 : c i = α
        · rw [if_pos ⟨h1, hyes⟩]; exact Ne.symm hab
        · rw [if_neg (fun h => h1 h.1), if_neg (fun h => hv i hi h.1 e)]
          exact h1
end Go.SX.Pa

/- Chapter 06 in plain words, part L: the search finds a colouring if there is one; with as many numbers as the degree says there is one. -/
namespace Go.SX.Pa

/-- A proper colouring with the numbers below m. -/
def GoodC (es : List Ed) (m : Int) (l : List Int) : Prop := l.length = es.length ∧ (∀ x ∈ l, 0 ≤ x ∧ x < m) ∧ ∀ i, i < l.length → clashF es l i = false

theorem clash_iff {es : List Ed} {l : List Int} {i : Nat} : clashF es l i = false ↔ ∀ j, j < i → touch es l i j = false := by
  unfold clashF
  rw [List.any_eq_false]
  constructor
  · intro h j hj
    have := h j (List.mem_range.2 hj)
    simpa using this
  · intro h j hj
    rw [h j (List.mem_range.1 hj)]
    decide
theorem touch_pre (es : List Ed) {l l' : List Int} {i j n : Nat} (h : ∀ k, k < n → l.getD k 0 = l'.getD k 0) (hi : i < n) (hj : j < n) : touch es l i j = touch es l' i j := by
  unfold touch; rw [h i hi, h j hj]
theorem clash_pre (es : List Ed) {l l' : List Int} {i n : Nat} (h : ∀ k, k < n → l.getD k 0 = l'.getD k 0) (hi : i < n) : clashF es l i = clashF es l' i := by
  apply Bool.eq_iff_iff.2
  unfold clashF
  rw [List.any_eq_true, List.any_eq_true]
  constructor
  · rintro ⟨j, hj, hc⟩; exact ⟨j, hj, by rw [← touch_pre es h hi (by have := List.mem_range.1 hj; omega)]; exact hc⟩
  · rintro ⟨j, hj, hc⟩; exact ⟨j, hj, by rw [touch_pre es h hi (by have := List.mem_range.1 hj; omega)]; exact hc⟩

/-- What the search returns. -/
theorem extF_good (es : List Ed) (m : Nat) : (f : Nat) → (out l : List Int) → extF es m f out = some l → (∀ x ∈ out, 0 ≤ x ∧ x < (m : Int)) → (∀ i, i < out.length → clashF es out i = false) →
    (∀ x ∈ l, 0 ≤ x ∧ x < (m : Int)) ∧ ∀ i, i < l.length → clashF es l i = false
  | 0, out, l, h, h1, h2 => by
    simp [extF] at h; subst h; exact ⟨h1, h2⟩
  | f + 1, out, l, h, h1, h2 => by
    unfold extF at h
    obtain ⟨c, hc1, hc⟩ := List.exists_of_findSome?_eq_some h
    split at hc
    · cases hc
    · rename_i hcl
      have hcm := List.mem_range.1 hc1
      refine extF_good es m f _ _ hc (fun x hx => ?_) (fun i hi => ?_)
      · rcases List.mem_append.1 hx with h3 | h3
        · exact h1 x h3
        · simp at h3; omega
      · simp at hi
        by_cases e : i = out.length
        · subst e; simpa using hcl
        · rw [← clash_pre es (l := out) (n := out.length) (fun k hk => by simp [List.getD, List.getElem?_append_left hk]) (by omega)]
          exact h2 i (by omega)

/-- The search does not miss a colouring. -/
theorem extF_some (es : List Ed) (m : Nat) (l : List Int) (hm : ∀ x ∈ l, 0 ≤ x ∧ x < (m : Int)) (hc : ∀ i, i < l.length → clashF es l i = false) : (f k : Nat) → k + f = l.length → extF es m f (l.take k) ≠ none
  | 0, k, _, h => by simp [extF] at h
  | f + 1, k, hk, h => by
    unfold extF at h
    have hkl : k < l.length := by omega
    have hlen : (l.take k).length = k := by simp; omega
    have hx := hm _ (getD_mem l 0 hkl)
    obtain ⟨c, hcx⟩ : ∃ c : Nat, l.getD k 0 = (c : Int) := ⟨(l.getD k 0).toNat, by omega⟩
    have hsn : l.take k ++ [(c : Int)] = l.take (k + 1) := by rw [take_snoc l 0 k hkl, hcx]
    have h1 := List.findSome?_eq_none_iff.1 h c (List.mem_range.2 (by omega))
    rw [hsn, hlen] at h1
    have hcl : clashF es (l.take (k + 1)) k = false := by
      rw [clash_pre es (l' := l) (n := k + 1) (fun j hj => getD_take l 0 hj) (by omega)]
      exact hc k hkl
    rw [hcl] at h1
    exact extF_some es m l hm hc f (k + 1) (by omega) (by simpa using h1)

/-! ### The greatest degree -/
theorem countP_range {α : Type} (l : List α) (d : α) (p : α → Bool) (k : Nat) (h : k ≤ l.length) : (List.range k).countP (fun i => p (l.getD i d)) = (l.take k).countP p := by
  induction k with
  | zero => simp
  | succ k ih =>
    rw [List.range_succ, take_snoc l d k (by omega), List.countP_append, List.countP_append, ih (by omega)]
    simp [List.countP_cons]
def endA (es : List Ed) (i : Nat) : Int := (es.getD i (0, 0)).1
def endB (es : List Ed) (i : Nat) : Int := (es.getD i (0, 0)).2
theorem cntN_endA (es : List Ed) (v : Int) {k : Nat} (h : k ≤ es.length) : cntN (endA es) v k = (es.take k).countP fun e => decide (e.1 = v) := countP_range es (0, 0) (fun e => decide (e.1 = v)) k h
theorem cntN_endB (es : List Ed) (v : Int) {k : Nat} (h : k ≤ es.length) : cntN (endB es) v k = (es.take k).countP fun e => decide (e.2 = v) := countP_range es (0, 0) (fun e => decide (e.2 = v)) k h
theorem degTo_cnt (es : List Ed) {k : Nat} (h : k < es.length) : (degTo es (k + 1)).2.2 = max (max (degTo es k).2.2 (cntN (endA es) (endA es k) (k + 1))) (cntN (endB es) (endB es k) (k + 1)) := by
  have la := (degTo_look es (endA es k) (k + 1) h).1
  have lb := (degTo_look es (endB es k) (k + 1) h).2
  rw [cntN_endA es _ h, cntN_endB es _ h, ← la, ← lb, degTo_succ es k h]
  rfl
/-- It is at least each degree, and one of them. -/
theorem degTo_ge (es : List Ed) : (k : Nat) → k ≤ es.length → ∀ v, (cntN (endA es) v k : Int) ≤ (degTo es k).2.2 ∧ (cntN (endB es) v k : Int) ≤ (degTo es k).2.2
  | 0, _, v => by simp [cntN, degTo]
  | k + 1, h, v => by
    obtain ⟨h1, h2⟩ := degTo_ge es k (by omega) v
    rw [degTo_cnt es (by omega)]
    refine ⟨?_, ?_⟩
    · by_cases e : endA es k = v
      · subst e; omega
      · rw [cntN_succ, if_neg e]; omega
    · by_cases e : endB es k = v
      · subst e; omega
      · rw [cntN_succ, if_neg e]; omega
theorem degTo_at (es : List Ed) : (k : Nat) → k ≤ es.length → (degTo es k).2.2 = 0 ∨ (∃ v j, j ≤ k ∧ (cntN (endA es) v j : Int) = (degTo es k).2.2) ∨ ∃ v j, j ≤ k ∧ (cntN (endB es) v j : Int) = (degTo es k).2.2
  | 0, _ => .inl rfl
  | k + 1, h => by
    have ih := degTo_at es k (by omega)
    rw [degTo_cnt es (by omega)]
    by_cases h1 : (cntN (endB es) (endB es k) (k + 1) : Int) ≤ (degTo es k).2.2 ∧ (cntN (endA es) (endA es k) (k + 1) : Int) ≤ (degTo es k).2.2
    · have e : max (max (degTo es k).2.2 (cntN (endA es) (endA es k) (k + 1))) (cntN (endB es) (endB es k) (k + 1)) = (degTo es k).2.2 := by omega
      rw [e]
      rcases ih with h2 | ⟨v, j, hj, h2⟩ | ⟨v, j, hj, h2⟩
      · exact .inl h2
      · exact .inr (.inl ⟨v, j, by omega, h2⟩)
      · exact .inr (.inr ⟨v, j, by omega, h2⟩)
    · by_cases h2 : (cntN (endB es) (endB es k) (k + 1) : Int) ≤ cntN (endA es) (endA es k) (k + 1)
      · exact .inr (.inl ⟨endA es k, k + 1, Nat.le_refl _, by omega⟩)
      · exact .inr (.inr ⟨endB es k, k + 1, Nat.le_refl _, by omega⟩)

/-! ### With as many numbers as the degree there is a colouring -/
theorem colF_some {es : List Ed} {m : Int} (h : degF es ≤ m) : ∃ l, colF es m = some l := by
  have h0 := degF_bound es
  have hg := degTo_ge es es.length (Nat.le_refl _)
  have hd : (degTo es es.length).2.2 = degF es := rfl
  rw [hd] at hg
  obtain ⟨c, hc, hp⟩ := konig (endA es) (endB es) m.toNat es.length (fun v => by have := (hg v).1; omega) (fun v => by have := (hg v).2; omega)
  let l : List Int := (List.range es.length).map fun i => (c i : Int)
  have hl : l.length = es.length := by simp [l]
  have hget : ∀ i, i < es.length → l.getD i 0 = (c i : Int) := fun i hi => by simp [l, List.getD, hi]
  have h1 : ∀ x ∈ l, 0 ≤ x ∧ x < (m.toNat : Int) := fun x hx => by
    obtain ⟨i, hi, rfl⟩ := List.mem_map.1 hx
    have := hc i (List.mem_range.1 hi)
    omega
  have h2 : ∀ i, i < l.length → clashF es l i = false := fun i hi => clash_iff.2 fun j hj => by
    unfold touch
    rw [hget i (by omega), hget j (by omega), decide_eq_false_iff_not]
    rintro ⟨h3, h4⟩
    have := hp j i (by omega) (by omega) (by omega) (by omega)
    unfold endA endB at this
    rcases h4 with h4 | h4
    · exact this.1 h4
    · exact this.2 h4
  have h3 := extF_some es m.toNat l h1 h2 es.length 0 (by omega)
  unfold colF
  rw [if_pos h]
  unfold extR
  rw [List.take_zero] at h3
  cases he : extF es m.toNat (es.length - ([] : List Int).length) [] with
  | none => exact absurd he h3
  | some l => exact ⟨l, rfl⟩

/-- What is found is one. -/
theorem colF_good {es : List Ed} {m : Int} {l : List Int} (hm : 0 ≤ m) (h : colF es m = some l) : GoodC es m l := by
  have hl := colF_length h
  unfold colF at h
  split at h
  · obtain ⟨h1, h2⟩ := extF_good es m.toNat _ [] l h (fun x hx => by cases hx) (fun i hi => by simp at hi)
    exact ⟨hl, fun x hx => by have := h1 x hx; omega, h2⟩
  · cases h

/-! ### As many numbers are used as the degree says -/
def seenF (l : List Int) : List Int := l.foldl (fun s x => if x ∈ s then s else s ++ [x]) []
theorem seenF_succ (l : List Int) (k : Nat) (h : k < l.length) : seenF (l.take (k + 1)) = if l.getD k 0 ∈ seenF (l.take k) then seenF (l.take k) else seenF (l.take k) ++ [l.getD k 0] := by
  unfold seenF; rw [take_snoc l 0 k h, List.foldl_append]; rfl
theorem seen_take (l : List Int) : (k : Nat) → k ≤ l.length → (∀ x, x ∈ seenF (l.take k) ↔ x ∈ l.take k) ∧ (seenF (l.take k)).Nodup
  | 0, _ => by simp [seenF]
  | k + 1, h => by
    obtain ⟨h1, h2⟩ := seen_take l k (by omega)
    rw [seenF_succ l k (by omega)]
    split
    · rename_i h3
      refine ⟨fun x => ?_, h2⟩
      rw [h1, take_mem l 0 x k (by omega)]
      constructor
      · exact .inl
      · rintro (h4 | h4)
        · exact h4
        · rw [h4]; exact (h1 _).1 h3
    · rename_i h3
      refine ⟨fun x => ?_, nodup_snoc h2 h3⟩
      rw [List.mem_append, List.mem_singleton, h1, take_mem l 0 x k (by omega)]
theorem mem_seen (l : List Int) (x : Int) : x ∈ seenF l ↔ x ∈ l := by
  have := (seen_take l l.length (Nat.le_refl _)).1 x
  rwa [List.take_length] at this
theorem seen_nodup (l : List Int) : (seenF l).Nodup := by
  have := (seen_take l l.length (Nat.le_refl _)).2
  rwa [List.take_length] at this
theorem seenF_length (l : List Int) : (seenF l).length ≤ l.length := List.Nodup.length_le_of_subset (seen_nodup l) fun x hx => (mem_seen l x).1 hx
/-- The edges at a vertex have numbers of their own. -/
theorem seen_at {es : List Ed} {l : List Int} (hl : l.length = es.length) (h : ∀ i, i < l.length → clashF es l i = false) (a : Nat → Int) (ha : a = endA es ∨ a = endB es) (v : Int) {k : Nat} (hk : k ≤ es.length) : cntN a v k ≤ (seenF l).length := by
  have key : ∀ i j, i < k → j < k → i ≠ j → a i = v → a j = v → l.getD i 0 ≠ l.getD j 0 := by
    have half : ∀ i j, i < k → j < i → a i = v → a j = v → l.getD i 0 ≠ l.getD j 0 := by
      intro i j hi hj h1 h2 he
      have := clash_iff.1 (h i (by omega)) j hj
      unfold touch at this
      rw [decide_eq_false_iff_not] at this
      refine this ⟨he.symm, ?_⟩
      rcases ha with e | e <;> subst e
      · exact .inl (h2.trans h1.symm)
      · exact .inr (h2.trans h1.symm)
    intro i j hi hj hij h1 h2 he
    rcases Nat.lt_or_gt_of_ne hij with h3 | h3
    · exact half j i hj h3 h2 h1 he.symm
    · exact half i j hi h3 h1 h2 he
  have hn : (((List.range k).filter fun i => decide (a i = v)).map fun i => l.getD i 0).Nodup := by
    refine List.pairwise_map.2 (List.Pairwise.imp_of_mem ?_ (List.nodup_range.filter _))
    intro i j hi hj hij
    obtain ⟨i1, i2⟩ := List.mem_filter.1 hi
    obtain ⟨j1, j2⟩ := List.mem_filter.1 hj
    exact key i j (List.mem_range.1 i1) (List.mem_range.1 j1) hij (by simpa using i2) (by simpa using j2)
  have := List.Nodup.length_le_of_subset hn (l₂ := seenF l) fun x hx => by
    obtain ⟨i, hi, rfl⟩ := List.mem_map.1 hx
    rw [mem_seen]
    have := List.mem_range.1 (List.mem_filter.1 hi).1
    exact getD_mem l 0 (by omega)
  rw [List.length_map, ← List.countP_eq_length_filter] at this
  exact this
theorem seen_deg {es : List Ed} {l : List Int} (h : colF es (degF es) = some l) : ((seenF l).length : Int) = degF es := by
  have h0 := degF_bound es
  obtain ⟨h1, h2, h3⟩ := colF_good h0.1 h
  have hle : (seenF l).length ≤ (degF es).toNat := by
    have hn := seen_nodup l
    have := List.Nodup.length_le_of_subset hn (l₂ := (List.range (degF es).toNat).map fun i : Nat => (i : Int)) fun x hx => by
      have := h2 x ((mem_seen l x).1 hx)
      exact List.mem_map.2 ⟨x.toNat, List.mem_range.2 (by omega), by omega⟩
    simpa using this
  rcases degTo_at es es.length (Nat.le_refl _) with h4 | ⟨v, j, hj, h4⟩ | ⟨v, j, hj, h4⟩
  · have h5 : degF es = 0 := h4
    omega
  · have h5 := seen_at h1 h3 (endA es) (.inl rfl) v hj
    have h6 : (cntN (endA es) v j : Int) = degF es := h4
    omega
  · have h5 := seen_at h1 h3 (endB es) (.inr rfl) v hj
    have h6 : (cntN (endB es) v j : Int) = degF es := h4
    omega
end Go.SX.Pa

/- Chapter 06 in plain words, part M: the multigraph of a permutation of a Clos network has degree n. -/
namespace Go.SX.Pa

theorem net_ok {x : Int × Int × Int} (h : Byte3 x) : ClosP (netF x).1 (netF x).2.1 (netF x).2.2 ∧ 1 ≤ (netF x).1 * (netF x).2.1 ∧ (netF x).1 * (netF x).2.1 ≤ 12 := by
  obtain ⟨a, b, c⟩ := x
  obtain ⟨ha, hb, hc⟩ := h
  simp only at ha hb hc
  unfold netF
  simp only
  have h1 : 0 ≤ a % 12 := Int.emod_nonneg _ (by omega)
  have h2 : a % 12 < 12 := Int.emod_lt_of_pos _ (by omega)
  generalize hn : a % 12 + 1 = n
  have hn1 : 1 ≤ n := by omega
  have hn2 : n ≤ 12 := by omega
  have h3 : 1 ≤ 12 / n := Int.le_ediv_of_mul_le (by omega) (by omega)
  have h4 : 12 / n * n ≤ 12 := Int.ediv_mul_le _ (by omega)
  have h5 : 0 ≤ b % (12 / n) := Int.emod_nonneg _ (by omega)
  have h6 : b % (12 / n) < 12 / n := Int.emod_lt_of_pos _ (by omega)
  generalize b % (12 / n) = r at h5 h6 ⊢
  have h7 : n * (r + 1) ≤ n * (12 / n) := Int.mul_le_mul_of_nonneg_left (by omega) (by omega)
  have h8 : n * 1 ≤ n * (r + 1) := Int.mul_le_mul_of_nonneg_left (by omega) (by omega)
  have h9 : 1 * (r + 1) ≤ n * (r + 1) := Int.mul_le_mul_of_nonneg_right (by omega) (by omega)
  rw [Int.mul_comm n (12 / n)] at h7
  unfold ClosP
  omega

theorem div_eq_iff' {i n v : Int} (hn : 0 < n) : i / n = v ↔ v * n ≤ i ∧ i < v * n + n := by
  constructor
  · rintro rfl
    have h1 := Int.ediv_mul_le i (b := n) (by omega)
    have h2 := Int.lt_ediv_add_one_mul_self i hn
    rw [Int.add_mul, Int.one_mul] at h2
    omega
  · rintro ⟨h1, h2⟩
    apply Int.le_antisymm
    · exact Int.lt_add_one_iff.1 (Int.ediv_lt_of_lt_mul hn (by rw [Int.add_mul, Int.one_mul]; exact h2))
    · exact Int.le_ediv_of_mul_le hn h1

/-- Numbers of the same n-block: at most n of them. -/
theorem block_le {n v : Int} (hn : 0 < n) (l : List Int) (hl : l.Nodup) (h : ∀ x ∈ l, x / n = v) : (l.length : Int) ≤ n := by
  have := List.Nodup.length_le_of_subset hl (l₂ := (List.range n.toNat).map fun i : Nat => v * n + (i : Int)) fun x hx => by
    have := (div_eq_iff' hn).1 (h x hx)
    exact List.mem_map.2 ⟨(x - v * n).toNat, List.mem_range.2 (by omega), by omega⟩
  rw [List.length_map, List.length_range] at this
  omega

theorem edgesF_getD {n : Int} {perm : List Int} {i : Nat} (h : i < perm.length) : (edgesF n perm).getD i (0, 0) = ((i : Int) / n, perm.getD i 0 / n) := by
  unfold edgesF edgesTo
  simp [List.getD, h]

theorem cntN_mono (a : Nat → Int) (v : Int) {j k : Nat} (h : j ≤ k) : cntN a v j ≤ cntN a v k := by
  induction k with
  | zero => rw [Nat.le_zero.1 h]; exact Nat.le_refl _
  | succ k ih =>
    by_cases e : j = k + 1
    · rw [e]; exact Nat.le_refl _
    · have := ih (by omega)
      rw [cntN_succ]; omega

section
variable {n r : Int} {perm : List Int}
theorem perm_degA (hn : 1 ≤ n) (v : Int) : (cntN (endA (edgesF n perm)) v perm.length : Int) ≤ n := by
  unfold cntN
  rw [List.countP_eq_length_filter]
  have := block_le (n := n) (v := v) (by omega) (((List.range perm.length).filter fun i => decide (endA (edgesF n perm) i = v)).map fun i : Nat => (i : Int)) (by
    refine List.pairwise_map.2 (List.Pairwise.imp ?_ (List.nodup_range.filter _))
    intro a b hab he
    exact hab (by omega)) (fun x hx => by
    obtain ⟨i, hi, rfl⟩ := List.mem_map.1 hx
    obtain ⟨h1, h2⟩ := List.mem_filter.1 hi
    have h2 : endA (edgesF n perm) i = v := by simpa using h2
    unfold endA at h2
    rw [edgesF_getD (List.mem_range.1 h1)] at h2
    exact h2)
  rwa [List.length_map] at this
theorem perm_degB (hn : 1 ≤ n) (hp : PermP perm (n * r)) (v : Int) : (cntN (endB (edgesF n perm)) v perm.length : Int) ≤ n := by
  unfold cntN
  rw [List.countP_eq_length_filter]
  obtain ⟨_, _, hnd⟩ := hp
  have := block_le (n := n) (v := v) (by omega) (((List.range perm.length).filter fun i => decide (endB (edgesF n perm) i = v)).map fun i : Nat => perm.getD i 0) (by
    refine List.pairwise_map.2 (List.Pairwise.imp_of_mem ?_ (List.nodup_range.filter _))
    intro a b ha hb hab he
    have h1 := List.mem_range.1 (List.mem_filter.1 ha).1
    have h2 := List.mem_range.1 (List.mem_filter.1 hb).1
    rw [List.getD_eq_getElem?_getD, List.getD_eq_getElem?_getD, List.getElem?_eq_getElem h1, List.getElem?_eq_getElem h2] at he
    simp only [Option.getD_some] at he
    exact hab ((List.getElem_inj hnd).1 he)) (fun x hx => by
    obtain ⟨i, hi, rfl⟩ := List.mem_map.1 hx
    obtain ⟨h1, h2⟩ := List.mem_filter.1 hi
    have h2 : endB (edgesF n perm) i = v := by simpa using h2
    unfold endB at h2
    rw [edgesF_getD (List.mem_range.1 h1)] at h2
    exact h2)
  rwa [List.length_map] at this
theorem perm_degA0 (hn : 1 ≤ n) (hr : 1 ≤ r) (hp : PermP perm (n * r)) : n ≤ (cntN (endA (edgesF n perm)) 0 perm.length : Int) := by
  unfold cntN
  rw [List.countP_eq_length_filter]
  obtain ⟨hl, _, _⟩ := hp
  have hnr : n * 1 ≤ n * r := Int.mul_le_mul_of_nonneg_left hr (by omega)
  have := List.Nodup.length_le_of_subset (l₁ := List.range n.toNat) (l₂ := (List.range perm.length).filter fun i => decide (endA (edgesF n perm) i = 0)) List.nodup_range fun i hi => by
    have hi' := List.mem_range.1 hi
    refine List.mem_filter.2 ⟨List.mem_range.2 (by omega), ?_⟩
    rw [decide_eq_true_eq]
    unfold endA
    rw [edgesF_getD (by omega)]
    exact Int.ediv_eq_zero_of_lt (by omega) (by omega)
  rw [List.length_range] at this
  omega
theorem perm_deg (hn : 1 ≤ n) (hr : 1 ≤ r) (hp : PermP perm (n * r)) : degF (edgesF n perm) = n := by
  have hl : (edgesF n perm).length = perm.length := edgesF_length _ _
  have h1 := (degTo_ge (edgesF n perm) perm.length (by omega) 0).1
  have h2 := perm_degA0 hn hr hp
  have he : degF (edgesF n perm) = (degTo (edgesF n perm) perm.length).2.2 := by unfold degF; rw [hl]
  apply Int.le_antisymm
  · rw [he]
    rcases degTo_at (edgesF n perm) perm.length (by omega) with h | ⟨v, j, hj, h⟩ | ⟨v, j, hj, h⟩
    · omega
    · have := perm_degA (perm := perm) hn v
      have hm : cntN (endA (edgesF n perm)) v j ≤ cntN (endA (edgesF n perm)) v perm.length := cntN_mono _ _ hj
      omega
    · have := perm_degB hn hp v
      have hm : cntN (endB (edgesF n perm)) v j ≤ cntN (endB (edgesF n perm)) v perm.length := cntN_mono _ _ hj
      omega
  · omega
end
end Go.SX.Pa
