/- Parts of the proof, one after the other: Pa18E. -/
import Derived.Test.YtfbgbdiajghnbaaDoorM9
/- Printed by VC.lean: what the executor asks. -/
namespace Go.SX.Pa
open Go Go.Proofs
theorem g68_eq (k : Int) (perm : List Int) : g68 k perm = (
 (k = (1 : Int) →
 k = (1 : Int) ∧
 ((0 : Int) ≤ (0 : Int) ∧ (0 : Int) < (↑perm.length : Int)) ∧
 [IntKind.u8.wrap ((48 : Int) + IntKind.u8.wrap (perm.getD (Int.toNat (0 : Int)) (0 : Int)))] = setF k.toNat perm) ∧
 (¬k = (1 : Int) →
 ¬k = (1 : Int) ∧
 ((0 : Int) ≤ k ∧ k < (64 : Int)) ∧
 Fits IntKind.i64 ((1 : Int) * (2 : Int) ^ k.toNat) ∧
 ((0 : Int) ≤ (1 : Int) * (2 : Int) ^ k.toNat ∧ (1 : Int) * (2 : Int) ^ k.toNat ≤ (1 : Int) * (2 : Int) ^ k.toNat ∧ Small ((1 : Int) * (2 : Int) ^ k.toNat).toNat) ∧
 (∃ (x0 : Nat),
 x0 ≤ nK k ∧
 (List.replicate ((1 : Int) * (2 : Int) ^ k.toNat).toNat (0 : Int) = frK k perm x0 ∧ True) ∧
 (0 : Int) = (↑x0 : Int) ∧
 (↑perm.length : Int) = (↑perm.length : Int) ∧
 perm = perm ∧ True ∧ (1 : Int) * (2 : Int) ^ k.toNat = (1 : Int) * (2 : Int) ^ k.toNat ∧ k = k ∧ perm = perm ∧ True) ∧
 ∀ (x : Nat),
 x ≤ nK k →
 ((↑x : Int) < (↑perm.length : Int) →
 (↑x : Int) < (↑perm.length : Int) ∧
 ((0 : Int) ≤ (↑x : Int) ∧ (↑x : Int) < (↑perm.length : Int)) ∧
 ((0 : Int) ≤ perm.getD (↑x : Int).toNat (0 : Int) ∧ perm.getD (↑x : Int).toNat (0 : Int) < (↑(frK k perm x).length : Int)) ∧
 Fits IntKind.i64 ((↑x : Int) + (1 : Int)) ∧
 ∃ (x' : Nat),
 x' ≤ nK k ∧
 nK k - x' < nK k - x ∧
 ((frK k perm x).set (perm.getD (↑x : Int).toNat (0 : Int)).toNat (↑x : Int) = frK k perm x' ∧ True) ∧
 (↑x : Int) + (1 : Int) = (↑x' : Int) ∧
 (↑perm.length : Int) = (↑perm.length : Int) ∧
 perm = perm ∧ True ∧ (1 : Int) * (2 : Int) ^ k.toNat = (1 : Int) * (2 : Int) ^ k.toNat ∧ k = k ∧ perm = perm ∧ True) ∧
 (¬(↑x : Int) < (↑perm.length : Int) →
 ¬(↑x : Int) < (↑perm.length : Int) ∧
 ((0 : Int) ≤ (1 : Int) * (2 : Int) ^ k.toNat ∧
 (1 : Int) * (2 : Int) ^ k.toNat ≤ (1 : Int) * (2 : Int) ^ k.toNat ∧ Small ((1 : Int) * (2 : Int) ^ k.toNat).toNat) ∧
 ((0 : Int) ≤ (1 : Int) * (2 : Int) ^ k.toNat ∧
 (1 : Int) * (2 : Int) ^ k.toNat ≤ (1 : Int) * (2 : Int) ^ k.toNat ∧ Small ((1 : Int) * (2 : Int) ^ k.toNat).toNat) ∧
 (∃ (x0 : Nat),
 x0 ≤ nK k ∧
 (frK k perm x = frK k perm x ∧
 List.replicate ((1 : Int) * (2 : Int) ^ k.toNat).toNat (0 : Int) = ptK k perm x0 ∧
 List.replicate ((1 : Int) * (2 : Int) ^ k.toNat).toNat false = dnK k perm x0 ∧ True) ∧
 (0 : Int) = (↑x0 : Int) ∧
 (1 : Int) * (2 : Int) ^ k.toNat = (1 : Int) * (2 : Int) ^ k.toNat ∧
 True ∧ True ∧ True ∧ (1 : Int) * (2 : Int) ^ k.toNat = (1 : Int) * (2 : Int) ^ k.toNat ∧ k = k ∧ perm = perm ∧ True) ∧
 ∀ (x_1 : Nat),
 x_1 ≤ nK k →
 ((↑x_1 : Int) < (1 : Int) * (2 : Int) ^ k.toNat →
 (↑x_1 : Int) < (1 : Int) * (2 : Int) ^ k.toNat ∧
 (∃ (x0 : Nat),
 (∀ (i : Nat), i < x0 → (wkK k perm (↑x_1 : Int) i).fst.getD (wkK k perm (↑x_1 : Int) i).snd.snd false = false) ∧
 (frK k perm x = frK k perm x ∧
 ptK k perm x_1 = (wkK k perm (↑x_1 : Int) x0).snd.fst ∧ dnK k perm x_1 = (wkK k perm (↑x_1 : Int) x0).fst ∧ True) ∧
 (↑x_1 : Int) = (↑(wkK k perm (↑x_1 : Int) x0).snd.snd : Int) ∧
 (↑x_1 : Int) = (↑x_1 : Int) ∧
 (↑x_1 : Int) = (↑x_1 : Int) ∧
 (1 : Int) * (2 : Int) ^ k.toNat = (1 : Int) * (2 : Int) ^ k.toNat ∧
 True ∧ True ∧ True ∧ (1 : Int) * (2 : Int) ^ k.toNat = (1 : Int) * (2 : Int) ^ k.toNat ∧ k = k ∧ perm = perm ∧ True) ∧
 ∀ (x_2 : Nat),
 (∀ (i : Nat), i < x_2 → (wkK k perm (↑x_1 : Int) i).fst.getD (wkK k perm (↑x_1 : Int) i).snd.snd false = false) →
 ((0 : Int) ≤ (↑(wkK k perm (↑x_1 : Int) x_2).snd.snd : Int) ∧
 (↑(wkK k perm (↑x_1 : Int) x_2).snd.snd : Int) < (↑(wkK k perm (↑x_1 : Int) x_2).fst.length : Int)) ∧
 ((!(wkK k perm (↑x_1 : Int) x_2).fst.getD (↑(wkK k perm (↑x_1 : Int) x_2).snd.snd : Int).toNat false) = true →
 (!(wkK k perm (↑x_1 : Int) x_2).fst.getD (↑(wkK k perm (↑x_1 : Int) x_2).snd.snd : Int).toNat false) = true ∧
 ((0 : Int) ≤ (↑(wkK k perm (↑x_1 : Int) x_2).snd.snd : Int) ∧
 (↑(wkK k perm (↑x_1 : Int) x_2).snd.snd : Int) < (↑(wkK k perm (↑x_1 : Int) x_2).fst.length : Int)) ∧
 ((0 : Int) ≤ (↑(wkK k perm (↑x_1 : Int) x_2).snd.snd : Int) ∧
 (↑(wkK k perm (↑x_1 : Int) x_2).snd.snd : Int) < (↑(wkK k perm (↑x_1 : Int) x_2).snd.fst.length : Int)) ∧
 ((0 : Int) ≤ bitsF BinOp.xor IntKind.i64 (↑(wkK k perm (↑x_1 : Int) x_2).snd.snd : Int) (1 : Int) ∧
 bitsF BinOp.xor IntKind.i64 (↑(wkK k perm (↑x_1 : Int) x_2).snd.snd : Int) (1 : Int) <
 (↑((wkK k perm (↑x_1 : Int) x_2).fst.set (↑(wkK k perm (↑x_1 : Int) x_2).snd.snd : Int).toNat true).length : Int)) ∧
 ((0 : Int) ≤ bitsF BinOp.xor IntKind.i64 (↑(wkK k perm (↑x_1 : Int) x_2).snd.snd : Int) (1 : Int) ∧
 bitsF BinOp.xor IntKind.i64 (↑(wkK k perm (↑x_1 : Int) x_2).snd.snd : Int) (1 : Int) <
 (↑((wkK k perm (↑x_1 : Int) x_2).snd.fst.set (↑(wkK k perm (↑x_1 : Int) x_2).snd.snd : Int).toNat
 (0 : Int)).length :
 Int)) ∧
 ((0 : Int) ≤ bitsF BinOp.xor IntKind.i64 (↑(wkK k perm (↑x_1 : Int) x_2).snd.snd : Int) (1 : Int) ∧
 bitsF BinOp.xor IntKind.i64 (↑(wkK k perm (↑x_1 : Int) x_2).snd.snd : Int) (1 : Int) < (↑perm.length : Int)) ∧
 ((0 : Int) ≤
 bitsF BinOp.xor IntKind.i64
 (perm.getD (bitsF BinOp.xor IntKind.i64 (↑(wkK k perm (↑x_1 : Int) x_2).snd.snd : Int) (1 : Int)).toNat
 (0 : Int))
 (1 : Int) ∧
 bitsF BinOp.xor IntKind.i64
 (perm.getD (bitsF BinOp.xor IntKind.i64 (↑(wkK k perm (↑x_1 : Int) x_2).snd.snd : Int) (1 : Int)).toNat
 (0 : Int))
 (1 : Int) <
 (↑(frK k perm x).length : Int)) ∧
 ∃ (x' : Nat),
 (∀ (i : Nat), i < x' → (wkK k perm (↑x_1 : Int) i).fst.getD (wkK k perm (↑x_1 : Int) i).snd.snd false = false) ∧
 undone (wkK k perm (↑x_1 : Int) x').fst < undone (wkK k perm (↑x_1 : Int) x_2).fst ∧
 (frK k perm x = frK k perm x ∧
 ((wkK k perm (↑x_1 : Int) x_2).snd.fst.set (↑(wkK k perm (↑x_1 : Int) x_2).snd.snd : Int).toNat
 (0 : Int)).set
 (bitsF BinOp.xor IntKind.i64 (↑(wkK k perm (↑x_1 : Int) x_2).snd.snd : Int) (1 : Int)).toNat
 (1 : Int) =
 (wkK k perm (↑x_1 : Int) x').snd.fst ∧
 ((wkK k perm (↑x_1 : Int) x_2).fst.set (↑(wkK k perm (↑x_1 : Int) x_2).snd.snd : Int).toNat true).set
 (bitsF BinOp.xor IntKind.i64 (↑(wkK k perm (↑x_1 : Int) x_2).snd.snd : Int) (1 : Int)).toNat
 true =
 (wkK k perm (↑x_1 : Int) x').fst ∧
 True) ∧
 (frK k perm x).getD
 (bitsF BinOp.xor IntKind.i64
 (perm.getD
 (bitsF BinOp.xor IntKind.i64 (↑(wkK k perm (↑x_1 : Int) x_2).snd.snd : Int) (1 : Int)).toNat
 (0 : Int))
 (1 : Int)).toNat
 (0 : Int) =
 (↑(wkK k perm (↑x_1 : Int) x').snd.snd : Int) ∧
 (↑x_1 : Int) = (↑x_1 : Int) ∧
 (↑x_1 : Int) = (↑x_1 : Int) ∧
 (1 : Int) * (2 : Int) ^ k.toNat = (1 : Int) * (2 : Int) ^ k.toNat ∧
 True ∧
 True ∧
 True ∧
 (1 : Int) * (2 : Int) ^ k.toNat = (1 : Int) * (2 : Int) ^ k.toNat ∧
 k = k ∧ perm = perm ∧ True) ∧
 ((!(wkK k perm (↑x_1 : Int) x_2).fst.getD (↑(wkK k perm (↑x_1 : Int) x_2).snd.snd : Int).toNat false) = false →
 (!(wkK k perm (↑x_1 : Int) x_2).fst.getD (↑(wkK k perm (↑x_1 : Int) x_2).snd.snd : Int).toNat false) = false ∧
 Fits IntKind.i64 ((↑x_1 : Int) + (1 : Int)) ∧
 ∃ (x' : Nat),
 x' ≤ nK k ∧
 nK k - x' < nK k - x_1 ∧
 (frK k perm x = frK k perm x ∧
 (wkK k perm (↑x_1 : Int) x_2).snd.fst = ptK k perm x' ∧
 (wkK k perm (↑x_1 : Int) x_2).fst = dnK k perm x' ∧ True) ∧
 (↑x_1 : Int) + (1 : Int) = (↑x' : Int) ∧
 (1 : Int) * (2 : Int) ^ k.toNat = (1 : Int) * (2 : Int) ^ k.toNat ∧
 True ∧
 True ∧
 True ∧ (1 : Int) * (2 : Int) ^ k.toNat = (1 : Int) * (2 : Int) ^ k.toNat ∧ k = k ∧ perm = perm ∧ True)) ∧
 (¬(↑x_1 : Int) < (1 : Int) * (2 : Int) ^ k.toNat →
 ¬(↑x_1 : Int) < (1 : Int) * (2 : Int) ^ k.toNat ∧
 ((0 : Int) ≤ (1 : Int) * (2 : Int) ^ k.toNat ∧ (0 : Int) < (2 : Int)) ∧
 Fits IntKind.i64 ((1 : Int) * (2 : Int) ^ k.toNat / (2 : Int)) ∧
 ((0 : Int) ≤ (1 : Int) * (2 : Int) ^ k.toNat ∧ (0 : Int) < (2 : Int)) ∧
 Fits IntKind.i64 ((1 : Int) * (2 : Int) ^ k.toNat / (2 : Int)) ∧
 (((0 : Int) ≤ (1 : Int) * (2 : Int) ^ k.toNat / (2 : Int) ∧
 (1 : Int) * (2 : Int) ^ k.toNat / (2 : Int) ≤ (1 : Int) * (2 : Int) ^ k.toNat / (2 : Int) ∧
 Small ((1 : Int) * (2 : Int) ^ k.toNat / (2 : Int)).toNat) ∧
 ((0 : Int) ≤ (1 : Int) * (2 : Int) ^ k.toNat / (2 : Int) ∧
 (1 : Int) * (2 : Int) ^ k.toNat / (2 : Int) ≤ (1 : Int) * (2 : Int) ^ k.toNat / (2 : Int) ∧
 Small ((1 : Int) * (2 : Int) ^ k.toNat / (2 : Int)).toNat) ∧
 ((0 : Int) ≤ (1 : Int) * (2 : Int) ^ k.toNat ∧ (0 : Int) < (2 : Int)) ∧
 Fits IntKind.i64 ((1 : Int) * (2 : Int) ^ k.toNat / (2 : Int)) ∧
 ((0 : Int) ≤ (1 : Int) * (2 : Int) ^ k.toNat ∧ (0 : Int) < (2 : Int)) ∧
 Fits IntKind.i64 ((1 : Int) * (2 : Int) ^ k.toNat / (2 : Int)) ∧
 (((0 : Int) ≤ (1 : Int) * (2 : Int) ^ k.toNat / (2 : Int) ∧
 (1 : Int) * (2 : Int) ^ k.toNat / (2 : Int) ≤ (1 : Int) * (2 : Int) ^ k.toNat / (2 : Int) ∧
 Small ((1 : Int) * (2 : Int) ^ k.toNat / (2 : Int)).toNat) ∧
 (((0 : Int) ≤ (1 : Int) * (2 : Int) ^ k.toNat / (2 : Int) ∧
 (1 : Int) * (2 : Int) ^ k.toNat / (2 : Int) ≤ (1 : Int) * (2 : Int) ^ k.toNat / (2 : Int) ∧
 Small ((1 : Int) * (2 : Int) ^ k.toNat / (2 : Int)).toNat) ∧
 (∃ (x0 : Nat),
 x0 ≤ nK k ∧
 (True ∧
 ptK k perm x_1 = ptK k perm x_1 ∧
 True ∧
 List.replicate ((1 : Int) * (2 : Int) ^ k.toNat / (2 : Int)).toNat (0 : Int) = fsK k perm x0 ∧
 List.replicate ((1 : Int) * (2 : Int) ^ k.toNat / (2 : Int)).toNat (0 : Int) = lsK k perm x0 ∧
 List.replicate ((1 : Int) * (2 : Int) ^ k.toNat / (2 : Int)).toNat (0 : Int) =
 iaK k perm x0 ∧
 List.replicate ((1 : Int) * (2 : Int) ^ k.toNat / (2 : Int)).toNat (0 : Int) =
 ibK k perm x0 ∧
 (True ∧ True ∧ True) ∧ True) ∧
 (0 : Int) = (↑x0 : Int) ∧
 (↑perm.length : Int) = (↑perm.length : Int) ∧
 perm = perm ∧ True ∧ True ∧ True ∧ True ∧ k = k ∧ perm = perm ∧ True) ∧
 ∀ (x : Nat),
 x ≤ nK k →
 ((↑x : Int) < (↑perm.length : Int) →
 (↑x : Int) < (↑perm.length : Int) ∧
 ((0 : Int) ≤ (↑x : Int) ∧ (↑x : Int) < (↑perm.length : Int)) ∧
 ((0 : Int) ≤ (↑x : Int) ∧ (↑x : Int) < (↑(ptK k perm x_1).length : Int)) ∧
 ((0 : Int) ≤ (ptK k perm x_1).getD (↑x : Int).toNat (0 : Int) ∧
 (ptK k perm x_1).getD (↑x : Int).toNat (0 : Int) < (↑(2 : Nat) : Int)) ∧
 (True ∧
 ((ptK k perm x_1).getD (↑x : Int).toNat (0 : Int) = (↑(0 : Nat) : Int) →
 ((0 : Int) ≤ (↑x : Int) ∧ (0 : Int) < (2 : Int)) ∧
 Fits IntKind.i64 ((↑x : Int) / (2 : Int)) ∧
 ((0 : Int) ≤ perm.getD (↑x : Int).toNat (0 : Int) ∧ (0 : Int) < (2 : Int)) ∧
 Fits IntKind.i64 (perm.getD (↑x : Int).toNat (0 : Int) / (2 : Int)) ∧
 ((0 : Int) ≤ (↑x : Int) / (2 : Int) ∧
 (↑x : Int) / (2 : Int) < (↑(iaK k perm x).length : Int)) ∧
 ((0 : Int) ≤ (↑x : Int) ∧ (0 : Int) < (2 : Int)) ∧
 ((↑x : Int) % (2 : Int) = (0 : Int) →
 (↑x : Int) % (2 : Int) = (0 : Int) ∧
 ((0 : Int) ≤ (↑x : Int) ∧ (0 : Int) < (2 : Int)) ∧
 Fits IntKind.i64 ((↑x : Int) / (2 : Int)) ∧
 ((0 : Int) ≤ (↑x : Int) ∧
 (↑x : Int) < (↑(ptK k perm x_1).length : Int)) ∧
 ((0 : Int) ≤ (↑x : Int) / (2 : Int) ∧
 (↑x : Int) / (2 : Int) < (↑(fsK k perm x).length : Int)) ∧
 ((0 : Int) ≤ perm.getD (↑x : Int).toNat (0 : Int) ∧
 (0 : Int) < (2 : Int)) ∧
 (perm.getD (↑x : Int).toNat (0 : Int) % (2 : Int) =
 (0 : Int) →
 perm.getD (↑x : Int).toNat (0 : Int) % (2 : Int) =
 (0 : Int) ∧
 ((0 : Int) ≤ perm.getD (↑x : Int).toNat (0 : Int) ∧
 (0 : Int) < (2 : Int)) ∧
 Fits IntKind.i64
 (perm.getD (↑x : Int).toNat (0 : Int) /
 (2 : Int)) ∧
 ((0 : Int) ≤ (↑x : Int) ∧
 (↑x : Int) <
 (↑(ptK k perm x_1).length : Int)) ∧
 ((0 : Int) ≤
 perm.getD (↑x : Int).toNat (0 : Int) /
 (2 : Int) ∧
 perm.getD (↑x : Int).toNat (0 : Int) /
 (2 : Int) <
 (↑(lsK k perm x).length : Int)) ∧
 Fits IntKind.i64 ((↑x : Int) + (1 : Int)) ∧
 ∃ (x' : Nat),
 x' ≤ nK k ∧
 nK k - x' < nK k - x ∧
 (True ∧
 ptK k perm x_1 =
 ptK k perm x_1 ∧
 True ∧
 (fsK k perm x).set
 ((↑x : Int) /
 (2 : Int)).toNat
 (IntKind.u8.wrap
 ((48 : Int) +
 IntKind.u8.wrap
 ((ptK k perm
 x_1).getD
 (↑x :
 Int).toNat
 (0 : Int)))) =
 fsK k perm x' ∧
 (lsK k perm x).set
 (perm.getD
 (↑x :
 Int).toNat
 (0 : Int) /
 (2 : Int)).toNat
 (IntKind.u8.wrap
 ((48 : Int) +
 IntKind.u8.wrap
 ((ptK k perm
 x_1).getD
 (↑x :
 Int).toNat
 (0 :
 Int)))) =
 lsK k perm x' ∧
 (iaK k perm x).set
 ((↑x : Int) /
 (2 :
 Int)).toNat
 (perm.getD
 (↑x :
 Int).toNat
 (0 : Int) /
 (2 : Int)) =
 iaK k perm x' ∧
 ibK k perm x =
 ibK k perm x' ∧
 (True ∧
 True ∧ True) ∧
 True) ∧
 (↑x : Int) + (1 : Int) =
 (↑x' : Int) ∧
 (↑perm.length : Int) =
 (↑perm.length : Int) ∧
 perm = perm ∧
 True ∧
 True ∧
 True ∧
 True ∧
 k = k ∧
 perm = perm ∧
 True) ∧
 (¬perm.getD (↑x : Int).toNat (0 : Int) % (2 : Int) =
 (0 : Int) →
 ¬perm.getD (↑x : Int).toNat (0 : Int) % (2 : Int) =
 (0 : Int) ∧
 Fits IntKind.i64 ((↑x : Int) + (1 : Int)) ∧
 ∃ (x' : Nat),
 x' ≤ nK k ∧
 nK k - x' < nK k - x ∧
 (True ∧
 ptK k perm x_1 = ptK k perm x_1 ∧
 True ∧
 (fsK k perm x).set
 ((↑x : Int) / (2 : Int)).toNat
 (IntKind.u8.wrap
 ((48 : Int) +
 IntKind.u8.wrap
 ((ptK k perm x_1).getD
 (↑x : Int).toNat
 (0 : Int)))) =
 fsK k perm x' ∧
 lsK k perm x = lsK k perm x' ∧
 (iaK k perm x).set
 ((↑x : Int) /
 (2 : Int)).toNat
 (perm.getD
 (↑x : Int).toNat
 (0 : Int) /
 (2 : Int)) =
 iaK k perm x' ∧
 ibK k perm x = ibK k perm x' ∧
 (True ∧ True ∧ True) ∧
 True) ∧
 (↑x : Int) + (1 : Int) = (↑x' : Int) ∧
 (↑perm.length : Int) =
 (↑perm.length : Int) ∧
 perm = perm ∧
 True ∧
 True ∧
 True ∧
 True ∧
 k = k ∧
 perm = perm ∧ True)) ∧
 (¬(↑x : Int) % (2 : Int) = (0 : Int) →
 ¬(↑x : Int) % (2 : Int) = (0 : Int) ∧
 ((0 : Int) ≤ perm.getD (↑x : Int).toNat (0 : Int) ∧
 (0 : Int) < (2 : Int)) ∧
 (perm.getD (↑x : Int).toNat (0 : Int) % (2 : Int) = (0 : Int) →
 perm.getD (↑x : Int).toNat (0 : Int) % (2 : Int) = (0 : Int) ∧
 ((0 : Int) ≤ perm.getD (↑x : Int).toNat (0 : Int) ∧
 (0 : Int) < (2 : Int)) ∧
 Fits IntKind.i64
 (perm.getD (↑x : Int).toNat (0 : Int) / (2 : Int)) ∧
 ((0 : Int) ≤ (↑x : Int) ∧
 (↑x : Int) < (↑(ptK k perm x_1).length : Int)) ∧
 ((0 : Int) ≤
 perm.getD (↑x : Int).toNat (0 : Int) /
 (2 : Int) ∧
 perm.getD (↑x : Int).toNat (0 : Int) / (2 : Int) <
 (↑(lsK k perm x).length : Int)) ∧
 Fits IntKind.i64 ((↑x : Int) + (1 : Int)) ∧
 ∃ (x' : Nat),
 x' ≤ nK k ∧
 nK k - x' < nK k - x ∧
 (True ∧
 ptK k perm x_1 = ptK k perm x_1 ∧
 True ∧
 fsK k perm x = fsK k perm x' ∧
 (lsK k perm x).set
 (perm.getD (↑x : Int).toNat
 (0 : Int) /
 (2 : Int)).toNat
 (IntKind.u8.wrap
 ((48 : Int) +
 IntKind.u8.wrap
 ((ptK k perm x_1).getD
 (↑x : Int).toNat
 (0 : Int)))) =
 lsK k perm x' ∧
 (iaK k perm x).set
 ((↑x : Int) /
 (2 : Int)).toNat
 (perm.getD
 (↑x : Int).toNat
 (0 : Int) /
 (2 : Int)) =
 iaK k perm x' ∧
 ibK k perm x = ibK k perm x' ∧
 (True ∧ True ∧ True) ∧
 True) ∧
 (↑x : Int) + (1 : Int) = (↑x' : Int) ∧
 (↑perm.length : Int) =
 (↑perm.length : Int) ∧
 perm = perm ∧
 True ∧
 True ∧
 True ∧
 True ∧
 k = k ∧
 perm = perm ∧ True) ∧
 (¬perm.getD (↑x : Int).toNat (0 : Int) % (2 : Int) = (0 : Int) →
 ¬perm.getD (↑x : Int).toNat (0 : Int) % (2 : Int) =
 (0 : Int) ∧
 Fits IntKind.i64 ((↑x : Int) + (1 : Int)) ∧
 ∃ (x' : Nat),
 x' ≤ nK k ∧
 nK k - x' < nK k - x ∧
 (True ∧
 ptK k perm x_1 = ptK k perm x_1 ∧
 True ∧
 fsK k perm x = fsK k perm x' ∧
 lsK k perm x = lsK k perm x' ∧
 (iaK k perm x).set
 ((↑x : Int) / (2 : Int)).toNat
 (perm.getD (↑x : Int).toNat
 (0 : Int) /
 (2 : Int)) =
 iaK k perm x' ∧
 ibK k perm x = ibK k perm x' ∧
 (True ∧ True ∧ True) ∧ True) ∧
 (↑x : Int) + (1 : Int) = (↑x' : Int) ∧
 (↑perm.length : Int) = (↑perm.length : Int) ∧
 perm = perm ∧
 True ∧
 True ∧
 True ∧
 True ∧
 k = k ∧ perm = perm ∧ True)))) ∧
 ((ptK k perm x_1).getD (↑x : Int).toNat (0 : Int) = (↑(1 : Nat) : Int) →
 ((0 : Int) ≤ (↑x : Int) ∧ (0 : Int) < (2 : Int)) ∧
 Fits IntKind.i64 ((↑x : Int) / (2 : Int)) ∧
 ((0 : Int) ≤ perm.getD (↑x : Int).toNat (0 : Int) ∧ (0 : Int) < (2 : Int)) ∧
 Fits IntKind.i64 (perm.getD (↑x : Int).toNat (0 : Int) / (2 : Int)) ∧
 ((0 : Int) ≤ (↑x : Int) / (2 : Int) ∧
 (↑x : Int) / (2 : Int) < (↑(ibK k perm x).length : Int)) ∧
 ((0 : Int) ≤ (↑x : Int) ∧ (0 : Int) < (2 : Int)) ∧
 ((↑x : Int) % (2 : Int) = (0 : Int) →
 (↑x : Int) % (2 : Int) = (0 : Int) ∧
 ((0 : Int) ≤ (↑x : Int) ∧ (0 : Int) < (2 : Int)) ∧
 Fits IntKind.i64 ((↑x : Int) / (2 : Int)) ∧
 ((0 : Int) ≤ (↑x : Int) ∧
 (↑x : Int) < (↑(ptK k perm x_1).length : Int)) ∧
 ((0 : Int) ≤ (↑x : Int) / (2 : Int) ∧
 (↑x : Int) / (2 : Int) < (↑(fsK k perm x).length : Int)) ∧
 ((0 : Int) ≤ perm.getD (↑x : Int).toNat (0 : Int) ∧
 (0 : Int) < (2 : Int)) ∧
 (perm.getD (↑x : Int).toNat (0 : Int) % (2 : Int) =
 (0 : Int) →
 perm.getD (↑x : Int).toNat (0 : Int) % (2 : Int) =
 (0 : Int) ∧
 ((0 : Int) ≤ perm.getD (↑x : Int).toNat (0 : Int) ∧
 (0 : Int) < (2 : Int)) ∧
 Fits IntKind.i64
 (perm.getD (↑x : Int).toNat (0 : Int) /
 (2 : Int)) ∧
 ((0 : Int) ≤ (↑x : Int) ∧
 (↑x : Int) <
 (↑(ptK k perm x_1).length : Int)) ∧
 ((0 : Int) ≤
 perm.getD (↑x : Int).toNat (0 : Int) /
 (2 : Int) ∧
 perm.getD (↑x : Int).toNat (0 : Int) /
 (2 : Int) <
 (↑(lsK k perm x).length : Int)) ∧
 Fits IntKind.i64 ((↑x : Int) + (1 : Int)) ∧
 ∃ (x' : Nat),
 x' ≤ nK k ∧
 nK k - x' < nK k - x ∧
 (True ∧
 ptK k perm x_1 = ptK k perm x_1 ∧
 True ∧
 (fsK k perm x).set
 ((↑x : Int) /
 (2 : Int)).toNat
 (IntKind.u8.wrap
 ((48 : Int) +
 IntKind.u8.wrap
 ((ptK k perm
 x_1).getD
 (↑x : Int).toNat
 (0 : Int)))) =
 fsK k perm x' ∧
 (lsK k perm x).set
 (perm.getD
 (↑x : Int).toNat
 (0 : Int) /
 (2 : Int)).toNat
 (IntKind.u8.wrap
 ((48 : Int) +
 IntKind.u8.wrap
 ((ptK k perm
 x_1).getD
 (↑x :
 Int).toNat
 (0 : Int)))) =
 lsK k perm x' ∧
 iaK k perm x =
 iaK k perm x' ∧
 (ibK k perm x).set
 ((↑x : Int) /
 (2 :
 Int)).toNat
 (perm.getD
 (↑x :
 Int).toNat
 (0 : Int) /
 (2 : Int)) =
 ibK k perm x' ∧
 (True ∧ True ∧ True) ∧
 True) ∧
 (↑x : Int) + (1 : Int) =
 (↑x' : Int) ∧
 (↑perm.length : Int) =
 (↑perm.length : Int) ∧
 perm = perm ∧
 True ∧
 True ∧
 True ∧
 True ∧
 k = k ∧
 perm = perm ∧
 True) ∧
 (¬perm.getD (↑x : Int).toNat (0 : Int) % (2 : Int) =
 (0 : Int) →
 ¬perm.getD (↑x : Int).toNat (0 : Int) % (2 : Int) =
 (0 : Int) ∧
 Fits IntKind.i64 ((↑x : Int) + (1 : Int)) ∧
 ∃ (x' : Nat),
 x' ≤ nK k ∧
 nK k - x' < nK k - x ∧
 (True ∧
 ptK k perm x_1 = ptK k perm x_1 ∧
 True ∧
 (fsK k perm x).set
 ((↑x : Int) / (2 : Int)).toNat
 (IntKind.u8.wrap
 ((48 : Int) +
 IntKind.u8.wrap
 ((ptK k perm x_1).getD
 (↑x : Int).toNat
 (0 : Int)))) =
 fsK k perm x' ∧
 lsK k perm x = lsK k perm x' ∧
 iaK k perm x = iaK k perm x' ∧
 (ibK k perm x).set
 ((↑x : Int) /
 (2 : Int)).toNat
 (perm.getD
 (↑x : Int).toNat
 (0 : Int) /
 (2 : Int)) =
 ibK k perm x' ∧
 (True ∧ True ∧ True) ∧ True) ∧
 (↑x : Int) + (1 : Int) = (↑x' : Int) ∧
 (↑perm.length : Int) =
 (↑perm.length : Int) ∧
 perm = perm ∧
 True ∧
 True ∧
 True ∧
 True ∧
 k = k ∧ perm = perm ∧ True)) ∧
 (¬(↑x : Int) % (2 : Int) = (0 : Int) →
 ¬(↑x : Int) % (2 : Int) = (0 : Int) ∧
 ((0 : Int) ≤ perm.getD (↑x : Int).toNat (0 : Int) ∧
 (0 : Int) < (2 : Int)) ∧
 (perm.getD (↑x : Int).toNat (0 : Int) % (2 : Int) = (0 : Int) →
 perm.getD (↑x : Int).toNat (0 : Int) % (2 : Int) = (0 : Int) ∧
 ((0 : Int) ≤ perm.getD (↑x : Int).toNat (0 : Int) ∧
 (0 : Int) < (2 : Int)) ∧
 Fits IntKind.i64
 (perm.getD (↑x : Int).toNat (0 : Int) / (2 : Int)) ∧
 ((0 : Int) ≤ (↑x : Int) ∧
 (↑x : Int) < (↑(ptK k perm x_1).length : Int)) ∧
 ((0 : Int) ≤
 perm.getD (↑x : Int).toNat (0 : Int) / (2 : Int) ∧
 perm.getD (↑x : Int).toNat (0 : Int) / (2 : Int) <
 (↑(lsK k perm x).length : Int)) ∧
 Fits IntKind.i64 ((↑x : Int) + (1 : Int)) ∧
 ∃ (x' : Nat),
 x' ≤ nK k ∧
 nK k - x' < nK k - x ∧
 (True ∧
 ptK k perm x_1 = ptK k perm x_1 ∧
 True ∧
 fsK k perm x = fsK k perm x' ∧
 (lsK k perm x).set
 (perm.getD (↑x : Int).toNat
 (0 : Int) /
 (2 : Int)).toNat
 (IntKind.u8.wrap
 ((48 : Int) +
 IntKind.u8.wrap
 ((ptK k perm x_1).getD
 (↑x : Int).toNat
 (0 : Int)))) =
 lsK k perm x' ∧
 iaK k perm x = iaK k perm x' ∧
 (ibK k perm x).set
 ((↑x : Int) /
 (2 : Int)).toNat
 (perm.getD
 (↑x : Int).toNat
 (0 : Int) /
 (2 : Int)) =
 ibK k perm x' ∧
 (True ∧ True ∧ True) ∧ True) ∧
 (↑x : Int) + (1 : Int) = (↑x' : Int) ∧
 (↑perm.length : Int) =
 (↑perm.length : Int) ∧
 perm = perm ∧
 True ∧
 True ∧
 True ∧
 True ∧
 k = k ∧ perm = perm ∧ True) ∧
 (¬perm.getD (↑x : Int).toNat (0 : Int) % (2 : Int) = (0 : Int) →
 ¬perm.getD (↑x : Int).toNat (0 : Int) % (2 : Int) = (0 : Int) ∧
 Fits IntKind.i64 ((↑x : Int) + (1 : Int)) ∧
 ∃ (x' : Nat),
 x' ≤ nK k ∧
 nK k - x' < nK k - x ∧
 (True ∧
 ptK k perm x_1 = ptK k perm x_1 ∧
 True ∧
 fsK k perm x = fsK k perm x' ∧
 lsK k perm x = lsK k perm x' ∧
 iaK k perm x = iaK k perm x' ∧
 (ibK k perm x).set
 ((↑x : Int) / (2 : Int)).toNat
 (perm.getD (↑x : Int).toNat
 (0 : Int) /
 (2 : Int)) =
 ibK k perm x' ∧
 (True ∧ True ∧ True) ∧ True) ∧
 (↑x : Int) + (1 : Int) = (↑x' : Int) ∧
 (↑perm.length : Int) = (↑perm.length : Int) ∧
 perm = perm ∧
 True ∧
 True ∧
 True ∧
 True ∧ k = k ∧ perm = perm ∧ True)))) ∧
 (¬(↑x : Int) < (↑perm.length : Int) →
 ¬(↑x : Int) < (↑perm.length : Int) ∧
 ((1 : Int) ≤ k ∧ k ≤ (3 : Int)) ∧
 ((0 : Int) ≤ switchesF k ∧ switchesF k ≤ switchesF k ∧ Small (switchesF k).toNat) ∧
 ((0 : Int) ≤
 (↑(min ((List.replicate (switchesF k).toNat (0 : Int)).length - (0 : Nat))
 (fsK k perm x).length) :
 Int) ∧
 (↑(min ((List.replicate (switchesF k).toNat (0 : Int)).length - (0 : Nat))
 (fsK k perm x).length) :
 Int) ≤
 (↑(layF (List.replicate (switchesF k).toNat (0 : Int)) (0 : Nat)
 (List.take ((List.replicate (switchesF k).toNat (0 : Int)).length - (0 : Nat))
 (fsK k perm x))).length :
 Int)) ∧
 (∃ (x0 : Nat),
 x0 ≤ (2 : Nat) ∧
 (True ∧
 True ∧
 True ∧
 fsK k perm x = fsK k perm x ∧
 lsK k perm x = lsK k perm x ∧
 True ∧
 True ∧
 True ∧
 layF (List.replicate (switchesF k).toNat (0 : Int)) (0 : Nat)
 (List.take
 ((List.replicate (switchesF k).toNat (0 : Int)).length -
 (0 : Nat))
 (fsK k perm x)) =
 otK k perm x0 ∧
 True) ∧
 (0 : Int) = (↑x0 : Int) ∧
 ((↑(min ((List.replicate (switchesF k).toNat (0 : Int)).length - (0 : Nat))
 (fsK k perm x).length) :
 Int).toNat =
 plK k x0 ∧
 (layF (List.replicate (switchesF k).toNat (0 : Int)) (0 : Nat)
 (List.take
 ((List.replicate (switchesF k).toNat (0 : Int)).length - (0 : Nat))
 (fsK k perm x))).length =
 (otK k perm x0).length) ∧
 (iaK k perm x = iaK k perm (nK k) ∧ ibK k perm x = ibK k perm (nK k) ∧ True) ∧
 True ∧ True ∧ k = k ∧ True) ∧
 ∀ (x_2 : Nat),
 x_2 ≤ (2 : Nat) →
 ((↑x_2 : Int) < (2 : Int) →
 (↑x_2 : Int) < (2 : Int) ∧
 ((0 : Int) ≤ (↑x_2 : Int) ∧ (↑x_2 : Int) < (↑(2 : Nat) : Int)) ∧
 (True ∧
 ((↑x_2 : Int) = (↑(0 : Nat) : Int) →
 Fits IntKind.i64 (k - (1 : Int)) ∧
 ((((1 : Int) ≤ k - (1 : Int) ∧ k - (1 : Int) ≤ (3 : Int)) ∧
 (↑(iaK k perm (nK k)).length : Int) =
 (↑((2 : Nat) ^ (k - (1 : Int)).toNat) : Int) ∧
 (∀ (x : Int),
 x ∈ iaK k perm (nK k) →
 (0 : Int) ≤ x ∧
 x < (↑((2 : Nat) ^ (k - (1 : Int)).toNat) : Int)) ∧
 (iaK k perm (nK k)).Nodup) ∧
 m68 (k - (1 : Int), iaK k perm (nK k)) < m68 (k, perm)) ∧
 ((0 : Int) ≤
 (↑(min ((otK k perm x_2).length - plK k x_2)
 (setF (k - (1 : Int)).toNat
 (iaK k perm (nK k))).length) :
 Int) ∧
 (↑(plK k x_2) : Int) +
 (↑(min ((otK k perm x_2).length - plK k x_2)
 (setF (k - (1 : Int)).toNat
 (iaK k perm (nK k))).length) :
 Int) ≤
 (↑(layF (otK k perm x_2) (plK k x_2)
 (List.take ((otK k perm x_2).length - plK k x_2)
 (setF (k - (1 : Int)).toNat
 (iaK k perm (nK k))))).length :
 Int)) ∧
 Fits IntKind.i64 ((↑x_2 : Int) + (1 : Int)) ∧
 ∃ (x' : Nat),
 x' ≤ (2 : Nat) ∧
 (2 : Nat) - x' < (2 : Nat) - x_2 ∧
 (True ∧
 True ∧
 True ∧
 fsK k perm x = fsK k perm x ∧
 lsK k perm x = lsK k perm x ∧
 True ∧
 True ∧
 True ∧
 layF (otK k perm x_2) (plK k x_2)
 (List.take
 ((otK k perm x_2).length -
 plK k x_2)
 (setF (k - (1 : Int)).toNat
 (iaK k perm (nK k)))) =
 otK k perm x' ∧
 True) ∧
 (↑x_2 : Int) + (1 : Int) = (↑x' : Int) ∧
 (plK k x_2 +
 (↑(min ((otK k perm x_2).length - plK k x_2)
 (setF (k - (1 : Int)).toNat
 (iaK k perm (nK k))).length) :
 Int).toNat =
 plK k x' ∧
 (layF (otK k perm x_2) (plK k x_2)
 (List.take
 ((otK k perm x_2).length - plK k x_2)
 (setF (k - (1 : Int)).toNat
 (iaK k perm (nK k))))).length =
 (otK k perm x').length) ∧
 (iaK k perm (nK k) = iaK k perm (nK k) ∧
 ibK k perm (nK k) = ibK k perm (nK k) ∧ True) ∧
 True ∧ True ∧ k = k ∧ True)) ∧
 ((↑x_2 : Int) = (↑(1 : Nat) : Int) →
 Fits IntKind.i64 (k - (1 : Int)) ∧
 ((((1 : Int) ≤ k - (1 : Int) ∧ k - (1 : Int) ≤ (3 : Int)) ∧
 (↑(ibK k perm (nK k)).length : Int) =
 (↑((2 : Nat) ^ (k - (1 : Int)).toNat) : Int) ∧
 (∀ (x : Int),
 x ∈ ibK k perm (nK k) →
 (0 : Int) ≤ x ∧
 x < (↑((2 : Nat) ^ (k - (1 : Int)).toNat) : Int)) ∧
 (ibK k perm (nK k)).Nodup) ∧
 m68 (k - (1 : Int), ibK k perm (nK k)) < m68 (k, perm)) ∧
 ((0 : Int) ≤
 (↑(min ((otK k perm x_2).length - plK k x_2)
 (setF (k - (1 : Int)).toNat (ibK k perm (nK k))).length) :
 Int) ∧
 (↑(plK k x_2) : Int) +
 (↑(min ((otK k perm x_2).length - plK k x_2)
 (setF (k - (1 : Int)).toNat
 (ibK k perm (nK k))).length) :
 Int) ≤
 (↑(layF (otK k perm x_2) (plK k x_2)
 (List.take ((otK k perm x_2).length - plK k x_2)
 (setF (k - (1 : Int)).toNat
 (ibK k perm (nK k))))).length :
 Int)) ∧
 Fits IntKind.i64 ((↑x_2 : Int) + (1 : Int)) ∧
 ∃ (x' : Nat),
 x' ≤ (2 : Nat) ∧
 (2 : Nat) - x' < (2 : Nat) - x_2 ∧
 (True ∧
 True ∧
 True ∧
 fsK k perm x = fsK k perm x ∧
 lsK k perm x = lsK k perm x ∧
 True ∧
 True ∧
 True ∧
 layF (otK k perm x_2) (plK k x_2)
 (List.take
 ((otK k perm x_2).length -
 plK k x_2)
 (setF (k - (1 : Int)).toNat
 (ibK k perm (nK k)))) =
 otK k perm x' ∧
 True) ∧
 (↑x_2 : Int) + (1 : Int) = (↑x' : Int) ∧
 (plK k x_2 +
 (↑(min ((otK k perm x_2).length - plK k x_2)
 (setF (k - (1 : Int)).toNat
 (ibK k perm (nK k))).length) :
 Int).toNat =
 plK k x' ∧
 (layF (otK k perm x_2) (plK k x_2)
 (List.take
 ((otK k perm x_2).length - plK k x_2)
 (setF (k - (1 : Int)).toNat
 (ibK k perm (nK k))))).length =
 (otK k perm x').length) ∧
 (iaK k perm (nK k) = iaK k perm (nK k) ∧
 ibK k perm (nK k) = ibK k perm (nK k) ∧ True) ∧
 True ∧ True ∧ k = k ∧ True)) ∧
 (¬(↑x_2 : Int) < (2 : Int) →
 ¬(↑x_2 : Int) < (2 : Int) ∧
 layF (otK k perm x_2) (plK k x_2)
 (List.take ((otK k perm x_2).length - plK k x_2) (lsK k perm x)) =
 setF k.toNat perm))) ∧
 ((0 : Int) ≤ (1 : Int) * (2 : Int) ^ k.toNat / (2 : Int) ∧
 (1 : Int) * (2 : Int) ^ k.toNat / (2 : Int) ≤ (1 : Int) * (2 : Int) ^ k.toNat / (2 : Int) ∧
 Small ((1 : Int) * (2 : Int) ^ k.toNat / (2 : Int)).toNat) ∧
 (∃ (x0 : Nat),
 x0 ≤ nK k ∧
 (True ∧
 ptK k perm x_1 = ptK k perm x_1 ∧
 True ∧
 List.replicate ((1 : Int) * (2 : Int) ^ k.toNat / (2 : Int)).toNat (0 : Int) = fsK k perm x0 ∧
 List.replicate ((1 : Int) * (2 : Int) ^ k.toNat / (2 : Int)).toNat (0 : Int) = lsK k perm x0 ∧
 List.replicate ((1 : Int) * (2 : Int) ^ k.toNat / (2 : Int)).toNat (0 : Int) =
 iaK k perm x0 ∧
 (True ∧ True ∧ True) ∧
 List.replicate ((1 : Int) * (2 : Int) ^ k.toNat / (2 : Int)).toNat (0 : Int) =
 ibK k perm x0 ∧
 True) ∧
 (0 : Int) = (↑x0 : Int) ∧
 (↑perm.length : Int) = (↑perm.length : Int) ∧
 perm = perm ∧ True ∧ True ∧ True ∧ True ∧ k = k ∧ perm = perm ∧ True) ∧
 ∀ (x : Nat),
 x ≤ nK k →
 ((↑x : Int) < (↑perm.length : Int) →
 (↑x : Int) < (↑perm.length : Int) ∧
 ((0 : Int) ≤ (↑x : Int) ∧ (↑x : Int) < (↑perm.length : Int)) ∧
 ((0 : Int) ≤ (↑x : Int) ∧ (↑x : Int) < (↑(ptK k perm x_1).length : Int)) ∧
 ((0 : Int) ≤ (ptK k perm x_1).getD (↑x : Int).toNat (0 : Int) ∧
 (ptK k perm x_1).getD (↑x : Int).toNat (0 : Int) < (↑(2 : Nat) : Int)) ∧
 (True ∧
 ((ptK k perm x_1).getD (↑x : Int).toNat (0 : Int) = (↑(0 : Nat) : Int) →
 ((0 : Int) ≤ (↑x : Int) ∧ (0 : Int) < (2 : Int)) ∧
 Fits IntKind.i64 ((↑x : Int) / (2 : Int)) ∧
 ((0 : Int) ≤ perm.getD (↑x : Int).toNat (0 : Int) ∧ (0 : Int) < (2 : Int)) ∧
 Fits IntKind.i64 (perm.getD (↑x : Int).toNat (0 : Int) / (2 : Int)) ∧
 ((0 : Int) ≤ (↑x : Int) / (2 : Int) ∧
 (↑x : Int) / (2 : Int) < (↑(iaK k perm x).length : Int)) ∧
 ((0 : Int) ≤ (↑x : Int) ∧ (0 : Int) < (2 : Int)) ∧
 ((↑x : Int) % (2 : Int) = (0 : Int) →
 (↑x : Int) % (2 : Int) = (0 : Int) ∧
 ((0 : Int) ≤ (↑x : Int) ∧ (0 : Int) < (2 : Int)) ∧
 Fits IntKind.i64 ((↑x : Int) / (2 : Int)) ∧
 ((0 : Int) ≤ (↑x : Int) ∧
 (↑x : Int) < (↑(ptK k perm x_1).length : Int)) ∧
 ((0 : Int) ≤ (↑x : Int) / (2 : Int) ∧
 (↑x : Int) / (2 : Int) < (↑(fsK k perm x).length : Int)) ∧
 ((0 : Int) ≤ perm.getD (↑x : Int).toNat (0 : Int) ∧
 (0 : Int) < (2 : Int)) ∧
 (perm.getD (↑x : Int).toNat (0 : Int) % (2 : Int) =
 (0 : Int) →
 perm.getD (↑x : Int).toNat (0 : Int) % (2 : Int) =
 (0 : Int) ∧
 ((0 : Int) ≤ perm.getD (↑x : Int).toNat (0 : Int) ∧
 (0 : Int) < (2 : Int)) ∧
 Fits IntKind.i64
 (perm.getD (↑x : Int).toNat (0 : Int) /
 (2 : Int)) ∧
 ((0 : Int) ≤ (↑x : Int) ∧
 (↑x : Int) <
 (↑(ptK k perm x_1).length : Int)) ∧
 ((0 : Int) ≤
 perm.getD (↑x : Int).toNat (0 : Int) /
 (2 : Int) ∧
 perm.getD (↑x : Int).toNat (0 : Int) /
 (2 : Int) <
 (↑(lsK k perm x).length : Int)) ∧
 Fits IntKind.i64 ((↑x : Int) + (1 : Int)) ∧
 ∃ (x' : Nat),
 x' ≤ nK k ∧
 nK k - x' < nK k - x ∧
 (True ∧
 ptK k perm x_1 =
 ptK k perm x_1 ∧
 True ∧
 (fsK k perm x).set
 ((↑x : Int) /
 (2 : Int)).toNat
 (IntKind.u8.wrap
 ((48 : Int) +
 IntKind.u8.wrap
 ((ptK k perm
 x_1).getD
 (↑x :
 Int).toNat
 (0 : Int)))) =
 fsK k perm x' ∧
 (lsK k perm x).set
 (perm.getD
 (↑x :
 Int).toNat
 (0 : Int) /
 (2 : Int)).toNat
 (IntKind.u8.wrap
 ((48 : Int) +
 IntKind.u8.wrap
 ((ptK k perm
 x_1).getD
 (↑x :
 Int).toNat
 (0 :
 Int)))) =
 lsK k perm x' ∧
 (iaK k perm x).set
 ((↑x : Int) /
 (2 :
 Int)).toNat
 (perm.getD
 (↑x :
 Int).toNat
 (0 : Int) /
 (2 : Int)) =
 iaK k perm x' ∧
 (True ∧ True ∧ True) ∧
 ibK k perm x =
 ibK k perm x' ∧
 True) ∧
 (↑x : Int) + (1 : Int) =
 (↑x' : Int) ∧
 (↑perm.length : Int) =
 (↑perm.length : Int) ∧
 perm = perm ∧
 True ∧
 True ∧
 True ∧
 True ∧
 k = k ∧
 perm = perm ∧
 True) ∧
 (¬perm.getD (↑x : Int).toNat (0 : Int) % (2 : Int) =
 (0 : Int) →
 ¬perm.getD (↑x : Int).toNat (0 : Int) % (2 : Int) =
 (0 : Int) ∧
 Fits IntKind.i64 ((↑x : Int) + (1 : Int)) ∧
 ∃ (x' : Nat),
 x' ≤ nK k ∧
 nK k - x' < nK k - x ∧
 (True ∧
 ptK k perm x_1 = ptK k perm x_1 ∧
 True ∧
 (fsK k perm x).set
 ((↑x : Int) / (2 : Int)).toNat
 (IntKind.u8.wrap
 ((48 : Int) +
 IntKind.u8.wrap
 ((ptK k perm x_1).getD
 (↑x : Int).toNat
 (0 : Int)))) =
 fsK k perm x' ∧
 lsK k perm x = lsK k perm x' ∧
 (iaK k perm x).set
 ((↑x : Int) /
 (2 : Int)).toNat
 (perm.getD
 (↑x : Int).toNat
 (0 : Int) /
 (2 : Int)) =
 iaK k perm x' ∧
 (True ∧ True ∧ True) ∧
 ibK k perm x =
 ibK k perm x' ∧
 True) ∧
 (↑x : Int) + (1 : Int) = (↑x' : Int) ∧
 (↑perm.length : Int) =
 (↑perm.length : Int) ∧
 perm = perm ∧
 True ∧
 True ∧
 True ∧
 True ∧
 k = k ∧
 perm = perm ∧ True)) ∧
 (¬(↑x : Int) % (2 : Int) = (0 : Int) →
 ¬(↑x : Int) % (2 : Int) = (0 : Int) ∧
 ((0 : Int) ≤ perm.getD (↑x : Int).toNat (0 : Int) ∧
 (0 : Int) < (2 : Int)) ∧
 (perm.getD (↑x : Int).toNat (0 : Int) % (2 : Int) = (0 : Int) →
 perm.getD (↑x : Int).toNat (0 : Int) % (2 : Int) = (0 : Int) ∧
 ((0 : Int) ≤ perm.getD (↑x : Int).toNat (0 : Int) ∧
 (0 : Int) < (2 : Int)) ∧
 Fits IntKind.i64
 (perm.getD (↑x : Int).toNat (0 : Int) / (2 : Int)) ∧
 ((0 : Int) ≤ (↑x : Int) ∧
 (↑x : Int) < (↑(ptK k perm x_1).length : Int)) ∧
 ((0 : Int) ≤
 perm.getD (↑x : Int).toNat (0 : Int) /
 (2 : Int) ∧
 perm.getD (↑x : Int).toNat (0 : Int) / (2 : Int) <
 (↑(lsK k perm x).length : Int)) ∧
 Fits IntKind.i64 ((↑x : Int) + (1 : Int)) ∧
 ∃ (x' : Nat),
 x' ≤ nK k ∧
 nK k - x' < nK k - x ∧
 (True ∧
 ptK k perm x_1 = ptK k perm x_1 ∧
 True ∧
 fsK k perm x = fsK k perm x' ∧
 (lsK k perm x).set
 (perm.getD (↑x : Int).toNat
 (0 : Int) /
 (2 : Int)).toNat
 (IntKind.u8.wrap
 ((48 : Int) +
 IntKind.u8.wrap
 ((ptK k perm x_1).getD
 (↑x : Int).toNat
 (0 : Int)))) =
 lsK k perm x' ∧
 (iaK k perm x).set
 ((↑x : Int) /
 (2 : Int)).toNat
 (perm.getD
 (↑x : Int).toNat
 (0 : Int) /
 (2 : Int)) =
 iaK k perm x' ∧
 (True ∧ True ∧ True) ∧
 ibK k perm x =
 ibK k perm x' ∧
 True) ∧
 (↑x : Int) + (1 : Int) = (↑x' : Int) ∧
 (↑perm.length : Int) =
 (↑perm.length : Int) ∧
 perm = perm ∧
 True ∧
 True ∧
 True ∧
 True ∧
 k = k ∧
 perm = perm ∧ True) ∧
 (¬perm.getD (↑x : Int).toNat (0 : Int) % (2 : Int) = (0 : Int) →
 ¬perm.getD (↑x : Int).toNat (0 : Int) % (2 : Int) =
 (0 : Int) ∧
 Fits IntKind.i64 ((↑x : Int) + (1 : Int)) ∧
 ∃ (x' : Nat),
 x' ≤ nK k ∧
 nK k - x' < nK k - x ∧
 (True ∧
 ptK k perm x_1 = ptK k perm x_1 ∧
 True ∧
 fsK k perm x = fsK k perm x' ∧
 lsK k perm x = lsK k perm x' ∧
 (iaK k perm x).set
 ((↑x : Int) / (2 : Int)).toNat
 (perm.getD (↑x : Int).toNat
 (0 : Int) /
 (2 : Int)) =
 iaK k perm x' ∧
 (True ∧ True ∧ True) ∧
 ibK k perm x = ibK k perm x' ∧
 True) ∧
 (↑x : Int) + (1 : Int) = (↑x' : Int) ∧
 (↑perm.length : Int) = (↑perm.length : Int) ∧
 perm = perm ∧
 True ∧
 True ∧
 True ∧
 True ∧
 k = k ∧ perm = perm ∧ True)))) ∧
 ((ptK k perm x_1).getD (↑x : Int).toNat (0 : Int) = (↑(1 : Nat) : Int) →
 ((0 : Int) ≤ (↑x : Int) ∧ (0 : Int) < (2 : Int)) ∧
 Fits IntKind.i64 ((↑x : Int) / (2 : Int)) ∧
 ((0 : Int) ≤ perm.getD (↑x : Int).toNat (0 : Int) ∧ (0 : Int) < (2 : Int)) ∧
 Fits IntKind.i64 (perm.getD (↑x : Int).toNat (0 : Int) / (2 : Int)) ∧
 ((0 : Int) ≤ (↑x : Int) / (2 : Int) ∧
 (↑x : Int) / (2 : Int) < (↑(ibK k perm x).length : Int)) ∧
 ((0 : Int) ≤ (↑x : Int) ∧ (0 : Int) < (2 : Int)) ∧
 ((↑x : Int) % (2 : Int) = (0 : Int) →
 (↑x : Int) % (2 : Int) = (0 : Int) ∧
 ((0 : Int) ≤ (↑x : Int) ∧ (0 : Int) < (2 : Int)) ∧
 Fits IntKind.i64 ((↑x : Int) / (2 : Int)) ∧
 ((0 : Int) ≤ (↑x : Int) ∧
 (↑x : Int) < (↑(ptK k perm x_1).length : Int)) ∧
 ((0 : Int) ≤ (↑x : Int) / (2 : Int) ∧
 (↑x : Int) / (2 : Int) < (↑(fsK k perm x).length : Int)) ∧
 ((0 : Int) ≤ perm.getD (↑x : Int).toNat (0 : Int) ∧
 (0 : Int) < (2 : Int)) ∧
 (perm.getD (↑x : Int).toNat (0 : Int) % (2 : Int) =
 (0 : Int) →
 perm.getD (↑x : Int).toNat (0 : Int) % (2 : Int) =
 (0 : Int) ∧
 ((0 : Int) ≤ perm.getD (↑x : Int).toNat (0 : Int) ∧
 (0 : Int) < (2 : Int)) ∧
 Fits IntKind.i64
 (perm.getD (↑x : Int).toNat (0 : Int) /
 (2 : Int)) ∧
 ((0 : Int) ≤ (↑x : Int) ∧
 (↑x : Int) <
 (↑(ptK k perm x_1).length : Int)) ∧
 ((0 : Int) ≤
 perm.getD (↑x : Int).toNat (0 : Int) /
 (2 : Int) ∧
 perm.getD (↑x : Int).toNat (0 : Int) /
 (2 : Int) <
 (↑(lsK k perm x).length : Int)) ∧
 Fits IntKind.i64 ((↑x : Int) + (1 : Int)) ∧
 ∃ (x' : Nat),
 x' ≤ nK k ∧
 nK k - x' < nK k - x ∧
 (True ∧
 ptK k perm x_1 = ptK k perm x_1 ∧
 True ∧
 (fsK k perm x).set
 ((↑x : Int) /
 (2 : Int)).toNat
 (IntKind.u8.wrap
 ((48 : Int) +
 IntKind.u8.wrap
 ((ptK k perm
 x_1).getD
 (↑x : Int).toNat
 (0 : Int)))) =
 fsK k perm x' ∧
 (lsK k perm x).set
 (perm.getD
 (↑x : Int).toNat
 (0 : Int) /
 (2 : Int)).toNat
 (IntKind.u8.wrap
 ((48 : Int) +
 IntKind.u8.wrap
 ((ptK k perm
 x_1).getD
 (↑x :
 Int).toNat
 (0 : Int)))) =
 lsK k perm x' ∧
 iaK k perm x =
 iaK k perm x' ∧
 (True ∧ True ∧ True) ∧
 (ibK k perm x).set
 ((↑x : Int) /
 (2 :
 Int)).toNat
 (perm.getD
 (↑x :
 Int).toNat
 (0 : Int) /
 (2 : Int)) =
 ibK k perm x' ∧
 True) ∧
 (↑x : Int) + (1 : Int) =
 (↑x' : Int) ∧
 (↑perm.length : Int) =
 (↑perm.length : Int) ∧
 perm = perm ∧
 True ∧
 True ∧
 True ∧
 True ∧
 k = k ∧
 perm = perm ∧
 True) ∧
 (¬perm.getD (↑x : Int).toNat (0 : Int) % (2 : Int) =
 (0 : Int) →
 ¬perm.getD (↑x : Int).toNat (0 : Int) % (2 : Int) =
 (0 : Int) ∧
 Fits IntKind.i64 ((↑x : Int) + (1 : Int)) ∧
 ∃ (x' : Nat),
 x' ≤ nK k ∧
 nK k - x' < nK k - x ∧
 (True ∧
 ptK k perm x_1 = ptK k perm x_1 ∧
 True ∧
 (fsK k perm x).set
 ((↑x : Int) / (2 : Int)).toNat
 (IntKind.u8.wrap
 ((48 : Int) +
 IntKind.u8.wrap
 ((ptK k perm x_1).getD
 (↑x : Int).toNat
 (0 : Int)))) =
 fsK k perm x' ∧
 lsK k perm x = lsK k perm x' ∧
 iaK k perm x = iaK k perm x' ∧
 (True ∧ True ∧ True) ∧
 (ibK k perm x).set
 ((↑x : Int) /
 (2 : Int)).toNat
 (perm.getD
 (↑x : Int).toNat
 (0 : Int) /
 (2 : Int)) =
 ibK k perm x' ∧
 True) ∧
 (↑x : Int) + (1 : Int) = (↑x' : Int) ∧
 (↑perm.length : Int) =
 (↑perm.length : Int) ∧
 perm = perm ∧
 True ∧
 True ∧
 True ∧
 True ∧
 k = k ∧ perm = perm ∧ True)) ∧
 (¬(↑x : Int) % (2 : Int) = (0 : Int) →
 ¬(↑x : Int) % (2 : Int) = (0 : Int) ∧
 ((0 : Int) ≤ perm.getD (↑x : Int).toNat (0 : Int) ∧
 (0 : Int) < (2 : Int)) ∧
 (perm.getD (↑x : Int).toNat (0 : Int) % (2 : Int) = (0 : Int) →
 perm.getD (↑x : Int).toNat (0 : Int) % (2 : Int) = (0 : Int) ∧
 ((0 : Int) ≤ perm.getD (↑x : Int).toNat (0 : Int) ∧
 (0 : Int) < (2 : Int)) ∧
 Fits IntKind.i64
 (perm.getD (↑x : Int).toNat (0 : Int) / (2 : Int)) ∧
 ((0 : Int) ≤ (↑x : Int) ∧
 (↑x : Int) < (↑(ptK k perm x_1).length : Int)) ∧
 ((0 : Int) ≤
 perm.getD (↑x : Int).toNat (0 : Int) / (2 : Int) ∧
 perm.getD (↑x : Int).toNat (0 : Int) / (2 : Int) <
 (↑(lsK k perm x).length : Int)) ∧
 Fits IntKind.i64 ((↑x : Int) + (1 : Int)) ∧
 ∃ (x' : Nat),
 x' ≤ nK k ∧
 nK k - x' < nK k - x ∧
 (True ∧
 ptK k perm x_1 = ptK k perm x_1 ∧
 True ∧
 fsK k perm x = fsK k perm x' ∧
 (lsK k perm x).set
 (perm.getD (↑x : Int).toNat
 (0 : Int) /
 (2 : Int)).toNat
 (IntKind.u8.wrap
 ((48 : Int) +
 IntKind.u8.wrap
 ((ptK k perm x_1).getD
 (↑x : Int).toNat
 (0 : Int)))) =
 lsK k perm x' ∧
 iaK k perm x = iaK k perm x' ∧
 (True ∧ True ∧ True) ∧
 (ibK k perm x).set
 ((↑x : Int) /
 (2 : Int)).toNat
 (perm.getD
 (↑x : Int).toNat
 (0 : Int) /
 (2 : Int)) =
 ibK k perm x' ∧
 True) ∧
 (↑x : Int) + (1 : Int) = (↑x' : Int) ∧
 (↑perm.length : Int) =
 (↑perm.length : Int) ∧
 perm = perm ∧
 True ∧
 True ∧
 True ∧
 True ∧
 k = k ∧ perm = perm ∧ True) ∧
 (¬perm.getD (↑x : Int).toNat (0 : Int) % (2 : Int) = (0 : Int) →
 ¬perm.getD (↑x : Int).toNat (0 : Int) % (2 : Int) = (0 : Int) ∧
 Fits IntKind.i64 ((↑x : Int) + (1 : Int)) ∧
 ∃ (x' : Nat),
 x' ≤ nK k ∧
 nK k - x' < nK k - x ∧
 (True ∧
 ptK k perm x_1 = ptK k perm x_1 ∧
 True ∧
 fsK k perm x = fsK k perm x' ∧
 lsK k perm x = lsK k perm x' ∧
 iaK k perm x = iaK k perm x' ∧
 (True ∧ True ∧ True) ∧
 (ibK k perm x).set
 ((↑x : Int) / (2 : Int)).toNat
 (perm.getD (↑x : Int).toNat
 (0 : Int) /
 (2 : Int)) =
 ibK k perm x' ∧
 True) ∧
 (↑x : Int) + (1 : Int) = (↑x' : Int) ∧
 (↑perm.length : Int) = (↑perm.length : Int) ∧
 perm = perm ∧
 True ∧
 True ∧
 True ∧
 True ∧ k = k ∧ perm = perm ∧ True)))) ∧
 (¬(↑x : Int) < (↑perm.length : Int) →
 ¬(↑x : Int) < (↑perm.length : Int) ∧
 ((1 : Int) ≤ k ∧ k ≤ (3 : Int)) ∧
 ((0 : Int) ≤ switchesF k ∧ switchesF k ≤ switchesF k ∧ Small (switchesF k).toNat) ∧
 ((0 : Int) ≤
 (↑(min ((List.replicate (switchesF k).toNat (0 : Int)).length - (0 : Nat))
 (fsK k perm x).length) :
 Int) ∧
 (↑(min ((List.replicate (switchesF k).toNat (0 : Int)).length - (0 : Nat))
 (fsK k perm x).length) :
 Int) ≤
 (↑(layF (List.replicate (switchesF k).toNat (0 : Int)) (0 : Nat)
 (List.take ((List.replicate (switchesF k).toNat (0 : Int)).length - (0 : Nat))
 (fsK k perm x))).length :
 Int)) ∧
 (∃ (x0 : Nat),
 x0 ≤ (2 : Nat) ∧
 (True ∧
 True ∧
 True ∧
 fsK k perm x = fsK k perm x ∧
 lsK k perm x = lsK k perm x ∧
 True ∧
 True ∧
 True ∧
 layF (List.replicate (switchesF k).toNat (0 : Int)) (0 : Nat)
 (List.take
 ((List.replicate (switchesF k).toNat (0 : Int)).length -
 (0 : Nat))
 (fsK k perm x)) =
 otK k perm x0 ∧
 True) ∧
 (0 : Int) = (↑x0 : Int) ∧
 ((↑(min ((List.replicate (switchesF k).toNat (0 : Int)).length - (0 : Nat))
 (fsK k perm x).length) :
 Int).toNat =
 plK k x0 ∧
 (layF (List.replicate (switchesF k).toNat (0 : Int)) (0 : Nat)
 (List.take
 ((List.replicate (switchesF k).toNat (0 : Int)).length - (0 : Nat))
 (fsK k perm x))).length =
 (otK k perm x0).length) ∧
 (iaK k perm x = iaK k perm (nK k) ∧ ibK k perm x = ibK k perm (nK k) ∧ True) ∧
 True ∧ True ∧ k = k ∧ True) ∧
 ∀ (x_2 : Nat),
 x_2 ≤ (2 : Nat) →
 ((↑x_2 : Int) < (2 : Int) →
 (↑x_2 : Int) < (2 : Int) ∧
 ((0 : Int) ≤ (↑x_2 : Int) ∧ (↑x_2 : Int) < (↑(2 : Nat) : Int)) ∧
 (True ∧
 ((↑x_2 : Int) = (↑(0 : Nat) : Int) →
 Fits IntKind.i64 (k - (1 : Int)) ∧
 ((((1 : Int) ≤ k - (1 : Int) ∧ k - (1 : Int) ≤ (3 : Int)) ∧
 (↑(iaK k perm (nK k)).length : Int) =
 (↑((2 : Nat) ^ (k - (1 : Int)).toNat) : Int) ∧
 (∀ (x : Int),
 x ∈ iaK k perm (nK k) →
 (0 : Int) ≤ x ∧
 x < (↑((2 : Nat) ^ (k - (1 : Int)).toNat) : Int)) ∧
 (iaK k perm (nK k)).Nodup) ∧
 m68 (k - (1 : Int), iaK k perm (nK k)) < m68 (k, perm)) ∧
 ((0 : Int) ≤
 (↑(min ((otK k perm x_2).length - plK k x_2)
 (setF (k - (1 : Int)).toNat
 (iaK k perm (nK k))).length) :
 Int) ∧
 (↑(plK k x_2) : Int) +
 (↑(min ((otK k perm x_2).length - plK k x_2)
 (setF (k - (1 : Int)).toNat
 (iaK k perm (nK k))).length) :
 Int) ≤
 (↑(layF (otK k perm x_2) (plK k x_2)
 (List.take ((otK k perm x_2).length - plK k x_2)
 (setF (k - (1 : Int)).toNat
 (iaK k perm (nK k))))).length :
 Int)) ∧
 Fits IntKind.i64 ((↑x_2 : Int) + (1 : Int)) ∧
 ∃ (x' : Nat),
 x' ≤ (2 : Nat) ∧
 (2 : Nat) - x' < (2 : Nat) - x_2 ∧
 (True ∧
 True ∧
 True ∧
 fsK k perm x = fsK k perm x ∧
 lsK k perm x = lsK k perm x ∧
 True ∧
 True ∧
 True ∧
 layF (otK k perm x_2) (plK k x_2)
 (List.take
 ((otK k perm x_2).length -
 plK k x_2)
 (setF (k - (1 : Int)).toNat
 (iaK k perm (nK k)))) =
 otK k perm x' ∧
 True) ∧
 (↑x_2 : Int) + (1 : Int) = (↑x' : Int) ∧
 (plK k x_2 +
 (↑(min ((otK k perm x_2).length - plK k x_2)
 (setF (k - (1 : Int)).toNat
 (iaK k perm (nK k))).length) :
 Int).toNat =
 plK k x' ∧
 (layF (otK k perm x_2) (plK k x_2)
 (List.take
 ((otK k perm x_2).length - plK k x_2)
 (setF (k - (1 : Int)).toNat
 (iaK k perm (nK k))))).length =
 (otK k perm x').length) ∧
 (iaK k perm (nK k) = iaK k perm (nK k) ∧
 ibK k perm (nK k) = ibK k perm (nK k) ∧ True) ∧
 True ∧ True ∧ k = k ∧ True)) ∧
 ((↑x_2 : Int) = (↑(1 : Nat) : Int) →
 Fits IntKind.i64 (k - (1 : Int)) ∧
 ((((1 : Int) ≤ k - (1 : Int) ∧ k - (1 : Int) ≤ (3 : Int)) ∧
 (↑(ibK k perm (nK k)).length : Int) =
 (↑((2 : Nat) ^ (k - (1 : Int)).toNat) : Int) ∧
 (∀ (x : Int),
 x ∈ ibK k perm (nK k) →
 (0 : Int) ≤ x ∧
 x < (↑((2 : Nat) ^ (k - (1 : Int)).toNat) : Int)) ∧
 (ibK k perm (nK k)).Nodup) ∧
 m68 (k - (1 : Int), ibK k perm (nK k)) < m68 (k, perm)) ∧
 ((0 : Int) ≤
 (↑(min ((otK k perm x_2).length - plK k x_2)
 (setF (k - (1 : Int)).toNat (ibK k perm (nK k))).length) :
 Int) ∧
 (↑(plK k x_2) : Int) +
 (↑(min ((otK k perm x_2).length - plK k x_2)
 (setF (k - (1 : Int)).toNat
 (ibK k perm (nK k))).length) :
 Int) ≤
 (↑(layF (otK k perm x_2) (plK k x_2)
 (List.take ((otK k perm x_2).length - plK k x_2)
 (setF (k - (1 : Int)).toNat
 (ibK k perm (nK k))))).length :
 Int)) ∧
 Fits IntKind.i64 ((↑x_2 : Int) + (1 : Int)) ∧
 ∃ (x' : Nat),
 x' ≤ (2 : Nat) ∧
 (2 : Nat) - x' < (2 : Nat) - x_2 ∧
 (True ∧
 True ∧
 True ∧
 fsK k perm x = fsK k perm x ∧
 lsK k perm x = lsK k perm x ∧
 True ∧
 True ∧
 True ∧
 layF (otK k perm x_2) (plK k x_2)
 (List.take
 ((otK k perm x_2).length -
 plK k x_2)
 (setF (k - (1 : Int)).toNat
 (ibK k perm (nK k)))) =
 otK k perm x' ∧
 True) ∧
 (↑x_2 : Int) + (1 : Int) = (↑x' : Int) ∧
 (plK k x_2 +
 (↑(min ((otK k perm x_2).length - plK k x_2)
 (setF (k - (1 : Int)).toNat
 (ibK k perm (nK k))).length) :
 Int).toNat =
 plK k x' ∧
 (layF (otK k perm x_2) (plK k x_2)
 (List.take
 ((otK k perm x_2).length - plK k x_2)
 (setF (k - (1 : Int)).toNat
 (ibK k perm (nK k))))).length =
 (otK k perm x').length) ∧
 (iaK k perm (nK k) = iaK k perm (nK k) ∧
 ibK k perm (nK k) = ibK k perm (nK k) ∧ True) ∧
 True ∧ True ∧ k = k ∧ True)) ∧
 (¬(↑x_2 : Int) < (2 : Int) →
 ¬(↑x_2 : Int) < (2 : Int) ∧
 layF (otK k perm x_2) (plK k x_2)
 (List.take ((otK k perm x_2).length - plK k x_2) (lsK k perm x)) =
 setF k.toNat perm))) ∧
 (((0 : Int) ≤ (1 : Int) * (2 : Int) ^ k.toNat / (2 : Int) ∧
 (1 : Int) * (2 : Int) ^ k.toNat / (2 : Int) ≤ (1 : Int) * (2 : Int) ^ k.toNat / (2 : Int) ∧
 Small ((1 : Int) * (2 : Int) ^ k.toNat / (2 : Int)).toNat) ∧
 (((0 : Int) ≤ (1 : Int) * (2 : Int) ^ k.toNat / (2 : Int) ∧
 (1 : Int) * (2 : Int) ^ k.toNat / (2 : Int) ≤ (1 : Int) * (2 : Int) ^ k.toNat / (2 : Int) ∧
 Small ((1 : Int) * (2 : Int) ^ k.toNat / (2 : Int)).toNat) ∧
 (∃ (x0 : Nat),
 x0 ≤ nK k ∧
 (True ∧
 ptK k perm x_1 = ptK k perm x_1 ∧
 True ∧
 List.replicate ((1 : Int) * (2 : Int) ^ k.toNat / (2 : Int)).toNat (0 : Int) = fsK k perm x0 ∧
 List.replicate ((1 : Int) * (2 : Int) ^ k.toNat / (2 : Int)).toNat (0 : Int) =
 lsK k perm x0 ∧
 List.replicate ((1 : Int) * (2 : Int) ^ k.toNat / (2 : Int)).toNat (0 : Int) =
 ibK k perm x0 ∧
 List.replicate ((1 : Int) * (2 : Int) ^ k.toNat / (2 : Int)).toNat (0 : Int) =
 iaK k perm x0 ∧
 (True ∧ True ∧ True) ∧ True) ∧
 (0 : Int) = (↑x0 : Int) ∧
 (↑perm.length : Int) = (↑perm.length : Int) ∧
 perm = perm ∧ True ∧ True ∧ True ∧ True ∧ k = k ∧ perm = perm ∧ True) ∧
 ∀ (x : Nat),
 x ≤ nK k →
 ((↑x : Int) < (↑perm.length : Int) →
 (↑x : Int) < (↑perm.length : Int) ∧
 ((0 : Int) ≤ (↑x : Int) ∧ (↑x : Int) < (↑perm.length : Int)) ∧
 ((0 : Int) ≤ (↑x : Int) ∧ (↑x : Int) < (↑(ptK k perm x_1).length : Int)) ∧
 ((0 : Int) ≤ (ptK k perm x_1).getD (↑x : Int).toNat (0 : Int) ∧
 (ptK k perm x_1).getD (↑x : Int).toNat (0 : Int) < (↑(2 : Nat) : Int)) ∧
 (True ∧
 ((ptK k perm x_1).getD (↑x : Int).toNat (0 : Int) = (↑(0 : Nat) : Int) →
 ((0 : Int) ≤ (↑x : Int) ∧ (0 : Int) < (2 : Int)) ∧
 Fits IntKind.i64 ((↑x : Int) / (2 : Int)) ∧
 ((0 : Int) ≤ perm.getD (↑x : Int).toNat (0 : Int) ∧ (0 : Int) < (2 : Int)) ∧
 Fits IntKind.i64 (perm.getD (↑x : Int).toNat (0 : Int) / (2 : Int)) ∧
 ((0 : Int) ≤ (↑x : Int) / (2 : Int) ∧
 (↑x : Int) / (2 : Int) < (↑(iaK k perm x).length : Int)) ∧
 ((0 : Int) ≤ (↑x : Int) ∧ (0 : Int) < (2 : Int)) ∧
 ((↑x : Int) % (2 : Int) = (0 : Int) →
 (↑x : Int) % (2 : Int) = (0 : Int) ∧
 ((0 : Int) ≤ (↑x : Int) ∧ (0 : Int) < (2 : Int)) ∧
 Fits IntKind.i64 ((↑x : Int) / (2 : Int)) ∧
 ((0 : Int) ≤ (↑x : Int) ∧
 (↑x : Int) < (↑(ptK k perm x_1).length : Int)) ∧
 ((0 : Int) ≤ (↑x : Int) / (2 : Int) ∧
 (↑x : Int) / (2 : Int) <
 (↑(fsK k perm x).length : Int)) ∧
 ((0 : Int) ≤ perm.getD (↑x : Int).toNat (0 : Int) ∧
 (0 : Int) < (2 : Int)) ∧
 (perm.getD (↑x : Int).toNat (0 : Int) % (2 : Int) =
 (0 : Int) →
 perm.getD (↑x : Int).toNat (0 : Int) % (2 : Int) =
 (0 : Int) ∧
 ((0 : Int) ≤
 perm.getD (↑x : Int).toNat (0 : Int) ∧
 (0 : Int) < (2 : Int)) ∧
 Fits IntKind.i64
 (perm.getD (↑x : Int).toNat (0 : Int) /
 (2 : Int)) ∧
 ((0 : Int) ≤ (↑x : Int) ∧
 (↑x : Int) <
 (↑(ptK k perm x_1).length : Int)) ∧
 ((0 : Int) ≤
 perm.getD (↑x : Int).toNat (0 : Int) /
 (2 : Int) ∧
 perm.getD (↑x : Int).toNat (0 : Int) /
 (2 : Int) <
 (↑(lsK k perm x).length : Int)) ∧
 Fits IntKind.i64
 ((↑x : Int) + (1 : Int)) ∧
 ∃ (x' : Nat),
 x' ≤ nK k ∧
 nK k - x' < nK k - x ∧
 (True ∧
 ptK k perm x_1 =
 ptK k perm x_1 ∧
 True ∧
 (fsK k perm x).set
 ((↑x : Int) /
 (2 : Int)).toNat
 (IntKind.u8.wrap
 ((48 : Int) +
 IntKind.u8.wrap
 ((ptK k perm
 x_1).getD
 (↑x :
 Int).toNat
 (0 :
 Int)))) =
 fsK k perm x' ∧
 (lsK k perm x).set
 (perm.getD
 (↑x :
 Int).toNat
 (0 : Int) /
 (2 :
 Int)).toNat
 (IntKind.u8.wrap
 ((48 : Int) +
 IntKind.u8.wrap
 ((ptK k perm
 x_1).getD
 (↑x :
 Int).toNat
 (0 :
 Int)))) =
 lsK k perm x' ∧
 ibK k perm x =
 ibK k perm x' ∧
 (iaK k perm x).set
 ((↑x : Int) /
 (2 :
 Int)).toNat
 (perm.getD
 (↑x :
 Int).toNat
 (0 :
 Int) /
 (2 : Int)) =
 iaK k perm x' ∧
 (True ∧
 True ∧ True) ∧
 True) ∧
 (↑x : Int) + (1 : Int) =
 (↑x' : Int) ∧
 (↑perm.length : Int) =
 (↑perm.length : Int) ∧
 perm = perm ∧
 True ∧
 True ∧
 True ∧
 True ∧
 k = k ∧
 perm = perm ∧
 True) ∧
 (¬perm.getD (↑x : Int).toNat (0 : Int) % (2 : Int) =
 (0 : Int) →
 ¬perm.getD (↑x : Int).toNat (0 : Int) % (2 : Int) =
 (0 : Int) ∧
 Fits IntKind.i64 ((↑x : Int) + (1 : Int)) ∧
 ∃ (x' : Nat),
 x' ≤ nK k ∧
 nK k - x' < nK k - x ∧
 (True ∧
 ptK k perm x_1 = ptK k perm x_1 ∧
 True ∧
 (fsK k perm x).set
 ((↑x : Int) /
 (2 : Int)).toNat
 (IntKind.u8.wrap
 ((48 : Int) +
 IntKind.u8.wrap
 ((ptK k perm x_1).getD
 (↑x : Int).toNat
 (0 : Int)))) =
 fsK k perm x' ∧
 lsK k perm x = lsK k perm x' ∧
 ibK k perm x = ibK k perm x' ∧
 (iaK k perm x).set
 ((↑x : Int) /
 (2 : Int)).toNat
 (perm.getD
 (↑x : Int).toNat
 (0 : Int) /
 (2 : Int)) =
 iaK k perm x' ∧
 (True ∧ True ∧ True) ∧
 True) ∧
 (↑x : Int) + (1 : Int) = (↑x' : Int) ∧
 (↑perm.length : Int) =
 (↑perm.length : Int) ∧
 perm = perm ∧
 True ∧
 True ∧
 True ∧
 True ∧
 k = k ∧
 perm = perm ∧ True)) ∧
 (¬(↑x : Int) % (2 : Int) = (0 : Int) →
 ¬(↑x : Int) % (2 : Int) = (0 : Int) ∧
 ((0 : Int) ≤ perm.getD (↑x : Int).toNat (0 : Int) ∧
 (0 : Int) < (2 : Int)) ∧
 (perm.getD (↑x : Int).toNat (0 : Int) % (2 : Int) = (0 : Int) →
 perm.getD (↑x : Int).toNat (0 : Int) % (2 : Int) =
 (0 : Int) ∧
 ((0 : Int) ≤ perm.getD (↑x : Int).toNat (0 : Int) ∧
 (0 : Int) < (2 : Int)) ∧
 Fits IntKind.i64
 (perm.getD (↑x : Int).toNat (0 : Int) / (2 : Int)) ∧
 ((0 : Int) ≤ (↑x : Int) ∧
 (↑x : Int) < (↑(ptK k perm x_1).length : Int)) ∧
 ((0 : Int) ≤
 perm.getD (↑x : Int).toNat (0 : Int) /
 (2 : Int) ∧
 perm.getD (↑x : Int).toNat (0 : Int) /
 (2 : Int) <
 (↑(lsK k perm x).length : Int)) ∧
 Fits IntKind.i64 ((↑x : Int) + (1 : Int)) ∧
 ∃ (x' : Nat),
 x' ≤ nK k ∧
 nK k - x' < nK k - x ∧
 (True ∧
 ptK k perm x_1 = ptK k perm x_1 ∧
 True ∧
 fsK k perm x = fsK k perm x' ∧
 (lsK k perm x).set
 (perm.getD
 (↑x : Int).toNat
 (0 : Int) /
 (2 : Int)).toNat
 (IntKind.u8.wrap
 ((48 : Int) +
 IntKind.u8.wrap
 ((ptK k perm
 x_1).getD
 (↑x : Int).toNat
 (0 : Int)))) =
 lsK k perm x' ∧
 ibK k perm x = ibK k perm x' ∧
 (iaK k perm x).set
 ((↑x : Int) /
 (2 : Int)).toNat
 (perm.getD
 (↑x : Int).toNat
 (0 : Int) /
 (2 : Int)) =
 iaK k perm x' ∧
 (True ∧ True ∧ True) ∧
 True) ∧
 (↑x : Int) + (1 : Int) = (↑x' : Int) ∧
 (↑perm.length : Int) =
 (↑perm.length : Int) ∧
 perm = perm ∧
 True ∧
 True ∧
 True ∧
 True ∧
 k = k ∧
 perm = perm ∧ True) ∧
 (¬perm.getD (↑x : Int).toNat (0 : Int) % (2 : Int) =
 (0 : Int) →
 ¬perm.getD (↑x : Int).toNat (0 : Int) % (2 : Int) =
 (0 : Int) ∧
 Fits IntKind.i64 ((↑x : Int) + (1 : Int)) ∧
 ∃ (x' : Nat),
 x' ≤ nK k ∧
 nK k - x' < nK k - x ∧
 (True ∧
 ptK k perm x_1 = ptK k perm x_1 ∧
 True ∧
 fsK k perm x = fsK k perm x' ∧
 lsK k perm x = lsK k perm x' ∧
 ibK k perm x = ibK k perm x' ∧
 (iaK k perm x).set
 ((↑x : Int) / (2 : Int)).toNat
 (perm.getD (↑x : Int).toNat
 (0 : Int) /
 (2 : Int)) =
 iaK k perm x' ∧
 (True ∧ True ∧ True) ∧ True) ∧
 (↑x : Int) + (1 : Int) = (↑x' : Int) ∧
 (↑perm.length : Int) = (↑perm.length : Int) ∧
 perm = perm ∧
 True ∧
 True ∧
 True ∧
 True ∧
 k = k ∧ perm = perm ∧ True)))) ∧
 ((ptK k perm x_1).getD (↑x : Int).toNat (0 : Int) = (↑(1 : Nat) : Int) →
 ((0 : Int) ≤ (↑x : Int) ∧ (0 : Int) < (2 : Int)) ∧
 Fits IntKind.i64 ((↑x : Int) / (2 : Int)) ∧
 ((0 : Int) ≤ perm.getD (↑x : Int).toNat (0 : Int) ∧ (0 : Int) < (2 : Int)) ∧
 Fits IntKind.i64 (perm.getD (↑x : Int).toNat (0 : Int) / (2 : Int)) ∧
 ((0 : Int) ≤ (↑x : Int) / (2 : Int) ∧
 (↑x : Int) / (2 : Int) < (↑(ibK k perm x).length : Int)) ∧
 ((0 : Int) ≤ (↑x : Int) ∧ (0 : Int) < (2 : Int)) ∧
 ((↑x : Int) % (2 : Int) = (0 : Int) →
 (↑x : Int) % (2 : Int) = (0 : Int) ∧
 ((0 : Int) ≤ (↑x : Int) ∧ (0 : Int) < (2 : Int)) ∧
 Fits IntKind.i64 ((↑x : Int) / (2 : Int)) ∧
 ((0 : Int) ≤ (↑x : Int) ∧
 (↑x : Int) < (↑(ptK k perm x_1).length : Int)) ∧
 ((0 : Int) ≤ (↑x : Int) / (2 : Int) ∧
 (↑x : Int) / (2 : Int) < (↑(fsK k perm x).length : Int)) ∧
 ((0 : Int) ≤ perm.getD (↑x : Int).toNat (0 : Int) ∧
 (0 : Int) < (2 : Int)) ∧
 (perm.getD (↑x : Int).toNat (0 : Int) % (2 : Int) =
 (0 : Int) →
 perm.getD (↑x : Int).toNat (0 : Int) % (2 : Int) =
 (0 : Int) ∧
 ((0 : Int) ≤ perm.getD (↑x : Int).toNat (0 : Int) ∧
 (0 : Int) < (2 : Int)) ∧
 Fits IntKind.i64
 (perm.getD (↑x : Int).toNat (0 : Int) /
 (2 : Int)) ∧
 ((0 : Int) ≤ (↑x : Int) ∧
 (↑x : Int) <
 (↑(ptK k perm x_1).length : Int)) ∧
 ((0 : Int) ≤
 perm.getD (↑x : Int).toNat (0 : Int) /
 (2 : Int) ∧
 perm.getD (↑x : Int).toNat (0 : Int) /
 (2 : Int) <
 (↑(lsK k perm x).length : Int)) ∧
 Fits IntKind.i64 ((↑x : Int) + (1 : Int)) ∧
 ∃ (x' : Nat),
 x' ≤ nK k ∧
 nK k - x' < nK k - x ∧
 (True ∧
 ptK k perm x_1 =
 ptK k perm x_1 ∧
 True ∧
 (fsK k perm x).set
 ((↑x : Int) /
 (2 : Int)).toNat
 (IntKind.u8.wrap
 ((48 : Int) +
 IntKind.u8.wrap
 ((ptK k perm
 x_1).getD
 (↑x :
 Int).toNat
 (0 : Int)))) =
 fsK k perm x' ∧
 (lsK k perm x).set
 (perm.getD
 (↑x :
 Int).toNat
 (0 : Int) /
 (2 : Int)).toNat
 (IntKind.u8.wrap
 ((48 : Int) +
 IntKind.u8.wrap
 ((ptK k perm
 x_1).getD
 (↑x :
 Int).toNat
 (0 :
 Int)))) =
 lsK k perm x' ∧
 (ibK k perm x).set
 ((↑x : Int) /
 (2 :
 Int)).toNat
 (perm.getD
 (↑x :
 Int).toNat
 (0 : Int) /
 (2 : Int)) =
 ibK k perm x' ∧
 iaK k perm x =
 iaK k perm x' ∧
 (True ∧
 True ∧ True) ∧
 True) ∧
 (↑x : Int) + (1 : Int) =
 (↑x' : Int) ∧
 (↑perm.length : Int) =
 (↑perm.length : Int) ∧
 perm = perm ∧
 True ∧
 True ∧
 True ∧
 True ∧
 k = k ∧
 perm = perm ∧
 True) ∧
 (¬perm.getD (↑x : Int).toNat (0 : Int) % (2 : Int) =
 (0 : Int) →
 ¬perm.getD (↑x : Int).toNat (0 : Int) % (2 : Int) =
 (0 : Int) ∧
 Fits IntKind.i64 ((↑x : Int) + (1 : Int)) ∧
 ∃ (x' : Nat),
 x' ≤ nK k ∧
 nK k - x' < nK k - x ∧
 (True ∧
 ptK k perm x_1 = ptK k perm x_1 ∧
 True ∧
 (fsK k perm x).set
 ((↑x : Int) / (2 : Int)).toNat
 (IntKind.u8.wrap
 ((48 : Int) +
 IntKind.u8.wrap
 ((ptK k perm x_1).getD
 (↑x : Int).toNat
 (0 : Int)))) =
 fsK k perm x' ∧
 lsK k perm x = lsK k perm x' ∧
 (ibK k perm x).set
 ((↑x : Int) /
 (2 : Int)).toNat
 (perm.getD
 (↑x : Int).toNat
 (0 : Int) /
 (2 : Int)) =
 ibK k perm x' ∧
 iaK k perm x = iaK k perm x' ∧
 (True ∧ True ∧ True) ∧
 True) ∧
 (↑x : Int) + (1 : Int) = (↑x' : Int) ∧
 (↑perm.length : Int) =
 (↑perm.length : Int) ∧
 perm = perm ∧
 True ∧
 True ∧
 True ∧
 True ∧
 k = k ∧
 perm = perm ∧ True)) ∧
 (¬(↑x : Int) % (2 : Int) = (0 : Int) →
 ¬(↑x : Int) % (2 : Int) = (0 : Int) ∧
 ((0 : Int) ≤ perm.getD (↑x : Int).toNat (0 : Int) ∧
 (0 : Int) < (2 : Int)) ∧
 (perm.getD (↑x : Int).toNat (0 : Int) % (2 : Int) = (0 : Int) →
 perm.getD (↑x : Int).toNat (0 : Int) % (2 : Int) = (0 : Int) ∧
 ((0 : Int) ≤ perm.getD (↑x : Int).toNat (0 : Int) ∧
 (0 : Int) < (2 : Int)) ∧
 Fits IntKind.i64
 (perm.getD (↑x : Int).toNat (0 : Int) / (2 : Int)) ∧
 ((0 : Int) ≤ (↑x : Int) ∧
 (↑x : Int) < (↑(ptK k perm x_1).length : Int)) ∧
 ((0 : Int) ≤
 perm.getD (↑x : Int).toNat (0 : Int) /
 (2 : Int) ∧
 perm.getD (↑x : Int).toNat (0 : Int) / (2 : Int) <
 (↑(lsK k perm x).length : Int)) ∧
 Fits IntKind.i64 ((↑x : Int) + (1 : Int)) ∧
 ∃ (x' : Nat),
 x' ≤ nK k ∧
 nK k - x' < nK k - x ∧
 (True ∧
 ptK k perm x_1 = ptK k perm x_1 ∧
 True ∧
 fsK k perm x = fsK k perm x' ∧
 (lsK k perm x).set
 (perm.getD (↑x : Int).toNat
 (0 : Int) /
 (2 : Int)).toNat
 (IntKind.u8.wrap
 ((48 : Int) +
 IntKind.u8.wrap
 ((ptK k perm x_1).getD
 (↑x : Int).toNat
 (0 : Int)))) =
 lsK k perm x' ∧
 (ibK k perm x).set
 ((↑x : Int) /
 (2 : Int)).toNat
 (perm.getD
 (↑x : Int).toNat
 (0 : Int) /
 (2 : Int)) =
 ibK k perm x' ∧
 iaK k perm x = iaK k perm x' ∧
 (True ∧ True ∧ True) ∧
 True) ∧
 (↑x : Int) + (1 : Int) = (↑x' : Int) ∧
 (↑perm.length : Int) =
 (↑perm.length : Int) ∧
 perm = perm ∧
 True ∧
 True ∧
 True ∧
 True ∧
 k = k ∧
 perm = perm ∧ True) ∧
 (¬perm.getD (↑x : Int).toNat (0 : Int) % (2 : Int) = (0 : Int) →
 ¬perm.getD (↑x : Int).toNat (0 : Int) % (2 : Int) =
 (0 : Int) ∧
 Fits IntKind.i64 ((↑x : Int) + (1 : Int)) ∧
 ∃ (x' : Nat),
 x' ≤ nK k ∧
 nK k - x' < nK k - x ∧
 (True ∧
 ptK k perm x_1 = ptK k perm x_1 ∧
 True ∧
 fsK k perm x = fsK k perm x' ∧
 lsK k perm x = lsK k perm x' ∧
 (ibK k perm x).set
 ((↑x : Int) / (2 : Int)).toNat
 (perm.getD (↑x : Int).toNat
 (0 : Int) /
 (2 : Int)) =
 ibK k perm x' ∧
 iaK k perm x = iaK k perm x' ∧
 (True ∧ True ∧ True) ∧ True) ∧
 (↑x : Int) + (1 : Int) = (↑x' : Int) ∧
 (↑perm.length : Int) = (↑perm.length : Int) ∧
 perm = perm ∧
 True ∧
 True ∧
 True ∧
 True ∧
 k = k ∧ perm = perm ∧ True)))) ∧
 (¬(↑x : Int) < (↑perm.length : Int) →
 ¬(↑x : Int) < (↑perm.length : Int) ∧
 ((1 : Int) ≤ k ∧ k ≤ (3 : Int)) ∧
 ((0 : Int) ≤ switchesF k ∧ switchesF k ≤ switchesF k ∧ Small (switchesF k).toNat) ∧
 ((0 : Int) ≤
 (↑(min ((List.replicate (switchesF k).toNat (0 : Int)).length - (0 : Nat))
 (fsK k perm x).length) :
 Int) ∧
 (↑(min ((List.replicate (switchesF k).toNat (0 : Int)).length - (0 : Nat))
 (fsK k perm x).length) :
 Int) ≤
 (↑(layF (List.replicate (switchesF k).toNat (0 : Int)) (0 : Nat)
 (List.take ((List.replicate (switchesF k).toNat (0 : Int)).length - (0 : Nat))
 (fsK k perm x))).length :
 Int)) ∧
 (∃ (x0 : Nat),
 x0 ≤ (2 : Nat) ∧
 (True ∧
 True ∧
 True ∧
 fsK k perm x = fsK k perm x ∧
 lsK k perm x = lsK k perm x ∧
 True ∧
 True ∧
 True ∧
 layF (List.replicate (switchesF k).toNat (0 : Int)) (0 : Nat)
 (List.take
 ((List.replicate (switchesF k).toNat (0 : Int)).length -
 (0 : Nat))
 (fsK k perm x)) =
 otK k perm x0 ∧
 True) ∧
 (0 : Int) = (↑x0 : Int) ∧
 ((↑(min ((List.replicate (switchesF k).toNat (0 : Int)).length - (0 : Nat))
 (fsK k perm x).length) :
 Int).toNat =
 plK k x0 ∧
 (layF (List.replicate (switchesF k).toNat (0 : Int)) (0 : Nat)
 (List.take
 ((List.replicate (switchesF k).toNat (0 : Int)).length - (0 : Nat))
 (fsK k perm x))).length =
 (otK k perm x0).length) ∧
 (iaK k perm x = iaK k perm (nK k) ∧ ibK k perm x = ibK k perm (nK k) ∧ True) ∧
 True ∧ True ∧ k = k ∧ True) ∧
 ∀ (x_2 : Nat),
 x_2 ≤ (2 : Nat) →
 ((↑x_2 : Int) < (2 : Int) →
 (↑x_2 : Int) < (2 : Int) ∧
 ((0 : Int) ≤ (↑x_2 : Int) ∧ (↑x_2 : Int) < (↑(2 : Nat) : Int)) ∧
 (True ∧
 ((↑x_2 : Int) = (↑(0 : Nat) : Int) →
 Fits IntKind.i64 (k - (1 : Int)) ∧
 ((((1 : Int) ≤ k - (1 : Int) ∧ k - (1 : Int) ≤ (3 : Int)) ∧
 (↑(iaK k perm (nK k)).length : Int) =
 (↑((2 : Nat) ^ (k - (1 : Int)).toNat) : Int) ∧
 (∀ (x : Int),
 x ∈ iaK k perm (nK k) →
 (0 : Int) ≤ x ∧
 x < (↑((2 : Nat) ^ (k - (1 : Int)).toNat) : Int)) ∧
 (iaK k perm (nK k)).Nodup) ∧
 m68 (k - (1 : Int), iaK k perm (nK k)) < m68 (k, perm)) ∧
 ((0 : Int) ≤
 (↑(min ((otK k perm x_2).length - plK k x_2)
 (setF (k - (1 : Int)).toNat
 (iaK k perm (nK k))).length) :
 Int) ∧
 (↑(plK k x_2) : Int) +
 (↑(min ((otK k perm x_2).length - plK k x_2)
 (setF (k - (1 : Int)).toNat
 (iaK k perm (nK k))).length) :
 Int) ≤
 (↑(layF (otK k perm x_2) (plK k x_2)
 (List.take ((otK k perm x_2).length - plK k x_2)
 (setF (k - (1 : Int)).toNat
 (iaK k perm (nK k))))).length :
 Int)) ∧
 Fits IntKind.i64 ((↑x_2 : Int) + (1 : Int)) ∧
 ∃ (x' : Nat),
 x' ≤ (2 : Nat) ∧
 (2 : Nat) - x' < (2 : Nat) - x_2 ∧
 (True ∧
 True ∧
 True ∧
 fsK k perm x = fsK k perm x ∧
 lsK k perm x = lsK k perm x ∧
 True ∧
 True ∧
 True ∧
 layF (otK k perm x_2) (plK k x_2)
 (List.take
 ((otK k perm x_2).length -
 plK k x_2)
 (setF (k - (1 : Int)).toNat
 (iaK k perm (nK k)))) =
 otK k perm x' ∧
 True) ∧
 (↑x_2 : Int) + (1 : Int) = (↑x' : Int) ∧
 (plK k x_2 +
 (↑(min ((otK k perm x_2).length - plK k x_2)
 (setF (k - (1 : Int)).toNat
 (iaK k perm (nK k))).length) :
 Int).toNat =
 plK k x' ∧
 (layF (otK k perm x_2) (plK k x_2)
 (List.take
 ((otK k perm x_2).length - plK k x_2)
 (setF (k - (1 : Int)).toNat
 (iaK k perm (nK k))))).length =
 (otK k perm x').length) ∧
 (iaK k perm (nK k) = iaK k perm (nK k) ∧
 ibK k perm (nK k) = ibK k perm (nK k) ∧
 True) ∧
 True ∧ True ∧ k = k ∧ True)) ∧
 ((↑x_2 : Int) = (↑(1 : Nat) : Int) →
 Fits IntKind.i64 (k - (1 : Int)) ∧
 ((((1 : Int) ≤ k - (1 : Int) ∧ k - (1 : Int) ≤ (3 : Int)) ∧
 (↑(ibK k perm (nK k)).length : Int) =
 (↑((2 : Nat) ^ (k - (1 : Int)).toNat) : Int) ∧
 (∀ (x : Int),
 x ∈ ibK k perm (nK k) →
 (0 : Int) ≤ x ∧
 x < (↑((2 : Nat) ^ (k - (1 : Int)).toNat) : Int)) ∧
 (ibK k perm (nK k)).Nodup) ∧
 m68 (k - (1 : Int), ibK k perm (nK k)) < m68 (k, perm)) ∧
 ((0 : Int) ≤
 (↑(min ((otK k perm x_2).length - plK k x_2)
 (setF (k - (1 : Int)).toNat
 (ibK k perm (nK k))).length) :
 Int) ∧
 (↑(plK k x_2) : Int) +
 (↑(min ((otK k perm x_2).length - plK k x_2)
 (setF (k - (1 : Int)).toNat
 (ibK k perm (nK k))).length) :
 Int) ≤
 (↑(layF (otK k perm x_2) (plK k x_2)
 (List.take ((otK k perm x_2).length - plK k x_2)
 (setF (k - (1 : Int)).toNat
 (ibK k perm (nK k))))).length :
 Int)) ∧
 Fits IntKind.i64 ((↑x_2 : Int) + (1 : Int)) ∧
 ∃ (x' : Nat),
 x' ≤ (2 : Nat) ∧
 (2 : Nat) - x' < (2 : Nat) - x_2 ∧
 (True ∧
 True ∧
 True ∧
 fsK k perm x = fsK k perm x ∧
 lsK k perm x = lsK k perm x ∧
 True ∧
 True ∧
 True ∧
 layF (otK k perm x_2) (plK k x_2)
 (List.take
 ((otK k perm x_2).length -
 plK k x_2)
 (setF (k - (1 : Int)).toNat
 (ibK k perm (nK k)))) =
 otK k perm x' ∧
 True) ∧
 (↑x_2 : Int) + (1 : Int) = (↑x' : Int) ∧
 (plK k x_2 +
 (↑(min ((otK k perm x_2).length - plK k x_2)
 (setF (k - (1 : Int)).toNat
 (ibK k perm (nK k))).length) :
 Int).toNat =
 plK k x' ∧
 (layF (otK k perm x_2) (plK k x_2)
 (List.take
 ((otK k perm x_2).length - plK k x_2)
 (setF (k - (1 : Int)).toNat
 (ibK k perm (nK k))))).length =
 (otK k perm x').length) ∧
 (iaK k perm (nK k) = iaK k perm (nK k) ∧
 ibK k perm (nK k) = ibK k perm (nK k) ∧ True) ∧
 True ∧ True ∧ k = k ∧ True)) ∧
 (¬(↑x_2 : Int) < (2 : Int) →
 ¬(↑x_2 : Int) < (2 : Int) ∧
 layF (otK k perm x_2) (plK k x_2)
 (List.take ((otK k perm x_2).length - plK k x_2) (lsK k perm x)) =
 setF k.toNat perm))) ∧
 ((0 : Int) ≤ (1 : Int) * (2 : Int) ^ k.toNat / (2 : Int) ∧
 (1 : Int) * (2 : Int) ^ k.toNat / (2 : Int) ≤ (1 : Int) * (2 : Int) ^ k.toNat / (2 : Int) ∧
 Small ((1 : Int) * (2 : Int) ^ k.toNat / (2 : Int)).toNat) ∧
 (∃ (x0 : Nat),
 x0 ≤ nK k ∧
 (True ∧
 ptK k perm x_1 = ptK k perm x_1 ∧
 True ∧
 List.replicate ((1 : Int) * (2 : Int) ^ k.toNat / (2 : Int)).toNat (0 : Int) = fsK k perm x0 ∧
 List.replicate ((1 : Int) * (2 : Int) ^ k.toNat / (2 : Int)).toNat (0 : Int) =
 lsK k perm x0 ∧
 List.replicate ((1 : Int) * (2 : Int) ^ k.toNat / (2 : Int)).toNat (0 : Int) =
 ibK k perm x0 ∧
 (True ∧ True ∧ True) ∧
 List.replicate ((1 : Int) * (2 : Int) ^ k.toNat / (2 : Int)).toNat (0 : Int) =
 iaK k perm x0 ∧
 True) ∧
 (0 : Int) = (↑x0 : Int) ∧
 (↑perm.length : Int) = (↑perm.length : Int) ∧
 perm = perm ∧ True ∧ True ∧ True ∧ True ∧ k = k ∧ perm = perm ∧ True) ∧
 ∀ (x : Nat),
 x ≤ nK k →
 ((↑x : Int) < (↑perm.length : Int) →
 (↑x : Int) < (↑perm.length : Int) ∧
 ((0 : Int) ≤ (↑x : Int) ∧ (↑x : Int) < (↑perm.length : Int)) ∧
 ((0 : Int) ≤ (↑x : Int) ∧ (↑x : Int) < (↑(ptK k perm x_1).length : Int)) ∧
 ((0 : Int) ≤ (ptK k perm x_1).getD (↑x : Int).toNat (0 : Int) ∧
 (ptK k perm x_1).getD (↑x : Int).toNat (0 : Int) < (↑(2 : Nat) : Int)) ∧
 (True ∧
 ((ptK k perm x_1).getD (↑x : Int).toNat (0 : Int) = (↑(0 : Nat) : Int) →
 ((0 : Int) ≤ (↑x : Int) ∧ (0 : Int) < (2 : Int)) ∧
 Fits IntKind.i64 ((↑x : Int) / (2 : Int)) ∧
 ((0 : Int) ≤ perm.getD (↑x : Int).toNat (0 : Int) ∧ (0 : Int) < (2 : Int)) ∧
 Fits IntKind.i64 (perm.getD (↑x : Int).toNat (0 : Int) / (2 : Int)) ∧
 ((0 : Int) ≤ (↑x : Int) / (2 : Int) ∧
 (↑x : Int) / (2 : Int) < (↑(iaK k perm x).length : Int)) ∧
 ((0 : Int) ≤ (↑x : Int) ∧ (0 : Int) < (2 : Int)) ∧
 ((↑x : Int) % (2 : Int) = (0 : Int) →
 (↑x : Int) % (2 : Int) = (0 : Int) ∧
 ((0 : Int) ≤ (↑x : Int) ∧ (0 : Int) < (2 : Int)) ∧
 Fits IntKind.i64 ((↑x : Int) / (2 : Int)) ∧
 ((0 : Int) ≤ (↑x : Int) ∧
 (↑x : Int) < (↑(ptK k perm x_1).length : Int)) ∧
 ((0 : Int) ≤ (↑x : Int) / (2 : Int) ∧
 (↑x : Int) / (2 : Int) <
 (↑(fsK k perm x).length : Int)) ∧
 ((0 : Int) ≤ perm.getD (↑x : Int).toNat (0 : Int) ∧
 (0 : Int) < (2 : Int)) ∧
 (perm.getD (↑x : Int).toNat (0 : Int) % (2 : Int) =
 (0 : Int) →
 perm.getD (↑x : Int).toNat (0 : Int) % (2 : Int) =
 (0 : Int) ∧
 ((0 : Int) ≤
 perm.getD (↑x : Int).toNat (0 : Int) ∧
 (0 : Int) < (2 : Int)) ∧
 Fits IntKind.i64
 (perm.getD (↑x : Int).toNat (0 : Int) /
 (2 : Int)) ∧
 ((0 : Int) ≤ (↑x : Int) ∧
 (↑x : Int) <
 (↑(ptK k perm x_1).length : Int)) ∧
 ((0 : Int) ≤
 perm.getD (↑x : Int).toNat (0 : Int) /
 (2 : Int) ∧
 perm.getD (↑x : Int).toNat (0 : Int) /
 (2 : Int) <
 (↑(lsK k perm x).length : Int)) ∧
 Fits IntKind.i64
 ((↑x : Int) + (1 : Int)) ∧
 ∃ (x' : Nat),
 x' ≤ nK k ∧
 nK k - x' < nK k - x ∧
 (True ∧
 ptK k perm x_1 =
 ptK k perm x_1 ∧
 True ∧
 (fsK k perm x).set
 ((↑x : Int) /
 (2 : Int)).toNat
 (IntKind.u8.wrap
 ((48 : Int) +
 IntKind.u8.wrap
 ((ptK k perm
 x_1).getD
 (↑x :
 Int).toNat
 (0 :
 Int)))) =
 fsK k perm x' ∧
 (lsK k perm x).set
 (perm.getD
 (↑x :
 Int).toNat
 (0 : Int) /
 (2 :
 Int)).toNat
 (IntKind.u8.wrap
 ((48 : Int) +
 IntKind.u8.wrap
 ((ptK k perm
 x_1).getD
 (↑x :
 Int).toNat
 (0 :
 Int)))) =
 lsK k perm x' ∧
 ibK k perm x =
 ibK k perm x' ∧
 (True ∧
 True ∧ True) ∧
 (iaK k perm x).set
 ((↑x :
 Int) /
 (2 :
 Int)).toNat
 (perm.getD
 (↑x :
 Int).toNat
 (0 :
 Int) /
 (2 :
 Int)) =
 iaK k perm
 x' ∧
 True) ∧
 (↑x : Int) + (1 : Int) =
 (↑x' : Int) ∧
 (↑perm.length : Int) =
 (↑perm.length : Int) ∧
 perm = perm ∧
 True ∧
 True ∧
 True ∧
 True ∧
 k = k ∧
 perm = perm ∧
 True) ∧
 (¬perm.getD (↑x : Int).toNat (0 : Int) % (2 : Int) =
 (0 : Int) →
 ¬perm.getD (↑x : Int).toNat (0 : Int) % (2 : Int) =
 (0 : Int) ∧
 Fits IntKind.i64 ((↑x : Int) + (1 : Int)) ∧
 ∃ (x' : Nat),
 x' ≤ nK k ∧
 nK k - x' < nK k - x ∧
 (True ∧
 ptK k perm x_1 = ptK k perm x_1 ∧
 True ∧
 (fsK k perm x).set
 ((↑x : Int) /
 (2 : Int)).toNat
 (IntKind.u8.wrap
 ((48 : Int) +
 IntKind.u8.wrap
 ((ptK k perm x_1).getD
 (↑x : Int).toNat
 (0 : Int)))) =
 fsK k perm x' ∧
 lsK k perm x = lsK k perm x' ∧
 ibK k perm x = ibK k perm x' ∧
 (True ∧ True ∧ True) ∧
 (iaK k perm x).set
 ((↑x : Int) /
 (2 : Int)).toNat
 (perm.getD
 (↑x : Int).toNat
 (0 : Int) /
 (2 : Int)) =
 iaK k perm x' ∧
 True) ∧
 (↑x : Int) + (1 : Int) = (↑x' : Int) ∧
 (↑perm.length : Int) =
 (↑perm.length : Int) ∧
 perm = perm ∧
 True ∧
 True ∧
 True ∧
 True ∧
 k = k ∧
 perm = perm ∧ True)) ∧
 (¬(↑x : Int) % (2 : Int) = (0 : Int) →
 ¬(↑x : Int) % (2 : Int) = (0 : Int) ∧
 ((0 : Int) ≤ perm.getD (↑x : Int).toNat (0 : Int) ∧
 (0 : Int) < (2 : Int)) ∧
 (perm.getD (↑x : Int).toNat (0 : Int) % (2 : Int) = (0 : Int) →
 perm.getD (↑x : Int).toNat (0 : Int) % (2 : Int) =
 (0 : Int) ∧
 ((0 : Int) ≤ perm.getD (↑x : Int).toNat (0 : Int) ∧
 (0 : Int) < (2 : Int)) ∧
 Fits IntKind.i64
 (perm.getD (↑x : Int).toNat (0 : Int) / (2 : Int)) ∧
 ((0 : Int) ≤ (↑x : Int) ∧
 (↑x : Int) < (↑(ptK k perm x_1).length : Int)) ∧
 ((0 : Int) ≤
 perm.getD (↑x : Int).toNat (0 : Int) /
 (2 : Int) ∧
 perm.getD (↑x : Int).toNat (0 : Int) /
 (2 : Int) <
 (↑(lsK k perm x).length : Int)) ∧
 Fits IntKind.i64 ((↑x : Int) + (1 : Int)) ∧
 ∃ (x' : Nat),
 x' ≤ nK k ∧
 nK k - x' < nK k - x ∧
 (True ∧
 ptK k perm x_1 = ptK k perm x_1 ∧
 True ∧
 fsK k perm x = fsK k perm x' ∧
 (lsK k perm x).set
 (perm.getD
 (↑x : Int).toNat
 (0 : Int) /
 (2 : Int)).toNat
 (IntKind.u8.wrap
 ((48 : Int) +
 IntKind.u8.wrap
 ((ptK k perm
 x_1).getD
 (↑x : Int).toNat
 (0 : Int)))) =
 lsK k perm x' ∧
 ibK k perm x = ibK k perm x' ∧
 (True ∧ True ∧ True) ∧
 (iaK k perm x).set
 ((↑x : Int) /
 (2 : Int)).toNat
 (perm.getD
 (↑x : Int).toNat
 (0 : Int) /
 (2 : Int)) =
 iaK k perm x' ∧
 True) ∧
 (↑x : Int) + (1 : Int) = (↑x' : Int) ∧
 (↑perm.length : Int) =
 (↑perm.length : Int) ∧
 perm = perm ∧
 True ∧
 True ∧
 True ∧
 True ∧
 k = k ∧
 perm = perm ∧ True) ∧
 (¬perm.getD (↑x : Int).toNat (0 : Int) % (2 : Int) =
 (0 : Int) →
 ¬perm.getD (↑x : Int).toNat (0 : Int) % (2 : Int) =
 (0 : Int) ∧
 Fits IntKind.i64 ((↑x : Int) + (1 : Int)) ∧
 ∃ (x' : Nat),
 x' ≤ nK k ∧
 nK k - x' < nK k - x ∧
 (True ∧
 ptK k perm x_1 = ptK k perm x_1 ∧
 True ∧
 fsK k perm x = fsK k perm x' ∧
 lsK k perm x = lsK k perm x' ∧
 ibK k perm x = ibK k perm x' ∧
 (True ∧ True ∧ True) ∧
 (iaK k perm x).set
 ((↑x : Int) /
 (2 : Int)).toNat
 (perm.getD (↑x : Int).toNat
 (0 : Int) /
 (2 : Int)) =
 iaK k perm x' ∧
 True) ∧
 (↑x : Int) + (1 : Int) = (↑x' : Int) ∧
 (↑perm.length : Int) = (↑perm.length : Int) ∧
 perm = perm ∧
 True ∧
 True ∧
 True ∧
 True ∧
 k = k ∧ perm = perm ∧ True)))) ∧
 ((ptK k perm x_1).getD (↑x : Int).toNat (0 : Int) = (↑(1 : Nat) : Int) →
 ((0 : Int) ≤ (↑x : Int) ∧ (0 : Int) < (2 : Int)) ∧
 Fits IntKind.i64 ((↑x : Int) / (2 : Int)) ∧
 ((0 : Int) ≤ perm.getD (↑x : Int).toNat (0 : Int) ∧ (0 : Int) < (2 : Int)) ∧
 Fits IntKind.i64 (perm.getD (↑x : Int).toNat (0 : Int) / (2 : Int)) ∧
 ((0 : Int) ≤ (↑x : Int) / (2 : Int) ∧
 (↑x : Int) / (2 : Int) < (↑(ibK k perm x).length : Int)) ∧
 ((0 : Int) ≤ (↑x : Int) ∧ (0 : Int) < (2 : Int)) ∧
 ((↑x : Int) % (2 : Int) = (0 : Int) →
 (↑x : Int) % (2 : Int) = (0 : Int) ∧
 ((0 : Int) ≤ (↑x : Int) ∧ (0 : Int) < (2 : Int)) ∧
 Fits IntKind.i64 ((↑x : Int) / (2 : Int)) ∧
 ((0 : Int) ≤ (↑x : Int) ∧
 (↑x : Int) < (↑(ptK k perm x_1).length : Int)) ∧
 ((0 : Int) ≤ (↑x : Int) / (2 : Int) ∧
 (↑x : Int) / (2 : Int) < (↑(fsK k perm x).length : Int)) ∧
 ((0 : Int) ≤ perm.getD (↑x : Int).toNat (0 : Int) ∧
 (0 : Int) < (2 : Int)) ∧
 (perm.getD (↑x : Int).toNat (0 : Int) % (2 : Int) =
 (0 : Int) →
 perm.getD (↑x : Int).toNat (0 : Int) % (2 : Int) =
 (0 : Int) ∧
 ((0 : Int) ≤ perm.getD (↑x : Int).toNat (0 : Int) ∧
 (0 : Int) < (2 : Int)) ∧
 Fits IntKind.i64
 (perm.getD (↑x : Int).toNat (0 : Int) /
 (2 : Int)) ∧
 ((0 : Int) ≤ (↑x : Int) ∧
 (↑x : Int) <
 (↑(ptK k perm x_1).length : Int)) ∧
 ((0 : Int) ≤
 perm.getD (↑x : Int).toNat (0 : Int) /
 (2 : Int) ∧
 perm.getD (↑x : Int).toNat (0 : Int) /
 (2 : Int) <
 (↑(lsK k perm x).length : Int)) ∧
 Fits IntKind.i64 ((↑x : Int) + (1 : Int)) ∧
 ∃ (x' : Nat),
 x' ≤ nK k ∧
 nK k - x' < nK k - x ∧
 (True ∧
 ptK k perm x_1 =
 ptK k perm x_1 ∧
 True ∧
 (fsK k perm x).set
 ((↑x : Int) /
 (2 : Int)).toNat
 (IntKind.u8.wrap
 ((48 : Int) +
 IntKind.u8.wrap
 ((ptK k perm
 x_1).getD
 (↑x :
 Int).toNat
 (0 : Int)))) =
 fsK k perm x' ∧
 (lsK k perm x).set
 (perm.getD
 (↑x :
 Int).toNat
 (0 : Int) /
 (2 : Int)).toNat
 (IntKind.u8.wrap
 ((48 : Int) +
 IntKind.u8.wrap
 ((ptK k perm
 x_1).getD
 (↑x :
 Int).toNat
 (0 :
 Int)))) =
 lsK k perm x' ∧
 (ibK k perm x).set
 ((↑x : Int) /
 (2 :
 Int)).toNat
 (perm.getD
 (↑x :
 Int).toNat
 (0 : Int) /
 (2 : Int)) =
 ibK k perm x' ∧
 (True ∧ True ∧ True) ∧
 iaK k perm x =
 iaK k perm x' ∧
 True) ∧
 (↑x : Int) + (1 : Int) =
 (↑x' : Int) ∧
 (↑perm.length : Int) =
 (↑perm.length : Int) ∧
 perm = perm ∧
 True ∧
 True ∧
 True ∧
 True ∧
 k = k ∧
 perm = perm ∧
 True) ∧
 (¬perm.getD (↑x : Int).toNat (0 : Int) % (2 : Int) =
 (0 : Int) →
 ¬perm.getD (↑x : Int).toNat (0 : Int) % (2 : Int) =
 (0 : Int) ∧
 Fits IntKind.i64 ((↑x : Int) + (1 : Int)) ∧
 ∃ (x' : Nat),
 x' ≤ nK k ∧
 nK k - x' < nK k - x ∧
 (True ∧
 ptK k perm x_1 = ptK k perm x_1 ∧
 True ∧
 (fsK k perm x).set
 ((↑x : Int) / (2 : Int)).toNat
 (IntKind.u8.wrap
 ((48 : Int) +
 IntKind.u8.wrap
 ((ptK k perm x_1).getD
 (↑x : Int).toNat
 (0 : Int)))) =
 fsK k perm x' ∧
 lsK k perm x = lsK k perm x' ∧
 (ibK k perm x).set
 ((↑x : Int) /
 (2 : Int)).toNat
 (perm.getD
 (↑x : Int).toNat
 (0 : Int) /
 (2 : Int)) =
 ibK k perm x' ∧
 (True ∧ True ∧ True) ∧
 iaK k perm x =
 iaK k perm x' ∧
 True) ∧
 (↑x : Int) + (1 : Int) = (↑x' : Int) ∧
 (↑perm.length : Int) =
 (↑perm.length : Int) ∧
 perm = perm ∧
 True ∧
 True ∧
 True ∧
 True ∧
 k = k ∧
 perm = perm ∧ True)) ∧
 (¬(↑x : Int) % (2 : Int) = (0 : Int) →
 ¬(↑x : Int) % (2 : Int) = (0 : Int) ∧
 ((0 : Int) ≤ perm.getD (↑x : Int).toNat (0 : Int) ∧
 (0 : Int) < (2 : Int)) ∧
 (perm.getD (↑x : Int).toNat (0 : Int) % (2 : Int) = (0 : Int) →
 perm.getD (↑x : Int).toNat (0 : Int) % (2 : Int) = (0 : Int) ∧
 ((0 : Int) ≤ perm.getD (↑x : Int).toNat (0 : Int) ∧
 (0 : Int) < (2 : Int)) ∧
 Fits IntKind.i64
 (perm.getD (↑x : Int).toNat (0 : Int) / (2 : Int)) ∧
 ((0 : Int) ≤ (↑x : Int) ∧
 (↑x : Int) < (↑(ptK k perm x_1).length : Int)) ∧
 ((0 : Int) ≤
 perm.getD (↑x : Int).toNat (0 : Int) /
 (2 : Int) ∧
 perm.getD (↑x : Int).toNat (0 : Int) / (2 : Int) <
 (↑(lsK k perm x).length : Int)) ∧
 Fits IntKind.i64 ((↑x : Int) + (1 : Int)) ∧
 ∃ (x' : Nat),
 x' ≤ nK k ∧
 nK k - x' < nK k - x ∧
 (True ∧
 ptK k perm x_1 = ptK k perm x_1 ∧
 True ∧
 fsK k perm x = fsK k perm x' ∧
 (lsK k perm x).set
 (perm.getD (↑x : Int).toNat
 (0 : Int) /
 (2 : Int)).toNat
 (IntKind.u8.wrap
 ((48 : Int) +
 IntKind.u8.wrap
 ((ptK k perm x_1).getD
 (↑x : Int).toNat
 (0 : Int)))) =
 lsK k perm x' ∧
 (ibK k perm x).set
 ((↑x : Int) /
 (2 : Int)).toNat
 (perm.getD
 (↑x : Int).toNat
 (0 : Int) /
 (2 : Int)) =
 ibK k perm x' ∧
 (True ∧ True ∧ True) ∧
 iaK k perm x =
 iaK k perm x' ∧
 True) ∧
 (↑x : Int) + (1 : Int) = (↑x' : Int) ∧
 (↑perm.length : Int) =
 (↑perm.length : Int) ∧
 perm = perm ∧
 True ∧
 True ∧
 True ∧
 True ∧
 k = k ∧
 perm = perm ∧ True) ∧
 (¬perm.getD (↑x : Int).toNat (0 : Int) % (2 : Int) = (0 : Int) →
 ¬perm.getD (↑x : Int).toNat (0 : Int) % (2 : Int) =
 (0 : Int) ∧
 Fits IntKind.i64 ((↑x : Int) + (1 : Int)) ∧
 ∃ (x' : Nat),
 x' ≤ nK k ∧
 nK k - x' < nK k - x ∧
 (True ∧
 ptK k perm x_1 = ptK k perm x_1 ∧
 True ∧
 fsK k perm x = fsK k perm x' ∧
 lsK k perm x = lsK k perm x' ∧
 (ibK k perm x).set
 ((↑x : Int) / (2 : Int)).toNat
 (perm.getD (↑x : Int).toNat
 (0 : Int) /
 (2 : Int)) =
 ibK k perm x' ∧
 (True ∧ True ∧ True) ∧
 iaK k perm x = iaK k perm x' ∧
 True) ∧
 (↑x : Int) + (1 : Int) = (↑x' : Int) ∧
 (↑perm.length : Int) = (↑perm.length : Int) ∧
 perm = perm ∧
 True ∧
 True ∧
 True ∧
 True ∧
 k = k ∧ perm = perm ∧ True)))) ∧
 (¬(↑x : Int) < (↑perm.length : Int) →
 ¬(↑x : Int) < (↑perm.length : Int) ∧
 ((1 : Int) ≤ k ∧ k ≤ (3 : Int)) ∧
 ((0 : Int) ≤ switchesF k ∧ switchesF k ≤ switchesF k ∧ Small (switchesF k).toNat) ∧
 ((0 : Int) ≤
 (↑(min ((List.replicate (switchesF k).toNat (0 : Int)).length - (0 : Nat))
 (fsK k perm x).length) :
 Int) ∧
 (↑(min ((List.replicate (switchesF k).toNat (0 : Int)).length - (0 : Nat))
 (fsK k perm x).length) :
 Int) ≤
 (↑(layF (List.replicate (switchesF k).toNat (0 : Int)) (0 : Nat)
 (List.take ((List.replicate (switchesF k).toNat (0 : Int)).length - (0 : Nat))
 (fsK k perm x))).length :
 Int)) ∧
 (∃ (x0 : Nat),
 x0 ≤ (2 : Nat) ∧
 (True ∧
 True ∧
 True ∧
 fsK k perm x = fsK k perm x ∧
 lsK k perm x = lsK k perm x ∧
 True ∧
 True ∧
 True ∧
 layF (List.replicate (switchesF k).toNat (0 : Int)) (0 : Nat)
 (List.take
 ((List.replicate (switchesF k).toNat (0 : Int)).length -
 (0 : Nat))
 (fsK k perm x)) =
 otK k perm x0 ∧
 True) ∧
 (0 : Int) = (↑x0 : Int) ∧
 ((↑(min ((List.replicate (switchesF k).toNat (0 : Int)).length - (0 : Nat))
 (fsK k perm x).length) :
 Int).toNat =
 plK k x0 ∧
 (layF (List.replicate (switchesF k).toNat (0 : Int)) (0 : Nat)
 (List.take
 ((List.replicate (switchesF k).toNat (0 : Int)).length - (0 : Nat))
 (fsK k perm x))).length =
 (otK k perm x0).length) ∧
 (iaK k perm x = iaK k perm (nK k) ∧ ibK k perm x = ibK k perm (nK k) ∧ True) ∧
 True ∧ True ∧ k = k ∧ True) ∧
 ∀ (x_2 : Nat),
 x_2 ≤ (2 : Nat) →
 ((↑x_2 : Int) < (2 : Int) →
 (↑x_2 : Int) < (2 : Int) ∧
 ((0 : Int) ≤ (↑x_2 : Int) ∧ (↑x_2 : Int) < (↑(2 : Nat) : Int)) ∧
 (True ∧
 ((↑x_2 : Int) = (↑(0 : Nat) : Int) →
 Fits IntKind.i64 (k - (1 : Int)) ∧
 ((((1 : Int) ≤ k - (1 : Int) ∧ k - (1 : Int) ≤ (3 : Int)) ∧
 (↑(iaK k perm (nK k)).length : Int) =
 (↑((2 : Nat) ^ (k - (1 : Int)).toNat) : Int) ∧
 (∀ (x : Int),
 x ∈ iaK k perm (nK k) →
 (0 : Int) ≤ x ∧
 x < (↑((2 : Nat) ^ (k - (1 : Int)).toNat) : Int)) ∧
 (iaK k perm (nK k)).Nodup) ∧
 m68 (k - (1 : Int), iaK k perm (nK k)) < m68 (k, perm)) ∧
 ((0 : Int) ≤
 (↑(min ((otK k perm x_2).length - plK k x_2)
 (setF (k - (1 : Int)).toNat
 (iaK k perm (nK k))).length) :
 Int) ∧
 (↑(plK k x_2) : Int) +
 (↑(min ((otK k perm x_2).length - plK k x_2)
 (setF (k - (1 : Int)).toNat
 (iaK k perm (nK k))).length) :
 Int) ≤
 (↑(layF (otK k perm x_2) (plK k x_2)
 (List.take ((otK k perm x_2).length - plK k x_2)
 (setF (k - (1 : Int)).toNat
 (iaK k perm (nK k))))).length :
 Int)) ∧
 Fits IntKind.i64 ((↑x_2 : Int) + (1 : Int)) ∧
 ∃ (x' : Nat),
 x' ≤ (2 : Nat) ∧
 (2 : Nat) - x' < (2 : Nat) - x_2 ∧
 (True ∧
 True ∧
 True ∧
 fsK k perm x = fsK k perm x ∧
 lsK k perm x = lsK k perm x ∧
 True ∧
 True ∧
 True ∧
 layF (otK k perm x_2) (plK k x_2)
 (List.take
 ((otK k perm x_2).length -
 plK k x_2)
 (setF (k - (1 : Int)).toNat
 (iaK k perm (nK k)))) =
 otK k perm x' ∧
 True) ∧
 (↑x_2 : Int) + (1 : Int) = (↑x' : Int) ∧
 (plK k x_2 +
 (↑(min ((otK k perm x_2).length - plK k x_2)
 (setF (k - (1 : Int)).toNat
 (iaK k perm (nK k))).length) :
 Int).toNat =
 plK k x' ∧
 (layF (otK k perm x_2) (plK k x_2)
 (List.take
 ((otK k perm x_2).length - plK k x_2)
 (setF (k - (1 : Int)).toNat
 (iaK k perm (nK k))))).length =
 (otK k perm x').length) ∧
 (iaK k perm (nK k) = iaK k perm (nK k) ∧
 ibK k perm (nK k) = ibK k perm (nK k) ∧
 True) ∧
 True ∧ True ∧ k = k ∧ True)) ∧
 ((↑x_2 : Int) = (↑(1 : Nat) : Int) →
 Fits IntKind.i64 (k - (1 : Int)) ∧
 ((((1 : Int) ≤ k - (1 : Int) ∧ k - (1 : Int) ≤ (3 : Int)) ∧
 (↑(ibK k perm (nK k)).length : Int) =
 (↑((2 : Nat) ^ (k - (1 : Int)).toNat) : Int) ∧
 (∀ (x : Int),
 x ∈ ibK k perm (nK k) →
 (0 : Int) ≤ x ∧
 x < (↑((2 : Nat) ^ (k - (1 : Int)).toNat) : Int)) ∧
 (ibK k perm (nK k)).Nodup) ∧
 m68 (k - (1 : Int), ibK k perm (nK k)) < m68 (k, perm)) ∧
 ((0 : Int) ≤
 (↑(min ((otK k perm x_2).length - plK k x_2)
 (setF (k - (1 : Int)).toNat
 (ibK k perm (nK k))).length) :
 Int) ∧
 (↑(plK k x_2) : Int) +
 (↑(min ((otK k perm x_2).length - plK k x_2)
 (setF (k - (1 : Int)).toNat
 (ibK k perm (nK k))).length) :
 Int) ≤
 (↑(layF (otK k perm x_2) (plK k x_2)
 (List.take ((otK k perm x_2).length - plK k x_2)
 (setF (k - (1 : Int)).toNat
 (ibK k perm (nK k))))).length :
 Int)) ∧
 Fits IntKind.i64 ((↑x_2 : Int) + (1 : Int)) ∧
 ∃ (x' : Nat),
 x' ≤ (2 : Nat) ∧
 (2 : Nat) - x' < (2 : Nat) - x_2 ∧
 (True ∧
 True ∧
 True ∧
 fsK k perm x = fsK k perm x ∧
 lsK k perm x = lsK k perm x ∧
 True ∧
 True ∧
 True ∧
 layF (otK k perm x_2) (plK k x_2)
 (List.take
 ((otK k perm x_2).length -
 plK k x_2)
 (setF (k - (1 : Int)).toNat
 (ibK k perm (nK k)))) =
 otK k perm x' ∧
 True) ∧
 (↑x_2 : Int) + (1 : Int) = (↑x' : Int) ∧
 (plK k x_2 +
 (↑(min ((otK k perm x_2).length - plK k x_2)
 (setF (k - (1 : Int)).toNat
 (ibK k perm (nK k))).length) :
 Int).toNat =
 plK k x' ∧
 (layF (otK k perm x_2) (plK k x_2)
 (List.take
 ((otK k perm x_2).length - plK k x_2)
 (setF (k - (1 : Int)).toNat
 (ibK k perm (nK k))))).length =
 (otK k perm x').length) ∧
 (iaK k perm (nK k) = iaK k perm (nK k) ∧
 ibK k perm (nK k) = ibK k perm (nK k) ∧ True) ∧
 True ∧ True ∧ k = k ∧ True)) ∧
 (¬(↑x_2 : Int) < (2 : Int) →
 ¬(↑x_2 : Int) < (2 : Int) ∧
 layF (otK k perm x_2) (plK k x_2)
 (List.take ((otK k perm x_2).length - plK k x_2) (lsK k perm x)) =
 setF k.toNat perm))) ∧
 (((0 : Int) ≤ (1 : Int) * (2 : Int) ^ k.toNat / (2 : Int) ∧
 (1 : Int) * (2 : Int) ^ k.toNat / (2 : Int) ≤ (1 : Int) * (2 : Int) ^ k.toNat / (2 : Int) ∧
 Small ((1 : Int) * (2 : Int) ^ k.toNat / (2 : Int)).toNat) ∧
 ((0 : Int) ≤ (1 : Int) * (2 : Int) ^ k.toNat / (2 : Int) ∧
 (1 : Int) * (2 : Int) ^ k.toNat / (2 : Int) ≤ (1 : Int) * (2 : Int) ^ k.toNat / (2 : Int) ∧
 Small ((1 : Int) * (2 : Int) ^ k.toNat / (2 : Int)).toNat) ∧
 (∃ (x0 : Nat),
 x0 ≤ nK k ∧
 (True ∧
 ptK k perm x_1 = ptK k perm x_1 ∧
 True ∧
 List.replicate ((1 : Int) * (2 : Int) ^ k.toNat / (2 : Int)).toNat (0 : Int) = fsK k perm x0 ∧
 List.replicate ((1 : Int) * (2 : Int) ^ k.toNat / (2 : Int)).toNat (0 : Int) =
 lsK k perm x0 ∧
 (True ∧ True ∧ True) ∧
 List.replicate ((1 : Int) * (2 : Int) ^ k.toNat / (2 : Int)).toNat (0 : Int) =
 iaK k perm x0 ∧
 List.replicate ((1 : Int) * (2 : Int) ^ k.toNat / (2 : Int)).toNat (0 : Int) =
 ibK k perm x0 ∧
 True) ∧
 (0 : Int) = (↑x0 : Int) ∧
 (↑perm.length : Int) = (↑perm.length : Int) ∧
 perm = perm ∧ True ∧ True ∧ True ∧ True ∧ k = k ∧ perm = perm ∧ True) ∧
 ∀ (x : Nat),
 x ≤ nK k →
 ((↑x : Int) < (↑perm.length : Int) →
 (↑x : Int) < (↑perm.length : Int) ∧
 ((0 : Int) ≤ (↑x : Int) ∧ (↑x : Int) < (↑perm.length : Int)) ∧
 ((0 : Int) ≤ (↑x : Int) ∧ (↑x : Int) < (↑(ptK k perm x_1).length : Int)) ∧
 ((0 : Int) ≤ (ptK k perm x_1).getD (↑x : Int).toNat (0 : Int) ∧
 (ptK k perm x_1).getD (↑x : Int).toNat (0 : Int) < (↑(2 : Nat) : Int)) ∧
 (True ∧
 ((ptK k perm x_1).getD (↑x : Int).toNat (0 : Int) = (↑(0 : Nat) : Int) →
 ((0 : Int) ≤ (↑x : Int) ∧ (0 : Int) < (2 : Int)) ∧
 Fits IntKind.i64 ((↑x : Int) / (2 : Int)) ∧
 ((0 : Int) ≤ perm.getD (↑x : Int).toNat (0 : Int) ∧ (0 : Int) < (2 : Int)) ∧
 Fits IntKind.i64 (perm.getD (↑x : Int).toNat (0 : Int) / (2 : Int)) ∧
 ((0 : Int) ≤ (↑x : Int) / (2 : Int) ∧
 (↑x : Int) / (2 : Int) < (↑(iaK k perm x).length : Int)) ∧
 ((0 : Int) ≤ (↑x : Int) ∧ (0 : Int) < (2 : Int)) ∧
 ((↑x : Int) % (2 : Int) = (0 : Int) →
 (↑x : Int) % (2 : Int) = (0 : Int) ∧
 ((0 : Int) ≤ (↑x : Int) ∧ (0 : Int) < (2 : Int)) ∧
 Fits IntKind.i64 ((↑x : Int) / (2 : Int)) ∧
 ((0 : Int) ≤ (↑x : Int) ∧
 (↑x : Int) < (↑(ptK k perm x_1).length : Int)) ∧
 ((0 : Int) ≤ (↑x : Int) / (2 : Int) ∧
 (↑x : Int) / (2 : Int) <
 (↑(fsK k perm x).length : Int)) ∧
 ((0 : Int) ≤ perm.getD (↑x : Int).toNat (0 : Int) ∧
 (0 : Int) < (2 : Int)) ∧
 (perm.getD (↑x : Int).toNat (0 : Int) % (2 : Int) =
 (0 : Int) →
 perm.getD (↑x : Int).toNat (0 : Int) % (2 : Int) =
 (0 : Int) ∧
 ((0 : Int) ≤
 perm.getD (↑x : Int).toNat (0 : Int) ∧
 (0 : Int) < (2 : Int)) ∧
 Fits IntKind.i64
 (perm.getD (↑x : Int).toNat (0 : Int) /
 (2 : Int)) ∧
 ((0 : Int) ≤ (↑x : Int) ∧
 (↑x : Int) <
 (↑(ptK k perm x_1).length : Int)) ∧
 ((0 : Int) ≤
 perm.getD (↑x : Int).toNat (0 : Int) /
 (2 : Int) ∧
 perm.getD (↑x : Int).toNat (0 : Int) /
 (2 : Int) <
 (↑(lsK k perm x).length : Int)) ∧
 Fits IntKind.i64
 ((↑x : Int) + (1 : Int)) ∧
 ∃ (x' : Nat),
 x' ≤ nK k ∧
 nK k - x' < nK k - x ∧
 (True ∧
 ptK k perm x_1 =
 ptK k perm x_1 ∧
 True ∧
 (fsK k perm x).set
 ((↑x : Int) /
 (2 : Int)).toNat
 (IntKind.u8.wrap
 ((48 : Int) +
 IntKind.u8.wrap
 ((ptK k perm
 x_1).getD
 (↑x :
 Int).toNat
 (0 :
 Int)))) =
 fsK k perm x' ∧
 (lsK k perm x).set
 (perm.getD
 (↑x :
 Int).toNat
 (0 : Int) /
 (2 :
 Int)).toNat
 (IntKind.u8.wrap
 ((48 : Int) +
 IntKind.u8.wrap
 ((ptK k perm
 x_1).getD
 (↑x :
 Int).toNat
 (0 :
 Int)))) =
 lsK k perm x' ∧
 (True ∧ True ∧ True) ∧
 (iaK k perm x).set
 ((↑x : Int) /
 (2 :
 Int)).toNat
 (perm.getD
 (↑x :
 Int).toNat
 (0 :
 Int) /
 (2 : Int)) =
 iaK k perm x' ∧
 ibK k perm x =
 ibK k perm
 x' ∧
 True) ∧
 (↑x : Int) + (1 : Int) =
 (↑x' : Int) ∧
 (↑perm.length : Int) =
 (↑perm.length : Int) ∧
 perm = perm ∧
 True ∧
 True ∧
 True ∧
 True ∧
 k = k ∧
 perm = perm ∧
 True) ∧
 (¬perm.getD (↑x : Int).toNat (0 : Int) % (2 : Int) =
 (0 : Int) →
 ¬perm.getD (↑x : Int).toNat (0 : Int) % (2 : Int) =
 (0 : Int) ∧
 Fits IntKind.i64 ((↑x : Int) + (1 : Int)) ∧
 ∃ (x' : Nat),
 x' ≤ nK k ∧
 nK k - x' < nK k - x ∧
 (True ∧
 ptK k perm x_1 = ptK k perm x_1 ∧
 True ∧
 (fsK k perm x).set
 ((↑x : Int) /
 (2 : Int)).toNat
 (IntKind.u8.wrap
 ((48 : Int) +
 IntKind.u8.wrap
 ((ptK k perm x_1).getD
 (↑x : Int).toNat
 (0 : Int)))) =
 fsK k perm x' ∧
 lsK k perm x = lsK k perm x' ∧
 (True ∧ True ∧ True) ∧
 (iaK k perm x).set
 ((↑x : Int) /
 (2 : Int)).toNat
 (perm.getD
 (↑x : Int).toNat
 (0 : Int) /
 (2 : Int)) =
 iaK k perm x' ∧
 ibK k perm x =
 ibK k perm x' ∧
 True) ∧
 (↑x : Int) + (1 : Int) = (↑x' : Int) ∧
 (↑perm.length : Int) =
 (↑perm.length : Int) ∧
 perm = perm ∧
 True ∧
 True ∧
 True ∧
 True ∧
 k = k ∧
 perm = perm ∧ True)) ∧
 (¬(↑x : Int) % (2 : Int) = (0 : Int) →
 ¬(↑x : Int) % (2 : Int) = (0 : Int) ∧
 ((0 : Int) ≤ perm.getD (↑x : Int).toNat (0 : Int) ∧
 (0 : Int) < (2 : Int)) ∧
 (perm.getD (↑x : Int).toNat (0 : Int) % (2 : Int) = (0 : Int) →
 perm.getD (↑x : Int).toNat (0 : Int) % (2 : Int) =
 (0 : Int) ∧
 ((0 : Int) ≤ perm.getD (↑x : Int).toNat (0 : Int) ∧
 (0 : Int) < (2 : Int)) ∧
 Fits IntKind.i64
 (perm.getD (↑x : Int).toNat (0 : Int) / (2 : Int)) ∧
 ((0 : Int) ≤ (↑x : Int) ∧
 (↑x : Int) < (↑(ptK k perm x_1).length : Int)) ∧
 ((0 : Int) ≤
 perm.getD (↑x : Int).toNat (0 : Int) /
 (2 : Int) ∧
 perm.getD (↑x : Int).toNat (0 : Int) /
 (2 : Int) <
 (↑(lsK k perm x).length : Int)) ∧
 Fits IntKind.i64 ((↑x : Int) + (1 : Int)) ∧
 ∃ (x' : Nat),
 x' ≤ nK k ∧
 nK k - x' < nK k - x ∧
 (True ∧
 ptK k perm x_1 = ptK k perm x_1 ∧
 True ∧
 fsK k perm x = fsK k perm x' ∧
 (lsK k perm x).set
 (perm.getD
 (↑x : Int).toNat
 (0 : Int) /
 (2 : Int)).toNat
 (IntKind.u8.wrap
 ((48 : Int) +
 IntKind.u8.wrap
 ((ptK k perm
 x_1).getD
 (↑x : Int).toNat
 (0 : Int)))) =
 lsK k perm x' ∧
 (True ∧ True ∧ True) ∧
 (iaK k perm x).set
 ((↑x : Int) /
 (2 : Int)).toNat
 (perm.getD
 (↑x : Int).toNat
 (0 : Int) /
 (2 : Int)) =
 iaK k perm x' ∧
 ibK k perm x =
 ibK k perm x' ∧
 True) ∧
 (↑x : Int) + (1 : Int) = (↑x' : Int) ∧
 (↑perm.length : Int) =
 (↑perm.length : Int) ∧
 perm = perm ∧
 True ∧
 True ∧
 True ∧
 True ∧
 k = k ∧
 perm = perm ∧ True) ∧
 (¬perm.getD (↑x : Int).toNat (0 : Int) % (2 : Int) =
 (0 : Int) →
 ¬perm.getD (↑x : Int).toNat (0 : Int) % (2 : Int) =
 (0 : Int) ∧
 Fits IntKind.i64 ((↑x : Int) + (1 : Int)) ∧
 ∃ (x' : Nat),
 x' ≤ nK k ∧
 nK k - x' < nK k - x ∧
 (True ∧
 ptK k perm x_1 = ptK k perm x_1 ∧
 True ∧
 fsK k perm x = fsK k perm x' ∧
 lsK k perm x = lsK k perm x' ∧
 (True ∧ True ∧ True) ∧
 (iaK k perm x).set
 ((↑x : Int) / (2 : Int)).toNat
 (perm.getD (↑x : Int).toNat
 (0 : Int) /
 (2 : Int)) =
 iaK k perm x' ∧
 ibK k perm x = ibK k perm x' ∧
 True) ∧
 (↑x : Int) + (1 : Int) = (↑x' : Int) ∧
 (↑perm.length : Int) = (↑perm.length : Int) ∧
 perm = perm ∧
 True ∧
 True ∧
 True ∧
 True ∧
 k = k ∧ perm = perm ∧ True)))) ∧
 ((ptK k perm x_1).getD (↑x : Int).toNat (0 : Int) = (↑(1 : Nat) : Int) →
 ((0 : Int) ≤ (↑x : Int) ∧ (0 : Int) < (2 : Int)) ∧
 Fits IntKind.i64 ((↑x : Int) / (2 : Int)) ∧
 ((0 : Int) ≤ perm.getD (↑x : Int).toNat (0 : Int) ∧ (0 : Int) < (2 : Int)) ∧
 Fits IntKind.i64 (perm.getD (↑x : Int).toNat (0 : Int) / (2 : Int)) ∧
 ((0 : Int) ≤ (↑x : Int) / (2 : Int) ∧
 (↑x : Int) / (2 : Int) < (↑(ibK k perm x).length : Int)) ∧
 ((0 : Int) ≤ (↑x : Int) ∧ (0 : Int) < (2 : Int)) ∧
 ((↑x : Int) % (2 : Int) = (0 : Int) →
 (↑x : Int) % (2 : Int) = (0 : Int) ∧
 ((0 : Int) ≤ (↑x : Int) ∧ (0 : Int) < (2 : Int)) ∧
 Fits IntKind.i64 ((↑x : Int) / (2 : Int)) ∧
 ((0 : Int) ≤ (↑x : Int) ∧
 (↑x : Int) < (↑(ptK k perm x_1).length : Int)) ∧
 ((0 : Int) ≤ (↑x : Int) / (2 : Int) ∧
 (↑x : Int) / (2 : Int) < (↑(fsK k perm x).length : Int)) ∧
 ((0 : Int) ≤ perm.getD (↑x : Int).toNat (0 : Int) ∧
 (0 : Int) < (2 : Int)) ∧
 (perm.getD (↑x : Int).toNat (0 : Int) % (2 : Int) =
 (0 : Int) →
 perm.getD (↑x : Int).toNat (0 : Int) % (2 : Int) =
 (0 : Int) ∧
 ((0 : Int) ≤ perm.getD (↑x : Int).toNat (0 : Int) ∧
 (0 : Int) < (2 : Int)) ∧
 Fits IntKind.i64
 (perm.getD (↑x : Int).toNat (0 : Int) /
 (2 : Int)) ∧
 ((0 : Int) ≤ (↑x : Int) ∧
 (↑x : Int) <
 (↑(ptK k perm x_1).length : Int)) ∧
 ((0 : Int) ≤
 perm.getD (↑x : Int).toNat (0 : Int) /
 (2 : Int) ∧
 perm.getD (↑x : Int).toNat (0 : Int) /
 (2 : Int) <
 (↑(lsK k perm x).length : Int)) ∧
 Fits IntKind.i64 ((↑x : Int) + (1 : Int)) ∧
 ∃ (x' : Nat),
 x' ≤ nK k ∧
 nK k - x' < nK k - x ∧
 (True ∧
 ptK k perm x_1 =
 ptK k perm x_1 ∧
 True ∧
 (fsK k perm x).set
 ((↑x : Int) /
 (2 : Int)).toNat
 (IntKind.u8.wrap
 ((48 : Int) +
 IntKind.u8.wrap
 ((ptK k perm
 x_1).getD
 (↑x :
 Int).toNat
 (0 : Int)))) =
 fsK k perm x' ∧
 (lsK k perm x).set
 (perm.getD
 (↑x :
 Int).toNat
 (0 : Int) /
 (2 : Int)).toNat
 (IntKind.u8.wrap
 ((48 : Int) +
 IntKind.u8.wrap
 ((ptK k perm
 x_1).getD
 (↑x :
 Int).toNat
 (0 :
 Int)))) =
 lsK k perm x' ∧
 (True ∧ True ∧ True) ∧
 iaK k perm x =
 iaK k perm x' ∧
 (ibK k perm x).set
 ((↑x : Int) /
 (2 :
 Int)).toNat
 (perm.getD
 (↑x :
 Int).toNat
 (0 :
 Int) /
 (2 : Int)) =
 ibK k perm x' ∧
 True) ∧
 (↑x : Int) + (1 : Int) =
 (↑x' : Int) ∧
 (↑perm.length : Int) =
 (↑perm.length : Int) ∧
 perm = perm ∧
 True ∧
 True ∧
 True ∧
 True ∧
 k = k ∧
 perm = perm ∧
 True) ∧
 (¬perm.getD (↑x : Int).toNat (0 : Int) % (2 : Int) =
 (0 : Int) →
 ¬perm.getD (↑x : Int).toNat (0 : Int) % (2 : Int) =
 (0 : Int) ∧
 Fits IntKind.i64 ((↑x : Int) + (1 : Int)) ∧
 ∃ (x' : Nat),
 x' ≤ nK k ∧
 nK k - x' < nK k - x ∧
 (True ∧
 ptK k perm x_1 = ptK k perm x_1 ∧
 True ∧
 (fsK k perm x).set
 ((↑x : Int) / (2 : Int)).toNat
 (IntKind.u8.wrap
 ((48 : Int) +
 IntKind.u8.wrap
 ((ptK k perm x_1).getD
 (↑x : Int).toNat
 (0 : Int)))) =
 fsK k perm x' ∧
 lsK k perm x = lsK k perm x' ∧
 (True ∧ True ∧ True) ∧
 iaK k perm x = iaK k perm x' ∧
 (ibK k perm x).set
 ((↑x : Int) /
 (2 : Int)).toNat
 (perm.getD
 (↑x : Int).toNat
 (0 : Int) /
 (2 : Int)) =
 ibK k perm x' ∧
 True) ∧
 (↑x : Int) + (1 : Int) = (↑x' : Int) ∧
 (↑perm.length : Int) =
 (↑perm.length : Int) ∧
 perm = perm ∧
 True ∧
 True ∧
 True ∧
 True ∧
 k = k ∧
 perm = perm ∧ True)) ∧
 (¬(↑x : Int) % (2 : Int) = (0 : Int) →
 ¬(↑x : Int) % (2 : Int) = (0 : Int) ∧
 ((0 : Int) ≤ perm.getD (↑x : Int).toNat (0 : Int) ∧
 (0 : Int) < (2 : Int)) ∧
 (perm.getD (↑x : Int).toNat (0 : Int) % (2 : Int) = (0 : Int) →
 perm.getD (↑x : Int).toNat (0 : Int) % (2 : Int) = (0 : Int) ∧
 ((0 : Int) ≤ perm.getD (↑x : Int).toNat (0 : Int) ∧
 (0 : Int) < (2 : Int)) ∧
 Fits IntKind.i64
 (perm.getD (↑x : Int).toNat (0 : Int) / (2 : Int)) ∧
 ((0 : Int) ≤ (↑x : Int) ∧
 (↑x : Int) < (↑(ptK k perm x_1).length : Int)) ∧
 ((0 : Int) ≤
 perm.getD (↑x : Int).toNat (0 : Int) /
 (2 : Int) ∧
 perm.getD (↑x : Int).toNat (0 : Int) / (2 : Int) <
 (↑(lsK k perm x).length : Int)) ∧
 Fits IntKind.i64 ((↑x : Int) + (1 : Int)) ∧
 ∃ (x' : Nat),
 x' ≤ nK k ∧
 nK k - x' < nK k - x ∧
 (True ∧
 ptK k perm x_1 = ptK k perm x_1 ∧
 True ∧
 fsK k perm x = fsK k perm x' ∧
 (lsK k perm x).set
 (perm.getD (↑x : Int).toNat
 (0 : Int) /
 (2 : Int)).toNat
 (IntKind.u8.wrap
 ((48 : Int) +
 IntKind.u8.wrap
 ((ptK k perm x_1).getD
 (↑x : Int).toNat
 (0 : Int)))) =
 lsK k perm x' ∧
 (True ∧ True ∧ True) ∧
 iaK k perm x = iaK k perm x' ∧
 (ibK k perm x).set
 ((↑x : Int) /
 (2 : Int)).toNat
 (perm.getD
 (↑x : Int).toNat
 (0 : Int) /
 (2 : Int)) =
 ibK k perm x' ∧
 True) ∧
 (↑x : Int) + (1 : Int) = (↑x' : Int) ∧
 (↑perm.length : Int) =
 (↑perm.length : Int) ∧
 perm = perm ∧
 True ∧
 True ∧
 True ∧
 True ∧
 k = k ∧
 perm = perm ∧ True) ∧
 (¬perm.getD (↑x : Int).toNat (0 : Int) % (2 : Int) = (0 : Int) →
 ¬perm.getD (↑x : Int).toNat (0 : Int) % (2 : Int) =
 (0 : Int) ∧
 Fits IntKind.i64 ((↑x : Int) + (1 : Int)) ∧
 ∃ (x' : Nat),
 x' ≤ nK k ∧
 nK k - x' < nK k - x ∧
 (True ∧
 ptK k perm x_1 = ptK k perm x_1 ∧
 True ∧
 fsK k perm x = fsK k perm x' ∧
 lsK k perm x = lsK k perm x' ∧
 (True ∧ True ∧ True) ∧
 iaK k perm x = iaK k perm x' ∧
 (ibK k perm x).set
 ((↑x : Int) / (2 : Int)).toNat
 (perm.getD (↑x : Int).toNat
 (0 : Int) /
 (2 : Int)) =
 ibK k perm x' ∧
 True) ∧
 (↑x : Int) + (1 : Int) = (↑x' : Int) ∧
 (↑perm.length : Int) = (↑perm.length : Int) ∧
 perm = perm ∧
 True ∧
 True ∧
 True ∧
 True ∧
 k = k ∧ perm = perm ∧ True)))) ∧
 (¬(↑x : Int) < (↑perm.length : Int) →
 ¬(↑x : Int) < (↑perm.length : Int) ∧
 ((1 : Int) ≤ k ∧ k ≤ (3 : Int)) ∧
 ((0 : Int) ≤ switchesF k ∧ switchesF k ≤ switchesF k ∧ Small (switchesF k).toNat) ∧
 ((0 : Int) ≤
 (↑(min ((List.replicate (switchesF k).toNat (0 : Int)).length - (0 : Nat))
 (fsK k perm x).length) :
 Int) ∧
 (↑(min ((List.replicate (switchesF k).toNat (0 : Int)).length - (0 : Nat))
 (fsK k perm x).length) :
 Int) ≤
 (↑(layF (List.replicate (switchesF k).toNat (0 : Int)) (0 : Nat)
 (List.take ((List.replicate (switchesF k).toNat (0 : Int)).length - (0 : Nat))
 (fsK k perm x))).length :
 Int)) ∧
 (∃ (x0 : Nat),
 x0 ≤ (2 : Nat) ∧
 (True ∧
 True ∧
 True ∧
 fsK k perm x = fsK k perm x ∧
 lsK k perm x = lsK k perm x ∧
 True ∧
 True ∧
 True ∧
 layF (List.replicate (switchesF k).toNat (0 : Int)) (0 : Nat)
 (List.take
 ((List.replicate (switchesF k).toNat (0 : Int)).length -
 (0 : Nat))
 (fsK k perm x)) =
 otK k perm x0 ∧
 True) ∧
 (0 : Int) = (↑x0 : Int) ∧
 ((↑(min ((List.replicate (switchesF k).toNat (0 : Int)).length - (0 : Nat))
 (fsK k perm x).length) :
 Int).toNat =
 plK k x0 ∧
 (layF (List.replicate (switchesF k).toNat (0 : Int)) (0 : Nat)
 (List.take
 ((List.replicate (switchesF k).toNat (0 : Int)).length - (0 : Nat))
 (fsK k perm x))).length =
 (otK k perm x0).length) ∧
 (iaK k perm x = iaK k perm (nK k) ∧ ibK k perm x = ibK k perm (nK k) ∧ True) ∧
 True ∧ True ∧ k = k ∧ True) ∧
 ∀ (x_2 : Nat),
 x_2 ≤ (2 : Nat) →
 ((↑x_2 : Int) < (2 : Int) →
 (↑x_2 : Int) < (2 : Int) ∧
 ((0 : Int) ≤ (↑x_2 : Int) ∧ (↑x_2 : Int) < (↑(2 : Nat) : Int)) ∧
 (True ∧
 ((↑x_2 : Int) = (↑(0 : Nat) : Int) →
 Fits IntKind.i64 (k - (1 : Int)) ∧
 ((((1 : Int) ≤ k - (1 : Int) ∧ k - (1 : Int) ≤ (3 : Int)) ∧
 (↑(iaK k perm (nK k)).length : Int) =
 (↑((2 : Nat) ^ (k - (1 : Int)).toNat) : Int) ∧
 (∀ (x : Int),
 x ∈ iaK k perm (nK k) →
 (0 : Int) ≤ x ∧
 x < (↑((2 : Nat) ^ (k - (1 : Int)).toNat) : Int)) ∧
 (iaK k perm (nK k)).Nodup) ∧
 m68 (k - (1 : Int), iaK k perm (nK k)) < m68 (k, perm)) ∧
 ((0 : Int) ≤
 (↑(min ((otK k perm x_2).length - plK k x_2)
 (setF (k - (1 : Int)).toNat
 (iaK k perm (nK k))).length) :
 Int) ∧
 (↑(plK k x_2) : Int) +
 (↑(min ((otK k perm x_2).length - plK k x_2)
 (setF (k - (1 : Int)).toNat
 (iaK k perm (nK k))).length) :
 Int) ≤
 (↑(layF (otK k perm x_2) (plK k x_2)
 (List.take ((otK k perm x_2).length - plK k x_2)
 (setF (k - (1 : Int)).toNat
 (iaK k perm (nK k))))).length :
 Int)) ∧
 Fits IntKind.i64 ((↑x_2 : Int) + (1 : Int)) ∧
 ∃ (x' : Nat),
 x' ≤ (2 : Nat) ∧
 (2 : Nat) - x' < (2 : Nat) - x_2 ∧
 (True ∧
 True ∧
 True ∧
 fsK k perm x = fsK k perm x ∧
 lsK k perm x = lsK k perm x ∧
 True ∧
 True ∧
 True ∧
 layF (otK k perm x_2) (plK k x_2)
 (List.take
 ((otK k perm x_2).length -
 plK k x_2)
 (setF (k - (1 : Int)).toNat
 (iaK k perm (nK k)))) =
 otK k perm x' ∧
 True) ∧
 (↑x_2 : Int) + (1 : Int) = (↑x' : Int) ∧
 (plK k x_2 +
 (↑(min ((otK k perm x_2).length - plK k x_2)
 (setF (k - (1 : Int)).toNat
 (iaK k perm (nK k))).length) :
 Int).toNat =
 plK k x' ∧
 (layF (otK k perm x_2) (plK k x_2)
 (List.take
 ((otK k perm x_2).length - plK k x_2)
 (setF (k - (1 : Int)).toNat
 (iaK k perm (nK k))))).length =
 (otK k perm x').length) ∧
 (iaK k perm (nK k) = iaK k perm (nK k) ∧
 ibK k perm (nK k) = ibK k perm (nK k) ∧
 True) ∧
 True ∧ True ∧ k = k ∧ True)) ∧
 ((↑x_2 : Int) = (↑(1 : Nat) : Int) →
 Fits IntKind.i64 (k - (1 : Int)) ∧
 ((((1 : Int) ≤ k - (1 : Int) ∧ k - (1 : Int) ≤ (3 : Int)) ∧
 (↑(ibK k perm (nK k)).length : Int) =
 (↑((2 : Nat) ^ (k - (1 : Int)).toNat) : Int) ∧
 (∀ (x : Int),
 x ∈ ibK k perm (nK k) →
 (0 : Int) ≤ x ∧
 x < (↑((2 : Nat) ^ (k - (1 : Int)).toNat) : Int)) ∧
 (ibK k perm (nK k)).Nodup) ∧
 m68 (k - (1 : Int), ibK k perm (nK k)) < m68 (k, perm)) ∧
 ((0 : Int) ≤
 (↑(min ((otK k perm x_2).length - plK k x_2)
 (setF (k - (1 : Int)).toNat
 (ibK k perm (nK k))).length) :
 Int) ∧
 (↑(plK k x_2) : Int) +
 (↑(min ((otK k perm x_2).length - plK k x_2)
 (setF (k - (1 : Int)).toNat
 (ibK k perm (nK k))).length) :
 Int) ≤
 (↑(layF (otK k perm x_2) (plK k x_2)
 (List.take ((otK k perm x_2).length - plK k x_2)
 (setF (k - (1 : Int)).toNat
 (ibK k perm (nK k))))).length :
 Int)) ∧
 Fits IntKind.i64 ((↑x_2 : Int) + (1 : Int)) ∧
 ∃ (x' : Nat),
 x' ≤ (2 : Nat) ∧
 (2 : Nat) - x' < (2 : Nat) - x_2 ∧
 (True ∧
 True ∧
 True ∧
 fsK k perm x = fsK k perm x ∧
 lsK k perm x = lsK k perm x ∧
 True ∧
 True ∧
 True ∧
 layF (otK k perm x_2) (plK k x_2)
 (List.take
 ((otK k perm x_2).length -
 plK k x_2)
 (setF (k - (1 : Int)).toNat
 (ibK k perm (nK k)))) =
 otK k perm x' ∧
 True) ∧
 (↑x_2 : Int) + (1 : Int) = (↑x' : Int) ∧
 (plK k x_2 +
 (↑(min ((otK k perm x_2).length - plK k x_2)
 (setF (k - (1 : Int)).toNat
 (ibK k perm (nK k))).length) :
 Int).toNat =
 plK k x' ∧
 (layF (otK k perm x_2) (plK k x_2)
 (List.take
 ((otK k perm x_2).length - plK k x_2)
 (setF (k - (1 : Int)).toNat
 (ibK k perm (nK k))))).length =
 (otK k perm x').length) ∧
 (iaK k perm (nK k) = iaK k perm (nK k) ∧
 ibK k perm (nK k) = ibK k perm (nK k) ∧ True) ∧
 True ∧ True ∧ k = k ∧ True)) ∧
 (¬(↑x_2 : Int) < (2 : Int) →
 ¬(↑x_2 : Int) < (2 : Int) ∧
 layF (otK k perm x_2) (plK k x_2)
 (List.take ((otK k perm x_2).length - plK k x_2) (lsK k perm x)) =
 setF k.toNat perm))) ∧
 ((0 : Int) ≤ (1 : Int) * (2 : Int) ^ k.toNat / (2 : Int) ∧
 (1 : Int) * (2 : Int) ^ k.toNat / (2 : Int) ≤ (1 : Int) * (2 : Int) ^ k.toNat / (2 : Int) ∧
 Small ((1 : Int) * (2 : Int) ^ k.toNat / (2 : Int)).toNat) ∧
 ((0 : Int) ≤ (1 : Int) * (2 : Int) ^ k.toNat / (2 : Int) ∧
 (1 : Int) * (2 : Int) ^ k.toNat / (2 : Int) ≤ (1 : Int) * (2 : Int) ^ k.toNat / (2 : Int) ∧
 Small ((1 : Int) * (2 : Int) ^ k.toNat / (2 : Int)).toNat) ∧
 (∃ (x0 : Nat),
 x0 ≤ nK k ∧
 (True ∧
 ptK k perm x_1 = ptK k perm x_1 ∧
 True ∧
 List.replicate ((1 : Int) * (2 : Int) ^ k.toNat / (2 : Int)).toNat (0 : Int) = fsK k perm x0 ∧
 List.replicate ((1 : Int) * (2 : Int) ^ k.toNat / (2 : Int)).toNat (0 : Int) =
 lsK k perm x0 ∧
 (True ∧ True ∧ True) ∧
 List.replicate ((1 : Int) * (2 : Int) ^ k.toNat / (2 : Int)).toNat (0 : Int) =
 ibK k perm x0 ∧
 List.replicate ((1 : Int) * (2 : Int) ^ k.toNat / (2 : Int)).toNat (0 : Int) =
 iaK k perm x0 ∧
 True) ∧
 (0 : Int) = (↑x0 : Int) ∧
 (↑perm.length : Int) = (↑perm.length : Int) ∧
 perm = perm ∧ True ∧ True ∧ True ∧ True ∧ k = k ∧ perm = perm ∧ True) ∧
 ∀ (x : Nat),
 x ≤ nK k →
 ((↑x : Int) < (↑perm.length : Int) →
 (↑x : Int) < (↑perm.length : Int) ∧
 ((0 : Int) ≤ (↑x : Int) ∧ (↑x : Int) < (↑perm.length : Int)) ∧
 ((0 : Int) ≤ (↑x : Int) ∧ (↑x : Int) < (↑(ptK k perm x_1).length : Int)) ∧
 ((0 : Int) ≤ (ptK k perm x_1).getD (↑x : Int).toNat (0 : Int) ∧
 (ptK k perm x_1).getD (↑x : Int).toNat (0 : Int) < (↑(2 : Nat) : Int)) ∧
 (True ∧
 ((ptK k perm x_1).getD (↑x : Int).toNat (0 : Int) = (↑(0 : Nat) : Int) →
 ((0 : Int) ≤ (↑x : Int) ∧ (0 : Int) < (2 : Int)) ∧
 Fits IntKind.i64 ((↑x : Int) / (2 : Int)) ∧
 ((0 : Int) ≤ perm.getD (↑x : Int).toNat (0 : Int) ∧ (0 : Int) < (2 : Int)) ∧
 Fits IntKind.i64 (perm.getD (↑x : Int).toNat (0 : Int) / (2 : Int)) ∧
 ((0 : Int) ≤ (↑x : Int) / (2 : Int) ∧
 (↑x : Int) / (2 : Int) < (↑(iaK k perm x).length : Int)) ∧
 ((0 : Int) ≤ (↑x : Int) ∧ (0 : Int) < (2 : Int)) ∧
 ((↑x : Int) % (2 : Int) = (0 : Int) →
 (↑x : Int) % (2 : Int) = (0 : Int) ∧
 ((0 : Int) ≤ (↑x : Int) ∧ (0 : Int) < (2 : Int)) ∧
 Fits IntKind.i64 ((↑x : Int) / (2 : Int)) ∧
 ((0 : Int) ≤ (↑x : Int) ∧
 (↑x : Int) < (↑(ptK k perm x_1).length : Int)) ∧
 ((0 : Int) ≤ (↑x : Int) / (2 : Int) ∧
 (↑x : Int) / (2 : Int) <
 (↑(fsK k perm x).length : Int)) ∧
 ((0 : Int) ≤ perm.getD (↑x : Int).toNat (0 : Int) ∧
 (0 : Int) < (2 : Int)) ∧
 (perm.getD (↑x : Int).toNat (0 : Int) % (2 : Int) =
 (0 : Int) →
 perm.getD (↑x : Int).toNat (0 : Int) % (2 : Int) =
 (0 : Int) ∧
 ((0 : Int) ≤
 perm.getD (↑x : Int).toNat (0 : Int) ∧
 (0 : Int) < (2 : Int)) ∧
 Fits IntKind.i64
 (perm.getD (↑x : Int).toNat (0 : Int) /
 (2 : Int)) ∧
 ((0 : Int) ≤ (↑x : Int) ∧
 (↑x : Int) <
 (↑(ptK k perm x_1).length : Int)) ∧
 ((0 : Int) ≤
 perm.getD (↑x : Int).toNat (0 : Int) /
 (2 : Int) ∧
 perm.getD (↑x : Int).toNat (0 : Int) /
 (2 : Int) <
 (↑(lsK k perm x).length : Int)) ∧
 Fits IntKind.i64
 ((↑x : Int) + (1 : Int)) ∧
 ∃ (x' : Nat),
 x' ≤ nK k ∧
 nK k - x' < nK k - x ∧
 (True ∧
 ptK k perm x_1 =
 ptK k perm x_1 ∧
 True ∧
 (fsK k perm x).set
 ((↑x : Int) /
 (2 : Int)).toNat
 (IntKind.u8.wrap
 ((48 : Int) +
 IntKind.u8.wrap
 ((ptK k perm
 x_1).getD
 (↑x :
 Int).toNat
 (0 :
 Int)))) =
 fsK k perm x' ∧
 (lsK k perm x).set
 (perm.getD
 (↑x :
 Int).toNat
 (0 : Int) /
 (2 :
 Int)).toNat
 (IntKind.u8.wrap
 ((48 : Int) +
 IntKind.u8.wrap
 ((ptK k perm
 x_1).getD
 (↑x :
 Int).toNat
 (0 :
 Int)))) =
 lsK k perm x' ∧
 (True ∧ True ∧ True) ∧
 ibK k perm x =
 ibK k perm x' ∧
 (iaK k perm x).set
 ((↑x :
 Int) /
 (2 :
 Int)).toNat
 (perm.getD
 (↑x :
 Int).toNat
 (0 :
 Int) /
 (2 :
 Int)) =
 iaK k perm
 x' ∧
 True) ∧
 (↑x : Int) + (1 : Int) =
 (↑x' : Int) ∧
 (↑perm.length : Int) =
 (↑perm.length : Int) ∧
 perm = perm ∧
 True ∧
 True ∧
 True ∧
 True ∧
 k = k ∧
 perm = perm ∧
 True) ∧
 (¬perm.getD (↑x : Int).toNat (0 : Int) % (2 : Int) =
 (0 : Int) →
 ¬perm.getD (↑x : Int).toNat (0 : Int) % (2 : Int) =
 (0 : Int) ∧
 Fits IntKind.i64 ((↑x : Int) + (1 : Int)) ∧
 ∃ (x' : Nat),
 x' ≤ nK k ∧
 nK k - x' < nK k - x ∧
 (True ∧
 ptK k perm x_1 = ptK k perm x_1 ∧
 True ∧
 (fsK k perm x).set
 ((↑x : Int) /
 (2 : Int)).toNat
 (IntKind.u8.wrap
 ((48 : Int) +
 IntKind.u8.wrap
 ((ptK k perm x_1).getD
 (↑x : Int).toNat
 (0 : Int)))) =
 fsK k perm x' ∧
 lsK k perm x = lsK k perm x' ∧
 (True ∧ True ∧ True) ∧
 ibK k perm x =
 ibK k perm x' ∧
 (iaK k perm x).set
 ((↑x : Int) /
 (2 : Int)).toNat
 (perm.getD
 (↑x : Int).toNat
 (0 : Int) /
 (2 : Int)) =
 iaK k perm x' ∧
 True) ∧
 (↑x : Int) + (1 : Int) = (↑x' : Int) ∧
 (↑perm.length : Int) =
 (↑perm.length : Int) ∧
 perm = perm ∧
 True ∧
 True ∧
 True ∧
 True ∧
 k = k ∧
 perm = perm ∧ True)) ∧
 (¬(↑x : Int) % (2 : Int) = (0 : Int) →
 ¬(↑x : Int) % (2 : Int) = (0 : Int) ∧
 ((0 : Int) ≤ perm.getD (↑x : Int).toNat (0 : Int) ∧
 (0 : Int) < (2 : Int)) ∧
 (perm.getD (↑x : Int).toNat (0 : Int) % (2 : Int) = (0 : Int) →
 perm.getD (↑x : Int).toNat (0 : Int) % (2 : Int) =
 (0 : Int) ∧
 ((0 : Int) ≤ perm.getD (↑x : Int).toNat (0 : Int) ∧
 (0 : Int) < (2 : Int)) ∧
 Fits IntKind.i64
 (perm.getD (↑x : Int).toNat (0 : Int) / (2 : Int)) ∧
 ((0 : Int) ≤ (↑x : Int) ∧
 (↑x : Int) < (↑(ptK k perm x_1).length : Int)) ∧
 ((0 : Int) ≤
 perm.getD (↑x : Int).toNat (0 : Int) /
 (2 : Int) ∧
 perm.getD (↑x : Int).toNat (0 : Int) /
 (2 : Int) <
 (↑(lsK k perm x).length : Int)) ∧
 Fits IntKind.i64 ((↑x : Int) + (1 : Int)) ∧
 ∃ (x' : Nat),
 x' ≤ nK k ∧
 nK k - x' < nK k - x ∧
 (True ∧
 ptK k perm x_1 = ptK k perm x_1 ∧
 True ∧
 fsK k perm x = fsK k perm x' ∧
 (lsK k perm x).set
 (perm.getD
 (↑x : Int).toNat
 (0 : Int) /
 (2 : Int)).toNat
 (IntKind.u8.wrap
 ((48 : Int) +
 IntKind.u8.wrap
 ((ptK k perm
 x_1).getD
 (↑x : Int).toNat
 (0 : Int)))) =
 lsK k perm x' ∧
 (True ∧ True ∧ True) ∧
 ibK k perm x =
 ibK k perm x' ∧
 (iaK k perm x).set
 ((↑x : Int) /
 (2 : Int)).toNat
 (perm.getD
 (↑x : Int).toNat
 (0 : Int) /
 (2 : Int)) =
 iaK k perm x' ∧
 True) ∧
 (↑x : Int) + (1 : Int) = (↑x' : Int) ∧
 (↑perm.length : Int) =
 (↑perm.length : Int) ∧
 perm = perm ∧
 True ∧
 True ∧
 True ∧
 True ∧
 k = k ∧
 perm = perm ∧ True) ∧
 (¬perm.getD (↑x : Int).toNat (0 : Int) % (2 : Int) =
 (0 : Int) →
 ¬perm.getD (↑x : Int).toNat (0 : Int) % (2 : Int) =
 (0 : Int) ∧
 Fits IntKind.i64 ((↑x : Int) + (1 : Int)) ∧
 ∃ (x' : Nat),
 x' ≤ nK k ∧
 nK k - x' < nK k - x ∧
 (True ∧
 ptK k perm x_1 = ptK k perm x_1 ∧
 True ∧
 fsK k perm x = fsK k perm x' ∧
 lsK k perm x = lsK k perm x' ∧
 (True ∧ True ∧ True) ∧
 ibK k perm x = ibK k perm x' ∧
 (iaK k perm x).set
 ((↑x : Int) /
 (2 : Int)).toNat
 (perm.getD (↑x : Int).toNat
 (0 : Int) /
 (2 : Int)) =
 iaK k perm x' ∧
 True) ∧
 (↑x : Int) + (1 : Int) = (↑x' : Int) ∧
 (↑perm.length : Int) = (↑perm.length : Int) ∧
 perm = perm ∧
 True ∧
 True ∧
 True ∧
 True ∧
 k = k ∧ perm = perm ∧ True)))) ∧
 ((ptK k perm x_1).getD (↑x : Int).toNat (0 : Int) = (↑(1 : Nat) : Int) →
 ((0 : Int) ≤ (↑x : Int) ∧ (0 : Int) < (2 : Int)) ∧
 Fits IntKind.i64 ((↑x : Int) / (2 : Int)) ∧
 ((0 : Int) ≤ perm.getD (↑x : Int).toNat (0 : Int) ∧ (0 : Int) < (2 : Int)) ∧
 Fits IntKind.i64 (perm.getD (↑x : Int).toNat (0 : Int) / (2 : Int)) ∧
 ((0 : Int) ≤ (↑x : Int) / (2 : Int) ∧
 (↑x : Int) / (2 : Int) < (↑(ibK k perm x).length : Int)) ∧
 ((0 : Int) ≤ (↑x : Int) ∧ (0 : Int) < (2 : Int)) ∧
 ((↑x : Int) % (2 : Int) = (0 : Int) →
 (↑x : Int) % (2 : Int) = (0 : Int) ∧
 ((0 : Int) ≤ (↑x : Int) ∧ (0 : Int) < (2 : Int)) ∧
 Fits IntKind.i64 ((↑x : Int) / (2 : Int)) ∧
 ((0 : Int) ≤ (↑x : Int) ∧
 (↑x : Int) < (↑(ptK k perm x_1).length : Int)) ∧
 ((0 : Int) ≤ (↑x : Int) / (2 : Int) ∧
 (↑x : Int) / (2 : Int) < (↑(fsK k perm x).length : Int)) ∧
 ((0 : Int) ≤ perm.getD (↑x : Int).toNat (0 : Int) ∧
 (0 : Int) < (2 : Int)) ∧
 (perm.getD (↑x : Int).toNat (0 : Int) % (2 : Int) =
 (0 : Int) →
 perm.getD (↑x : Int).toNat (0 : Int) % (2 : Int) =
 (0 : Int) ∧
 ((0 : Int) ≤ perm.getD (↑x : Int).toNat (0 : Int) ∧
 (0 : Int) < (2 : Int)) ∧
 Fits IntKind.i64
 (perm.getD (↑x : Int).toNat (0 : Int) /
 (2 : Int)) ∧
 ((0 : Int) ≤ (↑x : Int) ∧
 (↑x : Int) <
 (↑(ptK k perm x_1).length : Int)) ∧
 ((0 : Int) ≤
 perm.getD (↑x : Int).toNat (0 : Int) /
 (2 : Int) ∧
 perm.getD (↑x : Int).toNat (0 : Int) /
 (2 : Int) <
 (↑(lsK k perm x).length : Int)) ∧
 Fits IntKind.i64 ((↑x : Int) + (1 : Int)) ∧
 ∃ (x' : Nat),
 x' ≤ nK k ∧
 nK k - x' < nK k - x ∧
 (True ∧
 ptK k perm x_1 =
 ptK k perm x_1 ∧
 True ∧
 (fsK k perm x).set
 ((↑x : Int) /
 (2 : Int)).toNat
 (IntKind.u8.wrap
 ((48 : Int) +
 IntKind.u8.wrap
 ((ptK k perm
 x_1).getD
 (↑x :
 Int).toNat
 (0 : Int)))) =
 fsK k perm x' ∧
 (lsK k perm x).set
 (perm.getD
 (↑x :
 Int).toNat
 (0 : Int) /
 (2 : Int)).toNat
 (IntKind.u8.wrap
 ((48 : Int) +
 IntKind.u8.wrap
 ((ptK k perm
 x_1).getD
 (↑x :
 Int).toNat
 (0 :
 Int)))) =
 lsK k perm x' ∧
 (True ∧ True ∧ True) ∧
 (ibK k perm x).set
 ((↑x : Int) /
 (2 :
 Int)).toNat
 (perm.getD
 (↑x :
 Int).toNat
 (0 : Int) /
 (2 : Int)) =
 ibK k perm x' ∧
 iaK k perm x =
 iaK k perm x' ∧
 True) ∧
 (↑x : Int) + (1 : Int) =
 (↑x' : Int) ∧
 (↑perm.length : Int) =
 (↑perm.length : Int) ∧
 perm = perm ∧
 True ∧
 True ∧
 True ∧
 True ∧
 k = k ∧
 perm = perm ∧
 True) ∧
 (¬perm.getD (↑x : Int).toNat (0 : Int) % (2 : Int) =
 (0 : Int) →
 ¬perm.getD (↑x : Int).toNat (0 : Int) % (2 : Int) =
 (0 : Int) ∧
 Fits IntKind.i64 ((↑x : Int) + (1 : Int)) ∧
 ∃ (x' : Nat),
 x' ≤ nK k ∧
 nK k - x' < nK k - x ∧
 (True ∧
 ptK k perm x_1 = ptK k perm x_1 ∧
 True ∧
 (fsK k perm x).set
 ((↑x : Int) / (2 : Int)).toNat
 (IntKind.u8.wrap
 ((48 : Int) +
 IntKind.u8.wrap
 ((ptK k perm x_1).getD
 (↑x : Int).toNat
 (0 : Int)))) =
 fsK k perm x' ∧
 lsK k perm x = lsK k perm x' ∧
 (True ∧ True ∧ True) ∧
 (ibK k perm x).set
 ((↑x : Int) /
 (2 : Int)).toNat
 (perm.getD
 (↑x : Int).toNat
 (0 : Int) /
 (2 : Int)) =
 ibK k perm x' ∧
 iaK k perm x =
 iaK k perm x' ∧
 True) ∧
 (↑x : Int) + (1 : Int) = (↑x' : Int) ∧
 (↑perm.length : Int) =
 (↑perm.length : Int) ∧
 perm = perm ∧
 True ∧
 True ∧
 True ∧
 True ∧
 k = k ∧
 perm = perm ∧ True)) ∧
 (¬(↑x : Int) % (2 : Int) = (0 : Int) →
 ¬(↑x : Int) % (2 : Int) = (0 : Int) ∧
 ((0 : Int) ≤ perm.getD (↑x : Int).toNat (0 : Int) ∧
 (0 : Int) < (2 : Int)) ∧
 (perm.getD (↑x : Int).toNat (0 : Int) % (2 : Int) = (0 : Int) →
 perm.getD (↑x : Int).toNat (0 : Int) % (2 : Int) = (0 : Int) ∧
 ((0 : Int) ≤ perm.getD (↑x : Int).toNat (0 : Int) ∧
 (0 : Int) < (2 : Int)) ∧
 Fits IntKind.i64
 (perm.getD (↑x : Int).toNat (0 : Int) / (2 : Int)) ∧
 ((0 : Int) ≤ (↑x : Int) ∧
 (↑x : Int) < (↑(ptK k perm x_1).length : Int)) ∧
 ((0 : Int) ≤
 perm.getD (↑x : Int).toNat (0 : Int) /
 (2 : Int) ∧
 perm.getD (↑x : Int).toNat (0 : Int) / (2 : Int) <
 (↑(lsK k perm x).length : Int)) ∧
 Fits IntKind.i64 ((↑x : Int) + (1 : Int)) ∧
 ∃ (x' : Nat),
 x' ≤ nK k ∧
 nK k - x' < nK k - x ∧
 (True ∧
 ptK k perm x_1 = ptK k perm x_1 ∧
 True ∧
 fsK k perm x = fsK k perm x' ∧
 (lsK k perm x).set
 (perm.getD (↑x : Int).toNat
 (0 : Int) /
 (2 : Int)).toNat
 (IntKind.u8.wrap
 ((48 : Int) +
 IntKind.u8.wrap
 ((ptK k perm x_1).getD
 (↑x : Int).toNat
 (0 : Int)))) =
 lsK k perm x' ∧
 (True ∧ True ∧ True) ∧
 (ibK k perm x).set
 ((↑x : Int) /
 (2 : Int)).toNat
 (perm.getD
 (↑x : Int).toNat
 (0 : Int) /
 (2 : Int)) =
 ibK k perm x' ∧
 iaK k perm x =
 iaK k perm x' ∧
 True) ∧
 (↑x : Int) + (1 : Int) = (↑x' : Int) ∧
 (↑perm.length : Int) =
 (↑perm.length : Int) ∧
 perm = perm ∧
 True ∧
 True ∧
 True ∧
 True ∧
 k = k ∧
 perm = perm ∧ True) ∧
 (¬perm.getD (↑x : Int).toNat (0 : Int) % (2 : Int) = (0 : Int) →
 ¬perm.getD (↑x : Int).toNat (0 : Int) % (2 : Int) =
 (0 : Int) ∧
 Fits IntKind.i64 ((↑x : Int) + (1 : Int)) ∧
 ∃ (x' : Nat),
 x' ≤ nK k ∧
 nK k - x' < nK k - x ∧
 (True ∧
 ptK k perm x_1 = ptK k perm x_1 ∧
 True ∧
 fsK k perm x = fsK k perm x' ∧
 lsK k perm x = lsK k perm x' ∧
 (True ∧ True ∧ True) ∧
 (ibK k perm x).set
 ((↑x : Int) / (2 : Int)).toNat
 (perm.getD (↑x : Int).toNat
 (0 : Int) /
 (2 : Int)) =
 ibK k perm x' ∧
 iaK k perm x = iaK k perm x' ∧
 True) ∧
 (↑x : Int) + (1 : Int) = (↑x' : Int) ∧
 (↑perm.length : Int) = (↑perm.length : Int) ∧
 perm = perm ∧
 True ∧
 True ∧
 True ∧
 True ∧
 k = k ∧ perm = perm ∧ True)))) ∧
 (¬(↑x : Int) < (↑perm.length : Int) →
 ¬(↑x : Int) < (↑perm.length : Int) ∧
 ((1 : Int) ≤ k ∧ k ≤ (3 : Int)) ∧
 ((0 : Int) ≤ switchesF k ∧ switchesF k ≤ switchesF k ∧ Small (switchesF k).toNat) ∧
 ((0 : Int) ≤
 (↑(min ((List.replicate (switchesF k).toNat (0 : Int)).length - (0 : Nat))
 (fsK k perm x).length) :
 Int) ∧
 (↑(min ((List.replicate (switchesF k).toNat (0 : Int)).length - (0 : Nat))
 (fsK k perm x).length) :
 Int) ≤
 (↑(layF (List.replicate (switchesF k).toNat (0 : Int)) (0 : Nat)
 (List.take ((List.replicate (switchesF k).toNat (0 : Int)).length - (0 : Nat))
 (fsK k perm x))).length :
 Int)) ∧
 (∃ (x0 : Nat),
 x0 ≤ (2 : Nat) ∧
 (True ∧
 True ∧
 True ∧
 fsK k perm x = fsK k perm x ∧
 lsK k perm x = lsK k perm x ∧
 True ∧
 True ∧
 True ∧
 layF (List.replicate (switchesF k).toNat (0 : Int)) (0 : Nat)
 (List.take
 ((List.replicate (switchesF k).toNat (0 : Int)).length -
 (0 : Nat))
 (fsK k perm x)) =
 otK k perm x0 ∧
 True) ∧
 (0 : Int) = (↑x0 : Int) ∧
 ((↑(min ((List.replicate (switchesF k).toNat (0 : Int)).length - (0 : Nat))
 (fsK k perm x).length) :
 Int).toNat =
 plK k x0 ∧
 (layF (List.replicate (switchesF k).toNat (0 : Int)) (0 : Nat)
 (List.take
 ((List.replicate (switchesF k).toNat (0 : Int)).length - (0 : Nat))
 (fsK k perm x))).length =
 (otK k perm x0).length) ∧
 (iaK k perm x = iaK k perm (nK k) ∧ ibK k perm x = ibK k perm (nK k) ∧ True) ∧
 True ∧ True ∧ k = k ∧ True) ∧
 ∀ (x_2 : Nat),
 x_2 ≤ (2 : Nat) →
 ((↑x_2 : Int) < (2 : Int) →
 (↑x_2 : Int) < (2 : Int) ∧
 ((0 : Int) ≤ (↑x_2 : Int) ∧ (↑x_2 : Int) < (↑(2 : Nat) : Int)) ∧
 (True ∧
 ((↑x_2 : Int) = (↑(0 : Nat) : Int) →
 Fits IntKind.i64 (k - (1 : Int)) ∧
 ((((1 : Int) ≤ k - (1 : Int) ∧ k - (1 : Int) ≤ (3 : Int)) ∧
 (↑(iaK k perm (nK k)).length : Int) =
 (↑((2 : Nat) ^ (k - (1 : Int)).toNat) : Int) ∧
 (∀ (x : Int),
 x ∈ iaK k perm (nK k) →
 (0 : Int) ≤ x ∧
 x < (↑((2 : Nat) ^ (k - (1 : Int)).toNat) : Int)) ∧
 (iaK k perm (nK k)).Nodup) ∧
 m68 (k - (1 : Int), iaK k perm (nK k)) < m68 (k, perm)) ∧
 ((0 : Int) ≤
 (↑(min ((otK k perm x_2).length - plK k x_2)
 (setF (k - (1 : Int)).toNat
 (iaK k perm (nK k))).length) :
 Int) ∧
 (↑(plK k x_2) : Int) +
 (↑(min ((otK k perm x_2).length - plK k x_2)
 (setF (k - (1 : Int)).toNat
 (iaK k perm (nK k))).length) :
 Int) ≤
 (↑(layF (otK k perm x_2) (plK k x_2)
 (List.take ((otK k perm x_2).length - plK k x_2)
 (setF (k - (1 : Int)).toNat
 (iaK k perm (nK k))))).length :
 Int)) ∧
 Fits IntKind.i64 ((↑x_2 : Int) + (1 : Int)) ∧
 ∃ (x' : Nat),
 x' ≤ (2 : Nat) ∧
 (2 : Nat) - x' < (2 : Nat) - x_2 ∧
 (True ∧
 True ∧
 True ∧
 fsK k perm x = fsK k perm x ∧
 lsK k perm x = lsK k perm x ∧
 True ∧
 True ∧
 True ∧
 layF (otK k perm x_2) (plK k x_2)
 (List.take
 ((otK k perm x_2).length -
 plK k x_2)
 (setF (k - (1 : Int)).toNat
 (iaK k perm (nK k)))) =
 otK k perm x' ∧
 True) ∧
 (↑x_2 : Int) + (1 : Int) = (↑x' : Int) ∧
 (plK k x_2 +
 (↑(min ((otK k perm x_2).length - plK k x_2)
 (setF (k - (1 : Int)).toNat
 (iaK k perm (nK k))).length) :
 Int).toNat =
 plK k x' ∧
 (layF (otK k perm x_2) (plK k x_2)
 (List.take
 ((otK k perm x_2).length - plK k x_2)
 (setF (k - (1 : Int)).toNat
 (iaK k perm (nK k))))).length =
 (otK k perm x').length) ∧
 (iaK k perm (nK k) = iaK k perm (nK k) ∧
 ibK k perm (nK k) = ibK k perm (nK k) ∧
 True) ∧
 True ∧ True ∧ k = k ∧ True)) ∧
 ((↑x_2 : Int) = (↑(1 : Nat) : Int) →
 Fits IntKind.i64 (k - (1 : Int)) ∧
 ((((1 : Int) ≤ k - (1 : Int) ∧ k - (1 : Int) ≤ (3 : Int)) ∧
 (↑(ibK k perm (nK k)).length : Int) =
 (↑((2 : Nat) ^ (k - (1 : Int)).toNat) : Int) ∧
 (∀ (x : Int),
 x ∈ ibK k perm (nK k) →
 (0 : Int) ≤ x ∧
 x < (↑((2 : Nat) ^ (k - (1 : Int)).toNat) : Int)) ∧
 (ibK k perm (nK k)).Nodup) ∧
 m68 (k - (1 : Int), ibK k perm (nK k)) < m68 (k, perm)) ∧
 ((0 : Int) ≤
 (↑(min ((otK k perm x_2).length - plK k x_2)
 (setF (k - (1 : Int)).toNat
 (ibK k perm (nK k))).length) :
 Int) ∧
 (↑(plK k x_2) : Int) +
 (↑(min ((otK k perm x_2).length - plK k x_2)
 (setF (k - (1 : Int)).toNat
 (ibK k perm (nK k))).length) :
 Int) ≤
 (↑(layF (otK k perm x_2) (plK k x_2)
 (List.take ((otK k perm x_2).length - plK k x_2)
 (setF (k - (1 : Int)).toNat
 (ibK k perm (nK k))))).length :
 Int)) ∧
 Fits IntKind.i64 ((↑x_2 : Int) + (1 : Int)) ∧
 ∃ (x' : Nat),
 x' ≤ (2 : Nat) ∧
 (2 : Nat) - x' < (2 : Nat) - x_2 ∧
 (True ∧
 True ∧
 True ∧
 fsK k perm x = fsK k perm x ∧
 lsK k perm x = lsK k perm x ∧
 True ∧
 True ∧
 True ∧
 layF (otK k perm x_2) (plK k x_2)
 (List.take
 ((otK k perm x_2).length -
 plK k x_2)
 (setF (k - (1 : Int)).toNat
 (ibK k perm (nK k)))) =
 otK k perm x' ∧
 True) ∧
 (↑x_2 : Int) + (1 : Int) = (↑x' : Int) ∧
 (plK k x_2 +
 (↑(min ((otK k perm x_2).length - plK k x_2)
 (setF (k - (1 : Int)).toNat
 (ibK k perm (nK k))).length) :
 Int).toNat =
 plK k x' ∧
 (layF (otK k perm x_2) (plK k x_2)
 (List.take
 ((otK k perm x_2).length - plK k x_2)
 (setF (k - (1 : Int)).toNat
 (ibK k perm (nK k))))).length =
 (otK k perm x').length) ∧
 (iaK k perm (nK k) = iaK k perm (nK k) ∧
 ibK k perm (nK k) = ibK k perm (nK k) ∧ True) ∧
 True ∧ True ∧ k = k ∧ True)) ∧
 (¬(↑x_2 : Int) < (2 : Int) →
 ¬(↑x_2 : Int) < (2 : Int) ∧
 layF (otK k perm x_2) (plK k x_2)
 (List.take ((otK k perm x_2).length - plK k x_2) (lsK k perm x)) =
 setF k.toNat perm))) ∧
 ((0 : Int) ≤ (1 : Int) * (2 : Int) ^ k.toNat / (2 : Int) ∧
 (1 : Int) * (2 : Int) ^ k.toNat / (2 : Int) ≤ (1 : Int) * (2 : Int) ^ k.toNat / (2 : Int) ∧
 Small ((1 : Int) * (2 : Int) ^ k.toNat / (2 : Int)).toNat) ∧
 ((0 : Int) ≤ (1 : Int) * (2 : Int) ^ k.toNat / (2 : Int) ∧
 (1 : Int) * (2 : Int) ^ k.toNat / (2 : Int) ≤ (1 : Int) * (2 : Int) ^ k.toNat / (2 : Int) ∧
 Small ((1 : Int) * (2 : Int) ^ k.toNat / (2 : Int)).toNat) ∧
 ((0 : Int) ≤ (1 : Int) * (2 : Int) ^ k.toNat ∧ (0 : Int) < (2 : Int)) ∧
 Fits IntKind.i64 ((1 : Int) * (2 : Int) ^ k.toNat / (2 : Int)) ∧
 ((0 : Int) ≤ (1 : Int) * (2 : Int) ^ k.toNat ∧ (0 : Int) < (2 : Int)) ∧
 Fits IntKind.i64 ((1 : Int) * (2 : Int) ^ k.toNat / (2 : Int)) ∧
 (((0 : Int) ≤ (1 : Int) * (2 : Int) ^ k.toNat / (2 : Int) ∧
 (1 : Int) * (2 : Int) ^ k.toNat / (2 : Int) ≤ (1 : Int) * (2 : Int) ^ k.toNat / (2 : Int) ∧
 Small ((1 : Int) * (2 : Int) ^ k.toNat / (2 : Int)).toNat) ∧
 (((0 : Int) ≤ (1 : Int) * (2 : Int) ^ k.toNat / (2 : Int) ∧
 (1 : Int) * (2 : Int) ^ k.toNat / (2 : Int) ≤ (1 : Int) * (2 : Int) ^ k.toNat / (2 : Int) ∧
 Small ((1 : Int) * (2 : Int) ^ k.toNat / (2 : Int)).toNat) ∧
 (∃ (x0 : Nat),
 x0 ≤ nK k ∧
 (True ∧
 ptK k perm x_1 = ptK k perm x_1 ∧
 True ∧
 List.replicate ((1 : Int) * (2 : Int) ^ k.toNat / (2 : Int)).toNat (0 : Int) = lsK k perm x0 ∧
 List.replicate ((1 : Int) * (2 : Int) ^ k.toNat / (2 : Int)).toNat (0 : Int) = fsK k perm x0 ∧
 List.replicate ((1 : Int) * (2 : Int) ^ k.toNat / (2 : Int)).toNat (0 : Int) =
 iaK k perm x0 ∧
 List.replicate ((1 : Int) * (2 : Int) ^ k.toNat / (2 : Int)).toNat (0 : Int) =
 ibK k perm x0 ∧
 (True ∧ True ∧ True) ∧ True) ∧
 (0 : Int) = (↑x0 : Int) ∧
 (↑perm.length : Int) = (↑perm.length : Int) ∧
 perm = perm ∧ True ∧ True ∧ True ∧ True ∧ k = k ∧ perm = perm ∧ True) ∧
 ∀ (x : Nat),
 x ≤ nK k →
 ((↑x : Int) < (↑perm.length : Int) →
 (↑x : Int) < (↑perm.length : Int) ∧
 ((0 : Int) ≤ (↑x : Int) ∧ (↑x : Int) < (↑perm.length : Int)) ∧
 ((0 : Int) ≤ (↑x : Int) ∧ (↑x : Int) < (↑(ptK k perm x_1).length : Int)) ∧
 ((0 : Int) ≤ (ptK k perm x_1).getD (↑x : Int).toNat (0 : Int) ∧
 (ptK k perm x_1).getD (↑x : Int).toNat (0 : Int) < (↑(2 : Nat) : Int)) ∧
 (True ∧
 ((ptK k perm x_1).getD (↑x : Int).toNat (0 : Int) = (↑(0 : Nat) : Int) →
 ((0 : Int) ≤ (↑x : Int) ∧ (0 : Int) < (2 : Int)) ∧
 Fits IntKind.i64 ((↑x : Int) / (2 : Int)) ∧
 ((0 : Int) ≤ perm.getD (↑x : Int).toNat (0 : Int) ∧ (0 : Int) < (2 : Int)) ∧
 Fits IntKind.i64 (perm.getD (↑x : Int).toNat (0 : Int) / (2 : Int)) ∧
 ((0 : Int) ≤ (↑x : Int) / (2 : Int) ∧
 (↑x : Int) / (2 : Int) < (↑(iaK k perm x).length : Int)) ∧
 ((0 : Int) ≤ (↑x : Int) ∧ (0 : Int) < (2 : Int)) ∧
 ((↑x : Int) % (2 : Int) = (0 : Int) →
 (↑x : Int) % (2 : Int) = (0 : Int) ∧
 ((0 : Int) ≤ (↑x : Int) ∧ (0 : Int) < (2 : Int)) ∧
 Fits IntKind.i64 ((↑x : Int) / (2 : Int)) ∧
 ((0 : Int) ≤ (↑x : Int) ∧
 (↑x : Int) < (↑(ptK k perm x_1).length : Int)) ∧
 ((0 : Int) ≤ (↑x : Int) / (2 : Int) ∧
 (↑x : Int) / (2 : Int) < (↑(fsK k perm x).length : Int)) ∧
 ((0 : Int) ≤ perm.getD (↑x : Int).toNat (0 : Int) ∧
 (0 : Int) < (2 : Int)) ∧
 (perm.getD (↑x : Int).toNat (0 : Int) % (2 : Int) =
 (0 : Int) →
 perm.getD (↑x : Int).toNat (0 : Int) % (2 : Int) =
 (0 : Int) ∧
 ((0 : Int) ≤ perm.getD (↑x : Int).toNat (0 : Int) ∧
 (0 : Int) < (2 : Int)) ∧
 Fits IntKind.i64
 (perm.getD (↑x : Int).toNat (0 : Int) /
 (2 : Int)) ∧
 ((0 : Int) ≤ (↑x : Int) ∧
 (↑x : Int) <
 (↑(ptK k perm x_1).length : Int)) ∧
 ((0 : Int) ≤
 perm.getD (↑x : Int).toNat (0 : Int) /
 (2 : Int) ∧
 perm.getD (↑x : Int).toNat (0 : Int) /
 (2 : Int) <
 (↑(lsK k perm x).length : Int)) ∧
 Fits IntKind.i64 ((↑x : Int) + (1 : Int)) ∧
 ∃ (x' : Nat),
 x' ≤ nK k ∧
 nK k - x' < nK k - x ∧
 (True ∧
 ptK k perm x_1 =
 ptK k perm x_1 ∧
 True ∧
 (lsK k perm x).set
 (perm.getD
 (↑x : Int).toNat
 (0 : Int) /
 (2 : Int)).toNat
 (IntKind.u8.wrap
 ((48 : Int) +
 IntKind.u8.wrap
 ((ptK k perm
 x_1).getD
 (↑x :
 Int).toNat
 (0 : Int)))) =
 lsK k perm x' ∧
 (fsK k perm x).set
 ((↑x : Int) /
 (2 : Int)).toNat
 (IntKind.u8.wrap
 ((48 : Int) +
 IntKind.u8.wrap
 ((ptK k perm
 x_1).getD
 (↑x :
 Int).toNat
 (0 :
 Int)))) =
 fsK k perm x' ∧
 (iaK k perm x).set
 ((↑x : Int) /
 (2 :
 Int)).toNat
 (perm.getD
 (↑x :
 Int).toNat
 (0 : Int) /
 (2 : Int)) =
 iaK k perm x' ∧
 ibK k perm x =
 ibK k perm x' ∧
 (True ∧
 True ∧ True) ∧
 True) ∧
 (↑x : Int) + (1 : Int) =
 (↑x' : Int) ∧
 (↑perm.length : Int) =
 (↑perm.length : Int) ∧
 perm = perm ∧
 True ∧
 True ∧
 True ∧
 True ∧
 k = k ∧
 perm = perm ∧
 True) ∧
 (¬perm.getD (↑x : Int).toNat (0 : Int) % (2 : Int) =
 (0 : Int) →
 ¬perm.getD (↑x : Int).toNat (0 : Int) % (2 : Int) =
 (0 : Int) ∧
 Fits IntKind.i64 ((↑x : Int) + (1 : Int)) ∧
 ∃ (x' : Nat),
 x' ≤ nK k ∧
 nK k - x' < nK k - x ∧
 (True ∧
 ptK k perm x_1 = ptK k perm x_1 ∧
 True ∧
 lsK k perm x = lsK k perm x' ∧
 (fsK k perm x).set
 ((↑x : Int) /
 (2 : Int)).toNat
 (IntKind.u8.wrap
 ((48 : Int) +
 IntKind.u8.wrap
 ((ptK k perm x_1).getD
 (↑x : Int).toNat
 (0 : Int)))) =
 fsK k perm x' ∧
 (iaK k perm x).set
 ((↑x : Int) /
 (2 : Int)).toNat
 (perm.getD
 (↑x : Int).toNat
 (0 : Int) /
 (2 : Int)) =
 iaK k perm x' ∧
 ibK k perm x = ibK k perm x' ∧
 (True ∧ True ∧ True) ∧
 True) ∧
 (↑x : Int) + (1 : Int) = (↑x' : Int) ∧
 (↑perm.length : Int) =
 (↑perm.length : Int) ∧
 perm = perm ∧
 True ∧
 True ∧
 True ∧
 True ∧
 k = k ∧
 perm = perm ∧ True)) ∧
 (¬(↑x : Int) % (2 : Int) = (0 : Int) →
 ¬(↑x : Int) % (2 : Int) = (0 : Int) ∧
 ((0 : Int) ≤ perm.getD (↑x : Int).toNat (0 : Int) ∧
 (0 : Int) < (2 : Int)) ∧
 (perm.getD (↑x : Int).toNat (0 : Int) % (2 : Int) = (0 : Int) →
 perm.getD (↑x : Int).toNat (0 : Int) % (2 : Int) = (0 : Int) ∧
 ((0 : Int) ≤ perm.getD (↑x : Int).toNat (0 : Int) ∧
 (0 : Int) < (2 : Int)) ∧
 Fits IntKind.i64
 (perm.getD (↑x : Int).toNat (0 : Int) / (2 : Int)) ∧
 ((0 : Int) ≤ (↑x : Int) ∧
 (↑x : Int) < (↑(ptK k perm x_1).length : Int)) ∧
 ((0 : Int) ≤
 perm.getD (↑x : Int).toNat (0 : Int) /
 (2 : Int) ∧
 perm.getD (↑x : Int).toNat (0 : Int) / (2 : Int) <
 (↑(lsK k perm x).length : Int)) ∧
 Fits IntKind.i64 ((↑x : Int) + (1 : Int)) ∧
 ∃ (x' : Nat),
 x' ≤ nK k ∧
 nK k - x' < nK k - x ∧
 (True ∧
 ptK k perm x_1 = ptK k perm x_1 ∧
 True ∧
 (lsK k perm x).set
 (perm.getD (↑x : Int).toNat
 (0 : Int) /
 (2 : Int)).toNat
 (IntKind.u8.wrap
 ((48 : Int) +
 IntKind.u8.wrap
 ((ptK k perm x_1).getD
 (↑x : Int).toNat
 (0 : Int)))) =
 lsK k perm x' ∧
 fsK k perm x = fsK k perm x' ∧
 (iaK k perm x).set
 ((↑x : Int) /
 (2 : Int)).toNat
 (perm.getD
 (↑x : Int).toNat
 (0 : Int) /
 (2 : Int)) =
 iaK k perm x' ∧
 ibK k perm x = ibK k perm x' ∧
 (True ∧ True ∧ True) ∧
 True) ∧
 (↑x : Int) + (1 : Int) = (↑x' : Int) ∧
 (↑perm.length : Int) =
 (↑perm.length : Int) ∧
 perm = perm ∧
 True ∧
 True ∧
 True ∧
 True ∧
 k = k ∧
 perm = perm ∧ True) ∧
 (¬perm.getD (↑x : Int).toNat (0 : Int) % (2 : Int) = (0 : Int) →
 ¬perm.getD (↑x : Int).toNat (0 : Int) % (2 : Int) =
 (0 : Int) ∧
 Fits IntKind.i64 ((↑x : Int) + (1 : Int)) ∧
 ∃ (x' : Nat),
 x' ≤ nK k ∧
 nK k - x' < nK k - x ∧
 (True ∧
 ptK k perm x_1 = ptK k perm x_1 ∧
 True ∧
 lsK k perm x = lsK k perm x' ∧
 fsK k perm x = fsK k perm x' ∧
 (iaK k perm x).set
 ((↑x : Int) / (2 : Int)).toNat
 (perm.getD (↑x : Int).toNat
 (0 : Int) /
 (2 : Int)) =
 iaK k perm x' ∧
 ibK k perm x = ibK k perm x' ∧
 (True ∧ True ∧ True) ∧ True) ∧
 (↑x : Int) + (1 : Int) = (↑x' : Int) ∧
 (↑perm.length : Int) = (↑perm.length : Int) ∧
 perm = perm ∧
 True ∧
 True ∧
 True ∧
 True ∧
 k = k ∧ perm = perm ∧ True)))) ∧
 ((ptK k perm x_1).getD (↑x : Int).toNat (0 : Int) = (↑(1 : Nat) : Int) →
 ((0 : Int) ≤ (↑x : Int) ∧ (0 : Int) < (2 : Int)) ∧
 Fits IntKind.i64 ((↑x : Int) / (2 : Int)) ∧
 ((0 : Int) ≤ perm.getD (↑x : Int).toNat (0 : Int) ∧ (0 : Int) < (2 : Int)) ∧
 Fits IntKind.i64 (perm.getD (↑x : Int).toNat (0 : Int) / (2 : Int)) ∧
 ((0 : Int) ≤ (↑x : Int) / (2 : Int) ∧
 (↑x : Int) / (2 : Int) < (↑(ibK k perm x).length : Int)) ∧
 ((0 : Int) ≤ (↑x : Int) ∧ (0 : Int) < (2 : Int)) ∧
 ((↑x : Int) % (2 : Int) = (0 : Int) →
 (↑x : Int) % (2 : Int) = (0 : Int) ∧
 ((0 : Int) ≤ (↑x : Int) ∧ (0 : Int) < (2 : Int)) ∧
 Fits IntKind.i64 ((↑x : Int) / (2 : Int)) ∧
 ((0 : Int) ≤ (↑x : Int) ∧
 (↑x : Int) < (↑(ptK k perm x_1).length : Int)) ∧
 ((0 : Int) ≤ (↑x : Int) / (2 : Int) ∧
 (↑x : Int) / (2 : Int) < (↑(fsK k perm x).length : Int)) ∧
 ((0 : Int) ≤ perm.getD (↑x : Int).toNat (0 : Int) ∧
 (0 : Int) < (2 : Int)) ∧
 (perm.getD (↑x : Int).toNat (0 : Int) % (2 : Int) =
 (0 : Int) →
 perm.getD (↑x : Int).toNat (0 : Int) % (2 : Int) =
 (0 : Int) ∧
 ((0 : Int) ≤ perm.getD (↑x : Int).toNat (0 : Int) ∧
 (0 : Int) < (2 : Int)) ∧
 Fits IntKind.i64
 (perm.getD (↑x : Int).toNat (0 : Int) /
 (2 : Int)) ∧
 ((0 : Int) ≤ (↑x : Int) ∧
 (↑x : Int) <
 (↑(ptK k perm x_1).length : Int)) ∧
 ((0 : Int) ≤
 perm.getD (↑x : Int).toNat (0 : Int) /
 (2 : Int) ∧
 perm.getD (↑x : Int).toNat (0 : Int) /
 (2 : Int) <
 (↑(lsK k perm x).length : Int)) ∧
 Fits IntKind.i64 ((↑x : Int) + (1 : Int)) ∧
 ∃ (x' : Nat),
 x' ≤ nK k ∧
 nK k - x' < nK k - x ∧
 (True ∧
 ptK k perm x_1 = ptK k perm x_1 ∧
 True ∧
 (lsK k perm x).set
 (perm.getD
 (↑x : Int).toNat
 (0 : Int) /
 (2 : Int)).toNat
 (IntKind.u8.wrap
 ((48 : Int) +
 IntKind.u8.wrap
 ((ptK k perm
 x_1).getD
 (↑x : Int).toNat
 (0 : Int)))) =
 lsK k perm x' ∧
 (fsK k perm x).set
 ((↑x : Int) /
 (2 : Int)).toNat
 (IntKind.u8.wrap
 ((48 : Int) +
 IntKind.u8.wrap
 ((ptK k perm
 x_1).getD
 (↑x :
 Int).toNat
 (0 : Int)))) =
 fsK k perm x' ∧
 iaK k perm x =
 iaK k perm x' ∧
 (ibK k perm x).set
 ((↑x : Int) /
 (2 :
 Int)).toNat
 (perm.getD
 (↑x :
 Int).toNat
 (0 : Int) /
 (2 : Int)) =
 ibK k perm x' ∧
 (True ∧ True ∧ True) ∧
 True) ∧
 (↑x : Int) + (1 : Int) =
 (↑x' : Int) ∧
 (↑perm.length : Int) =
 (↑perm.length : Int) ∧
 perm = perm ∧
 True ∧
 True ∧
 True ∧
 True ∧
 k = k ∧
 perm = perm ∧
 True) ∧
 (¬perm.getD (↑x : Int).toNat (0 : Int) % (2 : Int) =
 (0 : Int) →
 ¬perm.getD (↑x : Int).toNat (0 : Int) % (2 : Int) =
 (0 : Int) ∧
 Fits IntKind.i64 ((↑x : Int) + (1 : Int)) ∧
 ∃ (x' : Nat),
 x' ≤ nK k ∧
 nK k - x' < nK k - x ∧
 (True ∧
 ptK k perm x_1 = ptK k perm x_1 ∧
 True ∧
 lsK k perm x = lsK k perm x' ∧
 (fsK k perm x).set
 ((↑x : Int) / (2 : Int)).toNat
 (IntKind.u8.wrap
 ((48 : Int) +
 IntKind.u8.wrap
 ((ptK k perm x_1).getD
 (↑x : Int).toNat
 (0 : Int)))) =
 fsK k perm x' ∧
 iaK k perm x = iaK k perm x' ∧
 (ibK k perm x).set
 ((↑x : Int) /
 (2 : Int)).toNat
 (perm.getD
 (↑x : Int).toNat
 (0 : Int) /
 (2 : Int)) =
 ibK k perm x' ∧
 (True ∧ True ∧ True) ∧ True) ∧
 (↑x : Int) + (1 : Int) = (↑x' : Int) ∧
 (↑perm.length : Int) =
 (↑perm.length : Int) ∧
 perm = perm ∧
 True ∧
 True ∧
 True ∧
 True ∧
 k = k ∧ perm = perm ∧ True)) ∧
 (¬(↑x : Int) % (2 : Int) = (0 : Int) →
 ¬(↑x : Int) % (2 : Int) = (0 : Int) ∧
 ((0 : Int) ≤ perm.getD (↑x : Int).toNat (0 : Int) ∧
 (0 : Int) < (2 : Int)) ∧
 (perm.getD (↑x : Int).toNat (0 : Int) % (2 : Int) = (0 : Int) →
 perm.getD (↑x : Int).toNat (0 : Int) % (2 : Int) = (0 : Int) ∧
 ((0 : Int) ≤ perm.getD (↑x : Int).toNat (0 : Int) ∧
 (0 : Int) < (2 : Int)) ∧
 Fits IntKind.i64
 (perm.getD (↑x : Int).toNat (0 : Int) / (2 : Int)) ∧
 ((0 : Int) ≤ (↑x : Int) ∧
 (↑x : Int) < (↑(ptK k perm x_1).length : Int)) ∧
 ((0 : Int) ≤
 perm.getD (↑x : Int).toNat (0 : Int) / (2 : Int) ∧
 perm.getD (↑x : Int).toNat (0 : Int) / (2 : Int) <
 (↑(lsK k perm x).length : Int)) ∧
 Fits IntKind.i64 ((↑x : Int) + (1 : Int)) ∧
 ∃ (x' : Nat),
 x' ≤ nK k ∧
 nK k - x' < nK k - x ∧
 (True ∧
 ptK k perm x_1 = ptK k perm x_1 ∧
 True ∧
 (lsK k perm x).set
 (perm.getD (↑x : Int).toNat
 (0 : Int) /
 (2 : Int)).toNat
 (IntKind.u8.wrap
 ((48 : Int) +
 IntKind.u8.wrap
 ((ptK k perm x_1).getD
 (↑x : Int).toNat
 (0 : Int)))) =
 lsK k perm x' ∧
 fsK k perm x = fsK k perm x' ∧
 iaK k perm x = iaK k perm x' ∧
 (ibK k perm x).set
 ((↑x : Int) /
 (2 : Int)).toNat
 (perm.getD
 (↑x : Int).toNat
 (0 : Int) /
 (2 : Int)) =
 ibK k perm x' ∧
 (True ∧ True ∧ True) ∧ True) ∧
 (↑x : Int) + (1 : Int) = (↑x' : Int) ∧
 (↑perm.length : Int) =
 (↑perm.length : Int) ∧
 perm = perm ∧
 True ∧
 True ∧
 True ∧
 True ∧
 k = k ∧ perm = perm ∧ True) ∧
 (¬perm.getD (↑x : Int).toNat (0 : Int) % (2 : Int) = (0 : Int) →
 ¬perm.getD (↑x : Int).toNat (0 : Int) % (2 : Int) = (0 : Int) ∧
 Fits IntKind.i64 ((↑x : Int) + (1 : Int)) ∧
 ∃ (x' : Nat),
 x' ≤ nK k ∧
 nK k - x' < nK k - x ∧
 (True ∧
 ptK k perm x_1 = ptK k perm x_1 ∧
 True ∧
 lsK k perm x = lsK k perm x' ∧
 fsK k perm x = fsK k perm x' ∧
 iaK k perm x = iaK k perm x' ∧
 (ibK k perm x).set
 ((↑x : Int) / (2 : Int)).toNat
 (perm.getD (↑x : Int).toNat
 (0 : Int) /
 (2 : Int)) =
 ibK k perm x' ∧
 (True ∧ True ∧ True) ∧ True) ∧
 (↑x : Int) + (1 : Int) = (↑x' : Int) ∧
 (↑perm.length : Int) = (↑perm.length : Int) ∧
 perm = perm ∧
 True ∧
 True ∧
 True ∧
 True ∧ k = k ∧ perm = perm ∧ True)))) ∧
 (¬(↑x : Int) < (↑perm.length : Int) →
 ¬(↑x : Int) < (↑perm.length : Int) ∧
 ((1 : Int) ≤ k ∧ k ≤ (3 : Int)) ∧
 ((0 : Int) ≤ switchesF k ∧ switchesF k ≤ switchesF k ∧ Small (switchesF k).toNat) ∧
 ((0 : Int) ≤
 (↑(min ((List.replicate (switchesF k).toNat (0 : Int)).length - (0 : Nat))
 (fsK k perm x).length) :
 Int) ∧
 (↑(min ((List.replicate (switchesF k).toNat (0 : Int)).length - (0 : Nat))
 (fsK k perm x).length) :
 Int) ≤
 (↑(layF (List.replicate (switchesF k).toNat (0 : Int)) (0 : Nat)
 (List.take ((List.replicate (switchesF k).toNat (0 : Int)).length - (0 : Nat))
 (fsK k perm x))).length :
 Int)) ∧
 (∃ (x0 : Nat),
 x0 ≤ (2 : Nat) ∧
 (True ∧
 True ∧
 True ∧
 lsK k perm x = lsK k perm x ∧
 fsK k perm x = fsK k perm x ∧
 True ∧
 True ∧
 True ∧
 layF (List.replicate (switchesF k).toNat (0 : Int)) (0 : Nat)
 (List.take
 ((List.replicate (switchesF k).toNat (0 : Int)).length -
 (0 : Nat))
 (fsK k perm x)) =
 otK k perm x0 ∧
 True) ∧
 (0 : Int) = (↑x0 : Int) ∧
 ((↑(min ((List.replicate (switchesF k).toNat (0 : Int)).length - (0 : Nat))
 (fsK k perm x).length) :
 Int).toNat =
 plK k x0 ∧
 (layF (List.replicate (switchesF k).toNat (0 : Int)) (0 : Nat)
 (List.take
 ((List.replicate (switchesF k).toNat (0 : Int)).length - (0 : Nat))
 (fsK k perm x))).length =
 (otK k perm x0).length) ∧
 (iaK k perm x = iaK k perm (nK k) ∧ ibK k perm x = ibK k perm (nK k) ∧ True) ∧
 True ∧ True ∧ k = k ∧ True) ∧
 ∀ (x_2 : Nat),
 x_2 ≤ (2 : Nat) →
 ((↑x_2 : Int) < (2 : Int) →
 (↑x_2 : Int) < (2 : Int) ∧
 ((0 : Int) ≤ (↑x_2 : Int) ∧ (↑x_2 : Int) < (↑(2 : Nat) : Int)) ∧
 (True ∧
 ((↑x_2 : Int) = (↑(0 : Nat) : Int) →
 Fits IntKind.i64 (k - (1 : Int)) ∧
 ((((1 : Int) ≤ k - (1 : Int) ∧ k - (1 : Int) ≤ (3 : Int)) ∧
 (↑(iaK k perm (nK k)).length : Int) =
 (↑((2 : Nat) ^ (k - (1 : Int)).toNat) : Int) ∧
 (∀ (x : Int),
 x ∈ iaK k perm (nK k) →
 (0 : Int) ≤ x ∧
 x < (↑((2 : Nat) ^ (k - (1 : Int)).toNat) : Int)) ∧
 (iaK k perm (nK k)).Nodup) ∧
 m68 (k - (1 : Int), iaK k perm (nK k)) < m68 (k, perm)) ∧
 ((0 : Int) ≤
 (↑(min ((otK k perm x_2).length - plK k x_2)
 (setF (k - (1 : Int)).toNat
 (iaK k perm (nK k))).length) :
 Int) ∧
 (↑(plK k x_2) : Int) +
 (↑(min ((otK k perm x_2).length - plK k x_2)
 (setF (k - (1 : Int)).toNat
 (iaK k perm (nK k))).length) :
 Int) ≤
 (↑(layF (otK k perm x_2) (plK k x_2)
 (List.take ((otK k perm x_2).length - plK k x_2)
 (setF (k - (1 : Int)).toNat
 (iaK k perm (nK k))))).length :
 Int)) ∧
 Fits IntKind.i64 ((↑x_2 : Int) + (1 : Int)) ∧
 ∃ (x' : Nat),
 x' ≤ (2 : Nat) ∧
 (2 : Nat) - x' < (2 : Nat) - x_2 ∧
 (True ∧
 True ∧
 True ∧
 lsK k perm x = lsK k perm x ∧
 fsK k perm x = fsK k perm x ∧
 True ∧
 True ∧
 True ∧
 layF (otK k perm x_2) (plK k x_2)
 (List.take
 ((otK k perm x_2).length -
 plK k x_2)
 (setF (k - (1 : Int)).toNat
 (iaK k perm (nK k)))) =
 otK k perm x' ∧
 True) ∧
 (↑x_2 : Int) + (1 : Int) = (↑x' : Int) ∧
 (plK k x_2 +
 (↑(min ((otK k perm x_2).length - plK k x_2)
 (setF (k - (1 : Int)).toNat
 (iaK k perm (nK k))).length) :
 Int).toNat =
 plK k x' ∧
 (layF (otK k perm x_2) (plK k x_2)
 (List.take
 ((otK k perm x_2).length - plK k x_2)
 (setF (k - (1 : Int)).toNat
 (iaK k perm (nK k))))).length =
 (otK k perm x').length) ∧
 (iaK k perm (nK k) = iaK k perm (nK k) ∧
 ibK k perm (nK k) = ibK k perm (nK k) ∧ True) ∧
 True ∧ True ∧ k = k ∧ True)) ∧
 ((↑x_2 : Int) = (↑(1 : Nat) : Int) →
 Fits IntKind.i64 (k - (1 : Int)) ∧
 ((((1 : Int) ≤ k - (1 : Int) ∧ k - (1 : Int) ≤ (3 : Int)) ∧
 (↑(ibK k perm (nK k)).length : Int) =
 (↑((2 : Nat) ^ (k - (1 : Int)).toNat) : Int) ∧
 (∀ (x : Int),
 x ∈ ibK k perm (nK k) →
 (0 : Int) ≤ x ∧
 x < (↑((2 : Nat) ^ (k - (1 : Int)).toNat) : Int)) ∧
 (ibK k perm (nK k)).Nodup) ∧
 m68 (k - (1 : Int), ibK k perm (nK k)) < m68 (k, perm)) ∧
 ((0 : Int) ≤
 (↑(min ((otK k perm x_2).length - plK k x_2)
 (setF (k - (1 : Int)).toNat (ibK k perm (nK k))).length) :
 Int) ∧
 (↑(plK k x_2) : Int) +
 (↑(min ((otK k perm x_2).length - plK k x_2)
 (setF (k - (1 : Int)).toNat
 (ibK k perm (nK k))).length) :
 Int) ≤
 (↑(layF (otK k perm x_2) (plK k x_2)
 (List.take ((otK k perm x_2).length - plK k x_2)
 (setF (k - (1 : Int)).toNat
 (ibK k perm (nK k))))).length :
 Int)) ∧
 Fits IntKind.i64 ((↑x_2 : Int) + (1 : Int)) ∧
 ∃ (x' : Nat),
 x' ≤ (2 : Nat) ∧
 (2 : Nat) - x' < (2 : Nat) - x_2 ∧
 (True ∧
 True ∧
 True ∧
 lsK k perm x = lsK k perm x ∧
 fsK k perm x = fsK k perm x ∧
 True ∧
 True ∧
 True ∧
 layF (otK k perm x_2) (plK k x_2)
 (List.take
 ((otK k perm x_2).length -
 plK k x_2)
 (setF (k - (1 : Int)).toNat
 (ibK k perm (nK k)))) =
 otK k perm x' ∧
 True) ∧
 (↑x_2 : Int) + (1 : Int) = (↑x' : Int) ∧
 (plK k x_2 +
 (↑(min ((otK k perm x_2).length - plK k x_2)
 (setF (k - (1 : Int)).toNat
 (ibK k perm (nK k))).length) :
 Int).toNat =
 plK k x' ∧
 (layF (otK k perm x_2) (plK k x_2)
 (List.take
 ((otK k perm x_2).length - plK k x_2)
 (setF (k - (1 : Int)).toNat
 (ibK k perm (nK k))))).length =
 (otK k perm x').length) ∧
 (iaK k perm (nK k) = iaK k perm (nK k) ∧
 ibK k perm (nK k) = ibK k perm (nK k) ∧ True) ∧
 True ∧ True ∧ k = k ∧ True)) ∧
 (¬(↑x_2 : Int) < (2 : Int) →
 ¬(↑x_2 : Int) < (2 : Int) ∧
 layF (otK k perm x_2) (plK k x_2)
 (List.take ((otK k perm x_2).length - plK k x_2) (lsK k perm x)) =
 setF k.toNat perm))) ∧
 ((0 : Int) ≤ (1 : Int) * (2 : Int) ^ k.toNat / (2 : Int) ∧
 (1 : Int) * (2 : Int) ^ k.toNat / (2 : Int) ≤ (1 : Int) * (2 : Int) ^ k.toNat / (2 : Int) ∧
 Small ((1 : Int) * (2 : Int) ^ k.toNat / (2 : Int)).toNat) ∧
 (∃ (x0 : Nat),
 x0 ≤ nK k ∧
 (True ∧
 ptK k perm x_1 = ptK k perm x_1 ∧
 True ∧
 List.replicate ((1 : Int) * (2 : Int) ^ k.toNat / (2 : Int)).toNat (0 : Int) = lsK k perm x0 ∧
 List.replicate ((1 : Int) * (2 : Int) ^ k.toNat / (2 : Int)).toNat (0 : Int) = fsK k perm x0 ∧
 List.replicate ((1 : Int) * (2 : Int) ^ k.toNat / (2 : Int)).toNat (0 : Int) =
 iaK k perm x0 ∧
 (True ∧ True ∧ True) ∧
 List.replicate ((1 : Int) * (2 : Int) ^ k.toNat / (2 : Int)).toNat (0 : Int) =
 ibK k perm x0 ∧
 True) ∧
 (0 : Int) = (↑x0 : Int) ∧
 (↑perm.length : Int) = (↑perm.length : Int) ∧
 perm = perm ∧ True ∧ True ∧ True ∧ True ∧ k = k ∧ perm = perm ∧ True) ∧
 ∀ (x : Nat),
 x ≤ nK k →
 ((↑x : Int) < (↑perm.length : Int) →
 (↑x : Int) < (↑perm.length : Int) ∧
 ((0 : Int) ≤ (↑x : Int) ∧ (↑x : Int) < (↑perm.length : Int)) ∧
 ((0 : Int) ≤ (↑x : Int) ∧ (↑x : Int) < (↑(ptK k perm x_1).length : Int)) ∧
 ((0 : Int) ≤ (ptK k perm x_1).getD (↑x : Int).toNat (0 : Int) ∧
 (ptK k perm x_1).getD (↑x : Int).toNat (0 : Int) < (↑(2 : Nat) : Int)) ∧
 (True ∧
 ((ptK k perm x_1).getD (↑x : Int).toNat (0 : Int) = (↑(0 : Nat) : Int) →
 ((0 : Int) ≤ (↑x : Int) ∧ (0 : Int) < (2 : Int)) ∧
 Fits IntKind.i64 ((↑x : Int) / (2 : Int)) ∧
 ((0 : Int) ≤ perm.getD (↑x : Int).toNat (0 : Int) ∧ (0 : Int) < (2 : Int)) ∧
 Fits IntKind.i64 (perm.getD (↑x : Int).toNat (0 : Int) / (2 : Int)) ∧
 ((0 : Int) ≤ (↑x : Int) / (2 : Int) ∧
 (↑x : Int) / (2 : Int) < (↑(iaK k perm x).length : Int)) ∧
 ((0 : Int) ≤ (↑x : Int) ∧ (0 : Int) < (2 : Int)) ∧
 ((↑x : Int) % (2 : Int) = (0 : Int) →
 (↑x : Int) % (2 : Int) = (0 : Int) ∧
 ((0 : Int) ≤ (↑x : Int) ∧ (0 : Int) < (2 : Int)) ∧
 Fits IntKind.i64 ((↑x : Int) / (2 : Int)) ∧
 ((0 : Int) ≤ (↑x : Int) ∧
 (↑x : Int) < (↑(ptK k perm x_1).length : Int)) ∧
 ((0 : Int) ≤ (↑x : Int) / (2 : Int) ∧
 (↑x : Int) / (2 : Int) < (↑(fsK k perm x).length : Int)) ∧
 ((0 : Int) ≤ perm.getD (↑x : Int).toNat (0 : Int) ∧
 (0 : Int) < (2 : Int)) ∧
 (perm.getD (↑x : Int).toNat (0 : Int) % (2 : Int) =
 (0 : Int) →
 perm.getD (↑x : Int).toNat (0 : Int) % (2 : Int) =
 (0 : Int) ∧
 ((0 : Int) ≤ perm.getD (↑x : Int).toNat (0 : Int) ∧
 (0 : Int) < (2 : Int)) ∧
 Fits IntKind.i64
 (perm.getD (↑x : Int).toNat (0 : Int) /
 (2 : Int)) ∧
 ((0 : Int) ≤ (↑x : Int) ∧
 (↑x : Int) <
 (↑(ptK k perm x_1).length : Int)) ∧
 ((0 : Int) ≤
 perm.getD (↑x : Int).toNat (0 : Int) /
 (2 : Int) ∧
 perm.getD (↑x : Int).toNat (0 : Int) /
 (2 : Int) <
 (↑(lsK k perm x).length : Int)) ∧
 Fits IntKind.i64 ((↑x : Int) + (1 : Int)) ∧
 ∃ (x' : Nat),
 x' ≤ nK k ∧
 nK k - x' < nK k - x ∧
 (True ∧
 ptK k perm x_1 =
 ptK k perm x_1 ∧
 True ∧
 (lsK k perm x).set
 (perm.getD
 (↑x : Int).toNat
 (0 : Int) /
 (2 : Int)).toNat
 (IntKind.u8.wrap
 ((48 : Int) +
 IntKind.u8.wrap
 ((ptK k perm
 x_1).getD
 (↑x :
 Int).toNat
 (0 : Int)))) =
 lsK k perm x' ∧
 (fsK k perm x).set
 ((↑x : Int) /
 (2 : Int)).toNat
 (IntKind.u8.wrap
 ((48 : Int) +
 IntKind.u8.wrap
 ((ptK k perm
 x_1).getD
 (↑x :
 Int).toNat
 (0 :
 Int)))) =
 fsK k perm x' ∧
 (iaK k perm x).set
 ((↑x : Int) /
 (2 :
 Int)).toNat
 (perm.getD
 (↑x :
 Int).toNat
 (0 : Int) /
 (2 : Int)) =
 iaK k perm x' ∧
 (True ∧ True ∧ True) ∧
 ibK k perm x =
 ibK k perm x' ∧
 True) ∧
 (↑x : Int) + (1 : Int) =
 (↑x' : Int) ∧
 (↑perm.length : Int) =
 (↑perm.length : Int) ∧
 perm = perm ∧
 True ∧
 True ∧
 True ∧
 True ∧
 k = k ∧
 perm = perm ∧
 True) ∧
 (¬perm.getD (↑x : Int).toNat (0 : Int) % (2 : Int) =
 (0 : Int) →
 ¬perm.getD (↑x : Int).toNat (0 : Int) % (2 : Int) =
 (0 : Int) ∧
 Fits IntKind.i64 ((↑x : Int) + (1 : Int)) ∧
 ∃ (x' : Nat),
 x' ≤ nK k ∧
 nK k - x' < nK k - x ∧
 (True ∧
 ptK k perm x_1 = ptK k perm x_1 ∧
 True ∧
 lsK k perm x = lsK k perm x' ∧
 (fsK k perm x).set
 ((↑x : Int) /
 (2 : Int)).toNat
 (IntKind.u8.wrap
 ((48 : Int) +
 IntKind.u8.wrap
 ((ptK k perm x_1).getD
 (↑x : Int).toNat
 (0 : Int)))) =
 fsK k perm x' ∧
 (iaK k perm x).set
 ((↑x : Int) /
 (2 : Int)).toNat
 (perm.getD
 (↑x : Int).toNat
 (0 : Int) /
 (2 : Int)) =
 iaK k perm x' ∧
 (True ∧ True ∧ True) ∧
 ibK k perm x =
 ibK k perm x' ∧
 True) ∧
 (↑x : Int) + (1 : Int) = (↑x' : Int) ∧
 (↑perm.length : Int) =
 (↑perm.length : Int) ∧
 perm = perm ∧
 True ∧
 True ∧
 True ∧
 True ∧
 k = k ∧
 perm = perm ∧ True)) ∧
 (¬(↑x : Int) % (2 : Int) = (0 : Int) →
 ¬(↑x : Int) % (2 : Int) = (0 : Int) ∧
 ((0 : Int) ≤ perm.getD (↑x : Int).toNat (0 : Int) ∧
 (0 : Int) < (2 : Int)) ∧
 (perm.getD (↑x : Int).toNat (0 : Int) % (2 : Int) = (0 : Int) →
 perm.getD (↑x : Int).toNat (0 : Int) % (2 : Int) = (0 : Int) ∧
 ((0 : Int) ≤ perm.getD (↑x : Int).toNat (0 : Int) ∧
 (0 : Int) < (2 : Int)) ∧
 Fits IntKind.i64
 (perm.getD (↑x : Int).toNat (0 : Int) / (2 : Int)) ∧
 ((0 : Int) ≤ (↑x : Int) ∧
 (↑x : Int) < (↑(ptK k perm x_1).length : Int)) ∧
 ((0 : Int) ≤
 perm.getD (↑x : Int).toNat (0 : Int) /
 (2 : Int) ∧
 perm.getD (↑x : Int).toNat (0 : Int) / (2 : Int) <
 (↑(lsK k perm x).length : Int)) ∧
 Fits IntKind.i64 ((↑x : Int) + (1 : Int)) ∧
 ∃ (x' : Nat),
 x' ≤ nK k ∧
 nK k - x' < nK k - x ∧
 (True ∧
 ptK k perm x_1 = ptK k perm x_1 ∧
 True ∧
 (lsK k perm x).set
 (perm.getD (↑x : Int).toNat
 (0 : Int) /
 (2 : Int)).toNat
 (IntKind.u8.wrap
 ((48 : Int) +
 IntKind.u8.wrap
 ((ptK k perm x_1).getD
 (↑x : Int).toNat
 (0 : Int)))) =
 lsK k perm x' ∧
 fsK k perm x = fsK k perm x' ∧
 (iaK k perm x).set
 ((↑x : Int) /
 (2 : Int)).toNat
 (perm.getD
 (↑x : Int).toNat
 (0 : Int) /
 (2 : Int)) =
 iaK k perm x' ∧
 (True ∧ True ∧ True) ∧
 ibK k perm x =
 ibK k perm x' ∧
 True) ∧
 (↑x : Int) + (1 : Int) = (↑x' : Int) ∧
 (↑perm.length : Int) =
 (↑perm.length : Int) ∧
 perm = perm ∧
 True ∧
 True ∧
 True ∧
 True ∧
 k = k ∧
 perm = perm ∧ True) ∧
 (¬perm.getD (↑x : Int).toNat (0 : Int) % (2 : Int) = (0 : Int) →
 ¬perm.getD (↑x : Int).toNat (0 : Int) % (2 : Int) =
 (0 : Int) ∧
 Fits IntKind.i64 ((↑x : Int) + (1 : Int)) ∧
 ∃ (x' : Nat),
 x' ≤ nK k ∧
 nK k - x' < nK k - x ∧
 (True ∧
 ptK k perm x_1 = ptK k perm x_1 ∧
 True ∧
 lsK k perm x = lsK k perm x' ∧
 fsK k perm x = fsK k perm x' ∧
 (iaK k perm x).set
 ((↑x : Int) / (2 : Int)).toNat
 (perm.getD (↑x : Int).toNat
 (0 : Int) /
 (2 : Int)) =
 iaK k perm x' ∧
 (True ∧ True ∧ True) ∧
 ibK k perm x = ibK k perm x' ∧
 True) ∧
 (↑x : Int) + (1 : Int) = (↑x' : Int) ∧
 (↑perm.length : Int) = (↑perm.length : Int) ∧
 perm = perm ∧
 True ∧
 True ∧
 True ∧
 True ∧
 k = k ∧ perm = perm ∧ True)))) ∧
 ((ptK k perm x_1).getD (↑x : Int).toNat (0 : Int) = (↑(1 : Nat) : Int) →
 ((0 : Int) ≤ (↑x : Int) ∧ (0 : Int) < (2 : Int)) ∧
 Fits IntKind.i64 ((↑x : Int) / (2 : Int)) ∧
 ((0 : Int) ≤ perm.getD (↑x : Int).toNat (0 : Int) ∧ (0 : Int) < (2 : Int)) ∧
 Fits IntKind.i64 (perm.getD (↑x : Int).toNat (0 : Int) / (2 : Int)) ∧
 ((0 : Int) ≤ (↑x : Int) / (2 : Int) ∧
 (↑x : Int) / (2 : Int) < (↑(ibK k perm x).length : Int)) ∧
 ((0 : Int) ≤ (↑x : Int) ∧ (0 : Int) < (2 : Int)) ∧
 ((↑x : Int) % (2 : Int) = (0 : Int) →
 (↑x : Int) % (2 : Int) = (0 : Int) ∧
 ((0 : Int) ≤ (↑x : Int) ∧ (0 : Int) < (2 : Int)) ∧
 Fits IntKind.i64 ((↑x : Int) / (2 : Int)) ∧
 ((0 : Int) ≤ (↑x : Int) ∧
 (↑x : Int) < (↑(ptK k perm x_1).length : Int)) ∧
 ((0 : Int) ≤ (↑x : Int) / (2 : Int) ∧
 (↑x : Int) / (2 : Int) < (↑(fsK k perm x).length : Int)) ∧
 ((0 : Int) ≤ perm.getD (↑x : Int).toNat (0 : Int) ∧
 (0 : Int) < (2 : Int)) ∧
 (perm.getD (↑x : Int).toNat (0 : Int) % (2 : Int) =
 (0 : Int) →
 perm.getD (↑x : Int).toNat (0 : Int) % (2 : Int) =
 (0 : Int) ∧
 ((0 : Int) ≤ perm.getD (↑x : Int).toNat (0 : Int) ∧
 (0 : Int) < (2 : Int)) ∧
 Fits IntKind.i64
 (perm.getD (↑x : Int).toNat (0 : Int) /
 (2 : Int)) ∧
 ((0 : Int) ≤ (↑x : Int) ∧
 (↑x : Int) <
 (↑(ptK k perm x_1).length : Int)) ∧
 ((0 : Int) ≤
 perm.getD (↑x : Int).toNat (0 : Int) /
 (2 : Int) ∧
 perm.getD (↑x : Int).toNat (0 : Int) /
 (2 : Int) <
 (↑(lsK k perm x).length : Int)) ∧
 Fits IntKind.i64 ((↑x : Int) + (1 : Int)) ∧
 ∃ (x' : Nat),
 x' ≤ nK k ∧
 nK k - x' < nK k - x ∧
 (True ∧
 ptK k perm x_1 = ptK k perm x_1 ∧
 True ∧
 (lsK k perm x).set
 (perm.getD
 (↑x : Int).toNat
 (0 : Int) /
 (2 : Int)).toNat
 (IntKind.u8.wrap
 ((48 : Int) +
 IntKind.u8.wrap
 ((ptK k perm
 x_1).getD
 (↑x : Int).toNat
 (0 : Int)))) =
 lsK k perm x' ∧
 (fsK k perm x).set
 ((↑x : Int) /
 (2 : Int)).toNat
 (IntKind.u8.wrap
 ((48 : Int) +
 IntKind.u8.wrap
 ((ptK k perm
 x_1).getD
 (↑x :
 Int).toNat
 (0 : Int)))) =
 fsK k perm x' ∧
 iaK k perm x =
 iaK k perm x' ∧
 (True ∧ True ∧ True) ∧
 (ibK k perm x).set
 ((↑x : Int) /
 (2 :
 Int)).toNat
 (perm.getD
 (↑x :
 Int).toNat
 (0 : Int) /
 (2 : Int)) =
 ibK k perm x' ∧
 True) ∧
 (↑x : Int) + (1 : Int) =
 (↑x' : Int) ∧
 (↑perm.length : Int) =
 (↑perm.length : Int) ∧
 perm = perm ∧
 True ∧
 True ∧
 True ∧
 True ∧
 k = k ∧
 perm = perm ∧
 True) ∧
 (¬perm.getD (↑x : Int).toNat (0 : Int) % (2 : Int) =
 (0 : Int) →
 ¬perm.getD (↑x : Int).toNat (0 : Int) % (2 : Int) =
 (0 : Int) ∧
 Fits IntKind.i64 ((↑x : Int) + (1 : Int)) ∧
 ∃ (x' : Nat),
 x' ≤ nK k ∧
 nK k - x' < nK k - x ∧
 (True ∧
 ptK k perm x_1 = ptK k perm x_1 ∧
 True ∧
 lsK k perm x = lsK k perm x' ∧
 (fsK k perm x).set
 ((↑x : Int) / (2 : Int)).toNat
 (IntKind.u8.wrap
 ((48 : Int) +
 IntKind.u8.wrap
 ((ptK k perm x_1).getD
 (↑x : Int).toNat
 (0 : Int)))) =
 fsK k perm x' ∧
 iaK k perm x = iaK k perm x' ∧
 (True ∧ True ∧ True) ∧
 (ibK k perm x).set
 ((↑x : Int) /
 (2 : Int)).toNat
 (perm.getD
 (↑x : Int).toNat
 (0 : Int) /
 (2 : Int)) =
 ibK k perm x' ∧
 True) ∧
 (↑x : Int) + (1 : Int) = (↑x' : Int) ∧
 (↑perm.length : Int) =
 (↑perm.length : Int) ∧
 perm = perm ∧
 True ∧
 True ∧
 True ∧
 True ∧
 k = k ∧ perm = perm ∧ True)) ∧
 (¬(↑x : Int) % (2 : Int) = (0 : Int) →
 ¬(↑x : Int) % (2 : Int) = (0 : Int) ∧
 ((0 : Int) ≤ perm.getD (↑x : Int).toNat (0 : Int) ∧
 (0 : Int) < (2 : Int)) ∧
 (perm.getD (↑x : Int).toNat (0 : Int) % (2 : Int) = (0 : Int) →
 perm.getD (↑x : Int).toNat (0 : Int) % (2 : Int) = (0 : Int) ∧
 ((0 : Int) ≤ perm.getD (↑x : Int).toNat (0 : Int) ∧
 (0 : Int) < (2 : Int)) ∧
 Fits IntKind.i64
 (perm.getD (↑x : Int).toNat (0 : Int) / (2 : Int)) ∧
 ((0 : Int) ≤ (↑x : Int) ∧
 (↑x : Int) < (↑(ptK k perm x_1).length : Int)) ∧
 ((0 : Int) ≤
 perm.getD (↑x : Int).toNat (0 : Int) / (2 : Int) ∧
 perm.getD (↑x : Int).toNat (0 : Int) / (2 : Int) <
 (↑(lsK k perm x).length : Int)) ∧
 Fits IntKind.i64 ((↑x : Int) + (1 : Int)) ∧
 ∃ (x' : Nat),
 x' ≤ nK k ∧
 nK k - x' < nK k - x ∧
 (True ∧
 ptK k perm x_1 = ptK k perm x_1 ∧
 True ∧
 (lsK k perm x).set
 (perm.getD (↑x : Int).toNat
 (0 : Int) /
 (2 : Int)).toNat
 (IntKind.u8.wrap
 ((48 : Int) +
 IntKind.u8.wrap
 ((ptK k perm x_1).getD
 (↑x : Int).toNat
 (0 : Int)))) =
 lsK k perm x' ∧
 fsK k perm x = fsK k perm x' ∧
 iaK k perm x = iaK k perm x' ∧
 (True ∧ True ∧ True) ∧
 (ibK k perm x).set
 ((↑x : Int) /
 (2 : Int)).toNat
 (perm.getD
 (↑x : Int).toNat
 (0 : Int) /
 (2 : Int)) =
 ibK k perm x' ∧
 True) ∧
 (↑x : Int) + (1 : Int) = (↑x' : Int) ∧
 (↑perm.length : Int) =
 (↑perm.length : Int) ∧
 perm = perm ∧
 True ∧
 True ∧
 True ∧
 True ∧
 k = k ∧ perm = perm ∧ True) ∧
 (¬perm.getD (↑x : Int).toNat (0 : Int) % (2 : Int) = (0 : Int) →
 ¬perm.getD (↑x : Int).toNat (0 : Int) % (2 : Int) = (0 : Int) ∧
 Fits IntKind.i64 ((↑x : Int) + (1 : Int)) ∧
 ∃ (x' : Nat),
 x' ≤ nK k ∧
 nK k - x' < nK k - x ∧
 (True ∧
 ptK k perm x_1 = ptK k perm x_1 ∧
 True ∧
 lsK k perm x = lsK k perm x' ∧
 fsK k perm x = fsK k perm x' ∧
 iaK k perm x = iaK k perm x' ∧
 (True ∧ True ∧ True) ∧
 (ibK k perm x).set
 ((↑x : Int) / (2 : Int)).toNat
 (perm.getD (↑x : Int).toNat
 (0 : Int) /
 (2 : Int)) =
 ibK k perm x' ∧
 True) ∧
 (↑x : Int) + (1 : Int) = (↑x' : Int) ∧
 (↑perm.length : Int) = (↑perm.length : Int) ∧
 perm = perm ∧
 True ∧
 True ∧
 True ∧
 True ∧ k = k ∧ perm = perm ∧ True)))) ∧
 (¬(↑x : Int) < (↑perm.length : Int) →
 ¬(↑x : Int) < (↑perm.length : Int) ∧
 ((1 : Int) ≤ k ∧ k ≤ (3 : Int)) ∧
 ((0 : Int) ≤ switchesF k ∧ switchesF k ≤ switchesF k ∧ Small (switchesF k).toNat) ∧
 ((0 : Int) ≤
 (↑(min ((List.replicate (switchesF k).toNat (0 : Int)).length - (0 : Nat))
 (fsK k perm x).length) :
 Int) ∧
 (↑(min ((List.replicate (switchesF k).toNat (0 : Int)).length - (0 : Nat))
 (fsK k perm x).length) :
 Int) ≤
 (↑(layF (List.replicate (switchesF k).toNat (0 : Int)) (0 : Nat)
 (List.take ((List.replicate (switchesF k).toNat (0 : Int)).length - (0 : Nat))
 (fsK k perm x))).length :
 Int)) ∧
 (∃ (x0 : Nat),
 x0 ≤ (2 : Nat) ∧
 (True ∧
 True ∧
 True ∧
 lsK k perm x = lsK k perm x ∧
 fsK k perm x = fsK k perm x ∧
 True ∧
 True ∧
 True ∧
 layF (List.replicate (switchesF k).toNat (0 : Int)) (0 : Nat)
 (List.take
 ((List.replicate (switchesF k).toNat (0 : Int)).length -
 (0 : Nat))
 (fsK k perm x)) =
 otK k perm x0 ∧
 True) ∧
 (0 : Int) = (↑x0 : Int) ∧
 ((↑(min ((List.replicate (switchesF k).toNat (0 : Int)).length - (0 : Nat))
 (fsK k perm x).length) :
 Int).toNat =
 plK k x0 ∧
 (layF (List.replicate (switchesF k).toNat (0 : Int)) (0 : Nat)
 (List.take
 ((List.replicate (switchesF k).toNat (0 : Int)).length - (0 : Nat))
 (fsK k perm x))).length =
 (otK k perm x0).length) ∧
 (iaK k perm x = iaK k perm (nK k) ∧ ibK k perm x = ibK k perm (nK k) ∧ True) ∧
 True ∧ True ∧ k = k ∧ True) ∧
 ∀ (x_2 : Nat),
 x_2 ≤ (2 : Nat) →
 ((↑x_2 : Int) < (2 : Int) →
 (↑x_2 : Int) < (2 : Int) ∧
 ((0 : Int) ≤ (↑x_2 : Int) ∧ (↑x_2 : Int) < (↑(2 : Nat) : Int)) ∧
 (True ∧
 ((↑x_2 : Int) = (↑(0 : Nat) : Int) →
 Fits IntKind.i64 (k - (1 : Int)) ∧
 ((((1 : Int) ≤ k - (1 : Int) ∧ k - (1 : Int) ≤ (3 : Int)) ∧
 (↑(iaK k perm (nK k)).length : Int) =
 (↑((2 : Nat) ^ (k - (1 : Int)).toNat) : Int) ∧
 (∀ (x : Int),
 x ∈ iaK k perm (nK k) →
 (0 : Int) ≤ x ∧
 x < (↑((2 : Nat) ^ (k - (1 : Int)).toNat) : Int)) ∧
 (iaK k perm (nK k)).Nodup) ∧
 m68 (k - (1 : Int), iaK k perm (nK k)) < m68 (k, perm)) ∧
 ((0 : Int) ≤
 (↑(min ((otK k perm x_2).length - plK k x_2)
 (setF (k - (1 : Int)).toNat
 (iaK k perm (nK k))).length) :
 Int) ∧
 (↑(plK k x_2) : Int) +
 (↑(min ((otK k perm x_2).length - plK k x_2)
 (setF (k - (1 : Int)).toNat
 (iaK k perm (nK k))).length) :
 Int) ≤
 (↑(layF (otK k perm x_2) (plK k x_2)
 (List.take ((otK k perm x_2).length - plK k x_2)
 (setF (k - (1 : Int)).toNat
 (iaK k perm (nK k))))).length :
 Int)) ∧
 Fits IntKind.i64 ((↑x_2 : Int) + (1 : Int)) ∧
 ∃ (x' : Nat),
 x' ≤ (2 : Nat) ∧
 (2 : Nat) - x' < (2 : Nat) - x_2 ∧
 (True ∧
 True ∧
 True ∧
 lsK k perm x = lsK k perm x ∧
 fsK k perm x = fsK k perm x ∧
 True ∧
 True ∧
 True ∧
 layF (otK k perm x_2) (plK k x_2)
 (List.take
 ((otK k perm x_2).length -
 plK k x_2)
 (setF (k - (1 : Int)).toNat
 (iaK k perm (nK k)))) =
 otK k perm x' ∧
 True) ∧
 (↑x_2 : Int) + (1 : Int) = (↑x' : Int) ∧
 (plK k x_2 +
 (↑(min ((otK k perm x_2).length - plK k x_2)
 (setF (k - (1 : Int)).toNat
 (iaK k perm (nK k))).length) :
 Int).toNat =
 plK k x' ∧
 (layF (otK k perm x_2) (plK k x_2)
 (List.take
 ((otK k perm x_2).length - plK k x_2)
 (setF (k - (1 : Int)).toNat
 (iaK k perm (nK k))))).length =
 (otK k perm x').length) ∧
 (iaK k perm (nK k) = iaK k perm (nK k) ∧
 ibK k perm (nK k) = ibK k perm (nK k) ∧ True) ∧
 True ∧ True ∧ k = k ∧ True)) ∧
 ((↑x_2 : Int) = (↑(1 : Nat) : Int) →
 Fits IntKind.i64 (k - (1 : Int)) ∧
 ((((1 : Int) ≤ k - (1 : Int) ∧ k - (1 : Int) ≤ (3 : Int)) ∧
 (↑(ibK k perm (nK k)).length : Int) =
 (↑((2 : Nat) ^ (k - (1 : Int)).toNat) : Int) ∧
 (∀ (x : Int),
 x ∈ ibK k perm (nK k) →
 (0 : Int) ≤ x ∧
 x < (↑((2 : Nat) ^ (k - (1 : Int)).toNat) : Int)) ∧
 (ibK k perm (nK k)).Nodup) ∧
 m68 (k - (1 : Int), ibK k perm (nK k)) < m68 (k, perm)) ∧
 ((0 : Int) ≤
 (↑(min ((otK k perm x_2).length - plK k x_2)
 (setF (k - (1 : Int)).toNat (ibK k perm (nK k))).length) :
 Int) ∧
 (↑(plK k x_2) : Int) +
 (↑(min ((otK k perm x_2).length - plK k x_2)
 (setF (k - (1 : Int)).toNat
 (ibK k perm (nK k))).length) :
 Int) ≤
 (↑(layF (otK k perm x_2) (plK k x_2)
 (List.take ((otK k perm x_2).length - plK k x_2)
 (setF (k - (1 : Int)).toNat
 (ibK k perm (nK k))))).length :
 Int)) ∧
 Fits IntKind.i64 ((↑x_2 : Int) + (1 : Int)) ∧
 ∃ (x' : Nat),
 x' ≤ (2 : Nat) ∧
 (2 : Nat) - x' < (2 : Nat) - x_2 ∧
 (True ∧
 True ∧
 True ∧
 lsK k perm x = lsK k perm x ∧
 fsK k perm x = fsK k perm x ∧
 True ∧
 True ∧
 True ∧
 layF (otK k perm x_2) (plK k x_2)
 (List.take
 ((otK k perm x_2).length -
 plK k x_2)
 (setF (k - (1 : Int)).toNat
 (ibK k perm (nK k)))) =
 otK k perm x' ∧
 True) ∧
 (↑x_2 : Int) + (1 : Int) = (↑x' : Int) ∧
 (plK k x_2 +
 (↑(min ((otK k perm x_2).length - plK k x_2)
 (setF (k - (1 : Int)).toNat
 (ibK k perm (nK k))).length) :
 Int).toNat =
 plK k x' ∧
 (layF (otK k perm x_2) (plK k x_2)
 (List.take
 ((otK k perm x_2).length - plK k x_2)
 (setF (k - (1 : Int)).toNat
 (ibK k perm (nK k))))).length =
 (otK k perm x').length) ∧
 (iaK k perm (nK k) = iaK k perm (nK k) ∧
 ibK k perm (nK k) = ibK k perm (nK k) ∧ True) ∧
 True ∧ True ∧ k = k ∧ True)) ∧
 (¬(↑x_2 : Int) < (2 : Int) →
 ¬(↑x_2 : Int) < (2 : Int) ∧
 layF (otK k perm x_2) (plK k x_2)
 (List.take ((otK k perm x_2).length - plK k x_2) (lsK k perm x)) =
 setF k.toNat perm))) ∧
 (((0 : Int) ≤ (1 : Int) * (2 : Int) ^ k.toNat / (2 : Int) ∧
 (1 : Int) * (2 : Int) ^ k.toNat / (2 : Int) ≤ (1 : Int) * (2 : Int) ^ k.toNat / (2 : Int) ∧
 Small ((1 : Int) * (2 : Int) ^ k.toNat / (2 : Int)).toNat) ∧
 (((0 : Int) ≤ (1 : Int) * (2 : Int) ^ k.toNat / (2 : Int) ∧
 (1 : Int) * (2 : Int) ^ k.toNat / (2 : Int) ≤ (1 : Int) * (2 : Int) ^ k.toNat / (2 : Int) ∧
 Small ((1 : Int) * (2 : Int) ^ k.toNat / (2 : Int)).toNat) ∧
 (∃ (x0 : Nat),
 x0 ≤ nK k ∧
 (True ∧
 ptK k perm x_1 = ptK k perm x_1 ∧
 True ∧
 List.replicate ((1 : Int) * (2 : Int) ^ k.toNat / (2 : Int)).toNat (0 : Int) = lsK k perm x0 ∧
 List.replicate ((1 : Int) * (2 : Int) ^ k.toNat / (2 : Int)).toNat (0 : Int) =
 fsK k perm x0 ∧
 List.replicate ((1 : Int) * (2 : Int) ^ k.toNat / (2 : Int)).toNat (0 : Int) =
 ibK k perm x0 ∧
 List.replicate ((1 : Int) * (2 : Int) ^ k.toNat / (2 : Int)).toNat (0 : Int) =
 iaK k perm x0 ∧
 (True ∧ True ∧ True) ∧ True) ∧
 (0 : Int) = (↑x0 : Int) ∧
 (↑perm.length : Int) = (↑perm.length : Int) ∧
 perm = perm ∧ True ∧ True ∧ True ∧ True ∧ k = k ∧ perm = perm ∧ True) ∧
 ∀ (x : Nat),
 x ≤ nK k →
 ((↑x : Int) < (↑perm.length : Int) →
 (↑x : Int) < (↑perm.length : Int) ∧
 ((0 : Int) ≤ (↑x : Int) ∧ (↑x : Int) < (↑perm.length : Int)) ∧
 ((0 : Int) ≤ (↑x : Int) ∧ (↑x : Int) < (↑(ptK k perm x_1).length : Int)) ∧
 ((0 : Int) ≤ (ptK k perm x_1).getD (↑x : Int).toNat (0 : Int) ∧
 (ptK k perm x_1).getD (↑x : Int).toNat (0 : Int) < (↑(2 : Nat) : Int)) ∧
 (True ∧
 ((ptK k perm x_1).getD (↑x : Int).toNat (0 : Int) = (↑(0 : Nat) : Int) →
 ((0 : Int) ≤ (↑x : Int) ∧ (0 : Int) < (2 : Int)) ∧
 Fits IntKind.i64 ((↑x : Int) / (2 : Int)) ∧
 ((0 : Int) ≤ perm.getD (↑x : Int).toNat (0 : Int) ∧ (0 : Int) < (2 : Int)) ∧
 Fits IntKind.i64 (perm.getD (↑x : Int).toNat (0 : Int) / (2 : Int)) ∧
 ((0 : Int) ≤ (↑x : Int) / (2 : Int) ∧
 (↑x : Int) / (2 : Int) < (↑(iaK k perm x).length : Int)) ∧
 ((0 : Int) ≤ (↑x : Int) ∧ (0 : Int) < (2 : Int)) ∧
 ((↑x : Int) % (2 : Int) = (0 : Int) →
 (↑x : Int) % (2 : Int) = (0 : Int) ∧
 ((0 : Int) ≤ (↑x : Int) ∧ (0 : Int) < (2 : Int)) ∧
 Fits IntKind.i64 ((↑x : Int) / (2 : Int)) ∧
 ((0 : Int) ≤ (↑x : Int) ∧
 (↑x : Int) < (↑(ptK k perm x_1).length : Int)) ∧
 ((0 : Int) ≤ (↑x : Int) / (2 : Int) ∧
 (↑x : Int) / (2 : Int) <
 (↑(fsK k perm x).length : Int)) ∧
 ((0 : Int) ≤ perm.getD (↑x : Int).toNat (0 : Int) ∧
 (0 : Int) < (2 : Int)) ∧
 (perm.getD (↑x : Int).toNat (0 : Int) % (2 : Int) =
 (0 : Int) →
 perm.getD (↑x : Int).toNat (0 : Int) % (2 : Int) =
 (0 : Int) ∧
 ((0 : Int) ≤
 perm.getD (↑x : Int).toNat (0 : Int) ∧
 (0 : Int) < (2 : Int)) ∧
 Fits IntKind.i64
 (perm.getD (↑x : Int).toNat (0 : Int) /
 (2 : Int)) ∧
 ((0 : Int) ≤ (↑x : Int) ∧
 (↑x : Int) <
 (↑(ptK k perm x_1).length : Int)) ∧
 ((0 : Int) ≤
 perm.getD (↑x : Int).toNat (0 : Int) /
 (2 : Int) ∧
 perm.getD (↑x : Int).toNat (0 : Int) /
 (2 : Int) <
 (↑(lsK k perm x).length : Int)) ∧
 Fits IntKind.i64
 ((↑x : Int) + (1 : Int)) ∧
 ∃ (x' : Nat),
 x' ≤ nK k ∧
 nK k - x' < nK k - x ∧
 (True ∧
 ptK k perm x_1 =
 ptK k perm x_1 ∧
 True ∧
 (lsK k perm x).set
 (perm.getD
 (↑x :
 Int).toNat
 (0 : Int) /
 (2 : Int)).toNat
 (IntKind.u8.wrap
 ((48 : Int) +
 IntKind.u8.wrap
 ((ptK k perm
 x_1).getD
 (↑x :
 Int).toNat
 (0 :
 Int)))) =
 lsK k perm x' ∧
 (fsK k perm x).set
 ((↑x : Int) /
 (2 :
 Int)).toNat
 (IntKind.u8.wrap
 ((48 : Int) +
 IntKind.u8.wrap
 ((ptK k perm
 x_1).getD
 (↑x :
 Int).toNat
 (0 :
 Int)))) =
 fsK k perm x' ∧
 ibK k perm x =
 ibK k perm x' ∧
 (iaK k perm x).set
 ((↑x : Int) /
 (2 :
 Int)).toNat
 (perm.getD
 (↑x :
 Int).toNat
 (0 :
 Int) /
 (2 : Int)) =
 iaK k perm x' ∧
 (True ∧
 True ∧ True) ∧
 True) ∧
 (↑x : Int) + (1 : Int) =
 (↑x' : Int) ∧
 (↑perm.length : Int) =
 (↑perm.length : Int) ∧
 perm = perm ∧
 True ∧
 True ∧
 True ∧
 True ∧
 k = k ∧
 perm = perm ∧
 True) ∧
 (¬perm.getD (↑x : Int).toNat (0 : Int) % (2 : Int) =
 (0 : Int) →
 ¬perm.getD (↑x : Int).toNat (0 : Int) % (2 : Int) =
 (0 : Int) ∧
 Fits IntKind.i64 ((↑x : Int) + (1 : Int)) ∧
 ∃ (x' : Nat),
 x' ≤ nK k ∧
 nK k - x' < nK k - x ∧
 (True ∧
 ptK k perm x_1 = ptK k perm x_1 ∧
 True ∧
 lsK k perm x = lsK k perm x' ∧
 (fsK k perm x).set
 ((↑x : Int) /
 (2 : Int)).toNat
 (IntKind.u8.wrap
 ((48 : Int) +
 IntKind.u8.wrap
 ((ptK k perm
 x_1).getD
 (↑x : Int).toNat
 (0 : Int)))) =
 fsK k perm x' ∧
 ibK k perm x = ibK k perm x' ∧
 (iaK k perm x).set
 ((↑x : Int) /
 (2 : Int)).toNat
 (perm.getD
 (↑x : Int).toNat
 (0 : Int) /
 (2 : Int)) =
 iaK k perm x' ∧
 (True ∧ True ∧ True) ∧
 True) ∧
 (↑x : Int) + (1 : Int) = (↑x' : Int) ∧
 (↑perm.length : Int) =
 (↑perm.length : Int) ∧
 perm = perm ∧
 True ∧
 True ∧
 True ∧
 True ∧
 k = k ∧
 perm = perm ∧ True)) ∧
 (¬(↑x : Int) % (2 : Int) = (0 : Int) →
 ¬(↑x : Int) % (2 : Int) = (0 : Int) ∧
 ((0 : Int) ≤ perm.getD (↑x : Int).toNat (0 : Int) ∧
 (0 : Int) < (2 : Int)) ∧
 (perm.getD (↑x : Int).toNat (0 : Int) % (2 : Int) = (0 : Int) →
 perm.getD (↑x : Int).toNat (0 : Int) % (2 : Int) =
 (0 : Int) ∧
 ((0 : Int) ≤ perm.getD (↑x : Int).toNat (0 : Int) ∧
 (0 : Int) < (2 : Int)) ∧
 Fits IntKind.i64
 (perm.getD (↑x : Int).toNat (0 : Int) / (2 : Int)) ∧
 ((0 : Int) ≤ (↑x : Int) ∧
 (↑x : Int) < (↑(ptK k perm x_1).length : Int)) ∧
 ((0 : Int) ≤
 perm.getD (↑x : Int).toNat (0 : Int) /
 (2 : Int) ∧
 perm.getD (↑x : Int).toNat (0 : Int) /
 (2 : Int) <
 (↑(lsK k perm x).length : Int)) ∧
 Fits IntKind.i64 ((↑x : Int) + (1 : Int)) ∧
 ∃ (x' : Nat),
 x' ≤ nK k ∧
 nK k - x' < nK k - x ∧
 (True ∧
 ptK k perm x_1 = ptK k perm x_1 ∧
 True ∧
 (lsK k perm x).set
 (perm.getD (↑x : Int).toNat
 (0 : Int) /
 (2 : Int)).toNat
 (IntKind.u8.wrap
 ((48 : Int) +
 IntKind.u8.wrap
 ((ptK k perm x_1).getD
 (↑x : Int).toNat
 (0 : Int)))) =
 lsK k perm x' ∧
 fsK k perm x = fsK k perm x' ∧
 ibK k perm x = ibK k perm x' ∧
 (iaK k perm x).set
 ((↑x : Int) /
 (2 : Int)).toNat
 (perm.getD
 (↑x : Int).toNat
 (0 : Int) /
 (2 : Int)) =
 iaK k perm x' ∧
 (True ∧ True ∧ True) ∧
 True) ∧
 (↑x : Int) + (1 : Int) = (↑x' : Int) ∧
 (↑perm.length : Int) =
 (↑perm.length : Int) ∧
 perm = perm ∧
 True ∧
 True ∧
 True ∧
 True ∧
 k = k ∧
 perm = perm ∧ True) ∧
 (¬perm.getD (↑x : Int).toNat (0 : Int) % (2 : Int) =
 (0 : Int) →
 ¬perm.getD (↑x : Int).toNat (0 : Int) % (2 : Int) =
 (0 : Int) ∧
 Fits IntKind.i64 ((↑x : Int) + (1 : Int)) ∧
 ∃ (x' : Nat),
 x' ≤ nK k ∧
 nK k - x' < nK k - x ∧
 (True ∧
 ptK k perm x_1 = ptK k perm x_1 ∧
 True ∧
 lsK k perm x = lsK k perm x' ∧
 fsK k perm x = fsK k perm x' ∧
 ibK k perm x = ibK k perm x' ∧
 (iaK k perm x).set
 ((↑x : Int) / (2 : Int)).toNat
 (perm.getD (↑x : Int).toNat
 (0 : Int) /
 (2 : Int)) =
 iaK k perm x' ∧
 (True ∧ True ∧ True) ∧ True) ∧
 (↑x : Int) + (1 : Int) = (↑x' : Int) ∧
 (↑perm.length : Int) = (↑perm.length : Int) ∧
 perm = perm ∧
 True ∧
 True ∧
 True ∧
 True ∧
 k = k ∧ perm = perm ∧ True)))) ∧
 ((ptK k perm x_1).getD (↑x : Int).toNat (0 : Int) = (↑(1 : Nat) : Int) →
 ((0 : Int) ≤ (↑x : Int) ∧ (0 : Int) < (2 : Int)) ∧
 Fits IntKind.i64 ((↑x : Int) / (2 : Int)) ∧
 ((0 : Int) ≤ perm.getD (↑x : Int).toNat (0 : Int) ∧ (0 : Int) < (2 : Int)) ∧
 Fits IntKind.i64 (perm.getD (↑x : Int).toNat (0 : Int) / (2 : Int)) ∧
 ((0 : Int) ≤ (↑x : Int) / (2 : Int) ∧
 (↑x : Int) / (2 : Int) < (↑(ibK k perm x).length : Int)) ∧
 ((0 : Int) ≤ (↑x : Int) ∧ (0 : Int) < (2 : Int)) ∧
 ((↑x : Int) % (2 : Int) = (0 : Int) →
 (↑x : Int) % (2 : Int) = (0 : Int) ∧
 ((0 : Int) ≤ (↑x : Int) ∧ (0 : Int) < (2 : Int)) ∧
 Fits IntKind.i64 ((↑x : Int) / (2 : Int)) ∧
 ((0 : Int) ≤ (↑x : Int) ∧
 (↑x : Int) < (↑(ptK k perm x_1).length : Int)) ∧
 ((0 : Int) ≤ (↑x : Int) / (2 : Int) ∧
 (↑x : Int) / (2 : Int) < (↑(fsK k perm x).length : Int)) ∧
 ((0 : Int) ≤ perm.getD (↑x : Int).toNat (0 : Int) ∧
 (0 : Int) < (2 : Int)) ∧
 (perm.getD (↑x : Int).toNat (0 : Int) % (2 : Int) =
 (0 : Int) →
 perm.getD (↑x : Int).toNat (0 : Int) % (2 : Int) =
 (0 : Int) ∧
 ((0 : Int) ≤ perm.getD (↑x : Int).toNat (0 : Int) ∧
 (0 : Int) < (2 : Int)) ∧
 Fits IntKind.i64
 (perm.getD (↑x : Int).toNat (0 : Int) /
 (2 : Int)) ∧
 ((0 : Int) ≤ (↑x : Int) ∧
 (↑x : Int) <
 (↑(ptK k perm x_1).length : Int)) ∧
 ((0 : Int) ≤
 perm.getD (↑x : Int).toNat (0 : Int) /
 (2 : Int) ∧
 perm.getD (↑x : Int).toNat (0 : Int) /
 (2 : Int) <
 (↑(lsK k perm x).length : Int)) ∧
 Fits IntKind.i64 ((↑x : Int) + (1 : Int)) ∧
 ∃ (x' : Nat),
 x' ≤ nK k ∧
 nK k - x' < nK k - x ∧
 (True ∧
 ptK k perm x_1 =
 ptK k perm x_1 ∧
 True ∧
 (lsK k perm x).set
 (perm.getD
 (↑x : Int).toNat
 (0 : Int) /
 (2 : Int)).toNat
 (IntKind.u8.wrap
 ((48 : Int) +
 IntKind.u8.wrap
 ((ptK k perm
 x_1).getD
 (↑x :
 Int).toNat
 (0 : Int)))) =
 lsK k perm x' ∧
 (fsK k perm x).set
 ((↑x : Int) /
 (2 : Int)).toNat
 (IntKind.u8.wrap
 ((48 : Int) +
 IntKind.u8.wrap
 ((ptK k perm
 x_1).getD
 (↑x :
 Int).toNat
 (0 :
 Int)))) =
 fsK k perm x' ∧
 (ibK k perm x).set
 ((↑x : Int) /
 (2 :
 Int)).toNat
 (perm.getD
 (↑x :
 Int).toNat
 (0 : Int) /
 (2 : Int)) =
 ibK k perm x' ∧
 iaK k perm x =
 iaK k perm x' ∧
 (True ∧
 True ∧ True) ∧
 True) ∧
 (↑x : Int) + (1 : Int) =
 (↑x' : Int) ∧
 (↑perm.length : Int) =
 (↑perm.length : Int) ∧
 perm = perm ∧
 True ∧
 True ∧
 True ∧
 True ∧
 k = k ∧
 perm = perm ∧
 True) ∧
 (¬perm.getD (↑x : Int).toNat (0 : Int) % (2 : Int) =
 (0 : Int) →
 ¬perm.getD (↑x : Int).toNat (0 : Int) % (2 : Int) =
 (0 : Int) ∧
 Fits IntKind.i64 ((↑x : Int) + (1 : Int)) ∧
 ∃ (x' : Nat),
 x' ≤ nK k ∧
 nK k - x' < nK k - x ∧
 (True ∧
 ptK k perm x_1 = ptK k perm x_1 ∧
 True ∧
 lsK k perm x = lsK k perm x' ∧
 (fsK k perm x).set
 ((↑x : Int) /
 (2 : Int)).toNat
 (IntKind.u8.wrap
 ((48 : Int) +
 IntKind.u8.wrap
 ((ptK k perm x_1).getD
 (↑x : Int).toNat
 (0 : Int)))) =
 fsK k perm x' ∧
 (ibK k perm x).set
 ((↑x : Int) /
 (2 : Int)).toNat
 (perm.getD
 (↑x : Int).toNat
 (0 : Int) /
 (2 : Int)) =
 ibK k perm x' ∧
 iaK k perm x = iaK k perm x' ∧
 (True ∧ True ∧ True) ∧
 True) ∧
 (↑x : Int) + (1 : Int) = (↑x' : Int) ∧
 (↑perm.length : Int) =
 (↑perm.length : Int) ∧
 perm = perm ∧
 True ∧
 True ∧
 True ∧
 True ∧
 k = k ∧
 perm = perm ∧ True)) ∧
 (¬(↑x : Int) % (2 : Int) = (0 : Int) →
 ¬(↑x : Int) % (2 : Int) = (0 : Int) ∧
 ((0 : Int) ≤ perm.getD (↑x : Int).toNat (0 : Int) ∧
 (0 : Int) < (2 : Int)) ∧
 (perm.getD (↑x : Int).toNat (0 : Int) % (2 : Int) = (0 : Int) →
 perm.getD (↑x : Int).toNat (0 : Int) % (2 : Int) = (0 : Int) ∧
 ((0 : Int) ≤ perm.getD (↑x : Int).toNat (0 : Int) ∧
 (0 : Int) < (2 : Int)) ∧
 Fits IntKind.i64
 (perm.getD (↑x : Int).toNat (0 : Int) / (2 : Int)) ∧
 ((0 : Int) ≤ (↑x : Int) ∧
 (↑x : Int) < (↑(ptK k perm x_1).length : Int)) ∧
 ((0 : Int) ≤
 perm.getD (↑x : Int).toNat (0 : Int) /
 (2 : Int) ∧
 perm.getD (↑x : Int).toNat (0 : Int) / (2 : Int) <
 (↑(lsK k perm x).length : Int)) ∧
 Fits IntKind.i64 ((↑x : Int) + (1 : Int)) ∧
 ∃ (x' : Nat),
 x' ≤ nK k ∧
 nK k - x' < nK k - x ∧
 (True ∧
 ptK k perm x_1 = ptK k perm x_1 ∧
 True ∧
 (lsK k perm x).set
 (perm.getD (↑x : Int).toNat
 (0 : Int) /
 (2 : Int)).toNat
 (IntKind.u8.wrap
 ((48 : Int) +
 IntKind.u8.wrap
 ((ptK k perm x_1).getD
 (↑x : Int).toNat
 (0 : Int)))) =
 lsK k perm x' ∧
 fsK k perm x = fsK k perm x' ∧
 (ibK k perm x).set
 ((↑x : Int) /
 (2 : Int)).toNat
 (perm.getD
 (↑x : Int).toNat
 (0 : Int) /
 (2 : Int)) =
 ibK k perm x' ∧
 iaK k perm x = iaK k perm x' ∧
 (True ∧ True ∧ True) ∧
 True) ∧
 (↑x : Int) + (1 : Int) = (↑x' : Int) ∧
 (↑perm.length : Int) =
 (↑perm.length : Int) ∧
 perm = perm ∧
 True ∧
 True ∧
 True ∧
 True ∧
 k = k ∧
 perm = perm ∧ True) ∧
 (¬perm.getD (↑x : Int).toNat (0 : Int) % (2 : Int) = (0 : Int) →
 ¬perm.getD (↑x : Int).toNat (0 : Int) % (2 : Int) =
 (0 : Int) ∧
 Fits IntKind.i64 ((↑x : Int) + (1 : Int)) ∧
 ∃ (x' : Nat),
 x' ≤ nK k ∧
 nK k - x' < nK k - x ∧
 (True ∧
 ptK k perm x_1 = ptK k perm x_1 ∧
 True ∧
 lsK k perm x = lsK k perm x' ∧
 fsK k perm x = fsK k perm x' ∧
 (ibK k perm x).set
 ((↑x : Int) / (2 : Int)).toNat
 (perm.getD (↑x : Int).toNat
 (0 : Int) /
 (2 : Int)) =
 ibK k perm x' ∧
 iaK k perm x = iaK k perm x' ∧
 (True ∧ True ∧ True) ∧ True) ∧
 (↑x : Int) + (1 : Int) = (↑x' : Int) ∧
 (↑perm.length : Int) = (↑perm.length : Int) ∧
 perm = perm ∧
 True ∧
 True ∧
 True ∧
 True ∧
 k = k ∧ perm = perm ∧ True)))) ∧
 (¬(↑x : Int) < (↑perm.length : Int) →
 ¬(↑x : Int) < (↑perm.length : Int) ∧
 ((1 : Int) ≤ k ∧ k ≤ (3 : Int)) ∧
 ((0 : Int) ≤ switchesF k ∧ switchesF k ≤ switchesF k ∧ Small (switchesF k).toNat) ∧
 ((0 : Int) ≤
 (↑(min ((List.replicate (switchesF k).toNat (0 : Int)).length - (0 : Nat))
 (fsK k perm x).length) :
 Int) ∧
 (↑(min ((List.replicate (switchesF k).toNat (0 : Int)).length - (0 : Nat))
 (fsK k perm x).length) :
 Int) ≤
 (↑(layF (List.replicate (switchesF k).toNat (0 : Int)) (0 : Nat)
 (List.take ((List.replicate (switchesF k).toNat (0 : Int)).length - (0 : Nat))
 (fsK k perm x))).length :
 Int)) ∧
 (∃ (x0 : Nat),
 x0 ≤ (2 : Nat) ∧
 (True ∧
 True ∧
 True ∧
 lsK k perm x = lsK k perm x ∧
 fsK k perm x = fsK k perm x ∧
 True ∧
 True ∧
 True ∧
 layF (List.replicate (switchesF k).toNat (0 : Int)) (0 : Nat)
 (List.take
 ((List.replicate (switchesF k).toNat (0 : Int)).length -
 (0 : Nat))
 (fsK k perm x)) =
 otK k perm x0 ∧
 True) ∧
 (0 : Int) = (↑x0 : Int) ∧
 ((↑(min ((List.replicate (switchesF k).toNat (0 : Int)).length - (0 : Nat))
 (fsK k perm x).length) :
 Int).toNat =
 plK k x0 ∧
 (layF (List.replicate (switchesF k).toNat (0 : Int)) (0 : Nat)
 (List.take
 ((List.replicate (switchesF k).toNat (0 : Int)).length - (0 : Nat))
 (fsK k perm x))).length =
 (otK k perm x0).length) ∧
 (iaK k perm x = iaK k perm (nK k) ∧ ibK k perm x = ibK k perm (nK k) ∧ True) ∧
 True ∧ True ∧ k = k ∧ True) ∧
 ∀ (x_2 : Nat),
 x_2 ≤ (2 : Nat) →
 ((↑x_2 : Int) < (2 : Int) →
 (↑x_2 : Int) < (2 : Int) ∧
 ((0 : Int) ≤ (↑x_2 : Int) ∧ (↑x_2 : Int) < (↑(2 : Nat) : Int)) ∧
 (True ∧
 ((↑x_2 : Int) = (↑(0 : Nat) : Int) →
 Fits IntKind.i64 (k - (1 : Int)) ∧
 ((((1 : Int) ≤ k - (1 : Int) ∧ k - (1 : Int) ≤ (3 : Int)) ∧
 (↑(iaK k perm (nK k)).length : Int) =
 (↑((2 : Nat) ^ (k - (1 : Int)).toNat) : Int) ∧
 (∀ (x : Int),
 x ∈ iaK k perm (nK k) →
 (0 : Int) ≤ x ∧
 x < (↑((2 : Nat) ^ (k - (1 : Int)).toNat) : Int)) ∧
 (iaK k perm (nK k)).Nodup) ∧
 m68 (k - (1 : Int), iaK k perm (nK k)) < m68 (k, perm)) ∧
 ((0 : Int) ≤
 (↑(min ((otK k perm x_2).length - plK k x_2)
 (setF (k - (1 : Int)).toNat
 (iaK k perm (nK k))).length) :
 Int) ∧
 (↑(plK k x_2) : Int) +
 (↑(min ((otK k perm x_2).length - plK k x_2)
 (setF (k - (1 : Int)).toNat
 (iaK k perm (nK k))).length) :
 Int) ≤
 (↑(layF (otK k perm x_2) (plK k x_2)
 (List.take ((otK k perm x_2).length - plK k x_2)
 (setF (k - (1 : Int)).toNat
 (iaK k perm (nK k))))).length :
 Int)) ∧
 Fits IntKind.i64 ((↑x_2 : Int) + (1 : Int)) ∧
 ∃ (x' : Nat),
 x' ≤ (2 : Nat) ∧
 (2 : Nat) - x' < (2 : Nat) - x_2 ∧
 (True ∧
 True ∧
 True ∧
 lsK k perm x = lsK k perm x ∧
 fsK k perm x = fsK k perm x ∧
 True ∧
 True ∧
 True ∧
 layF (otK k perm x_2) (plK k x_2)
 (List.take
 ((otK k perm x_2).length -
 plK k x_2)
 (setF (k - (1 : Int)).toNat
 (iaK k perm (nK k)))) =
 otK k perm x' ∧
 True) ∧
 (↑x_2 : Int) + (1 : Int) = (↑x' : Int) ∧
 (plK k x_2 +
 (↑(min ((otK k perm x_2).length - plK k x_2)
 (setF (k - (1 : Int)).toNat
 (iaK k perm (nK k))).length) :
 Int).toNat =
 plK k x' ∧
 (layF (otK k perm x_2) (plK k x_2)
 (List.take
 ((otK k perm x_2).length - plK k x_2)
 (setF (k - (1 : Int)).toNat
 (iaK k perm (nK k))))).length =
 (otK k perm x').length) ∧
 (iaK k perm (nK k) = iaK k perm (nK k) ∧
 ibK k perm (nK k) = ibK k perm (nK k) ∧
 True) ∧
 True ∧ True ∧ k = k ∧ True)) ∧
 ((↑x_2 : Int) = (↑(1 : Nat) : Int) →
 Fits IntKind.i64 (k - (1 : Int)) ∧
 ((((1 : Int) ≤ k - (1 : Int) ∧ k - (1 : Int) ≤ (3 : Int)) ∧
 (↑(ibK k perm (nK k)).length : Int) =
 (↑((2 : Nat) ^ (k - (1 : Int)).toNat) : Int) ∧
 (∀ (x : Int),
 x ∈ ibK k perm (nK k) →
 (0 : Int) ≤ x ∧
 x < (↑((2 : Nat) ^ (k - (1 : Int)).toNat) : Int)) ∧
 (ibK k perm (nK k)).Nodup) ∧
 m68 (k - (1 : Int), ibK k perm (nK k)) < m68 (k, perm)) ∧
 ((0 : Int) ≤
 (↑(min ((otK k perm x_2).length - plK k x_2)
 (setF (k - (1 : Int)).toNat
 (ibK k perm (nK k))).length) :
 Int) ∧
 (↑(plK k x_2) : Int) +
 (↑(min ((otK k perm x_2).length - plK k x_2)
 (setF (k - (1 : Int)).toNat
 (ibK k perm (nK k))).length) :
 Int) ≤
 (↑(layF (otK k perm x_2) (plK k x_2)
 (List.take ((otK k perm x_2).length - plK k x_2)
 (setF (k - (1 : Int)).toNat
 (ibK k perm (nK k))))).length :
 Int)) ∧
 Fits IntKind.i64 ((↑x_2 : Int) + (1 : Int)) ∧
 ∃ (x' : Nat),
 x' ≤ (2 : Nat) ∧
 (2 : Nat) - x' < (2 : Nat) - x_2 ∧
 (True ∧
 True ∧
 True ∧
 lsK k perm x = lsK k perm x ∧
 fsK k perm x = fsK k perm x ∧
 True ∧
 True ∧
 True ∧
 layF (otK k perm x_2) (plK k x_2)
 (List.take
 ((otK k perm x_2).length -
 plK k x_2)
 (setF (k - (1 : Int)).toNat
 (ibK k perm (nK k)))) =
 otK k perm x' ∧
 True) ∧
 (↑x_2 : Int) + (1 : Int) = (↑x' : Int) ∧
 (plK k x_2 +
 (↑(min ((otK k perm x_2).length - plK k x_2)
 (setF (k - (1 : Int)).toNat
 (ibK k perm (nK k))).length) :
 Int).toNat =
 plK k x' ∧
 (layF (otK k perm x_2) (plK k x_2)
 (List.take
 ((otK k perm x_2).length - plK k x_2)
 (setF (k - (1 : Int)).toNat
 (ibK k perm (nK k))))).length =
 (otK k perm x').length) ∧
 (iaK k perm (nK k) = iaK k perm (nK k) ∧
 ibK k perm (nK k) = ibK k perm (nK k) ∧ True) ∧
 True ∧ True ∧ k = k ∧ True)) ∧
 (¬(↑x_2 : Int) < (2 : Int) →
 ¬(↑x_2 : Int) < (2 : Int) ∧
 layF (otK k perm x_2) (plK k x_2)
 (List.take ((otK k perm x_2).length - plK k x_2) (lsK k perm x)) =
 setF k.toNat perm))) ∧
 ((0 : Int) ≤ (1 : Int) * (2 : Int) ^ k.toNat / (2 : Int) ∧
 (1 : Int) * (2 : Int) ^ k.toNat / (2 : Int) ≤ (1 : Int) * (2 : Int) ^ k.toNat / (2 : Int) ∧
 Small ((1 : Int) * (2 : Int) ^ k.toNat / (2 : Int)).toNat) ∧
 (∃ (x0 : Nat),
 x0 ≤ nK k ∧
 (True ∧
 ptK k perm x_1 = ptK k perm x_1 ∧
 True ∧
 List.replicate ((1 : Int) * (2 : Int) ^ k.toNat / (2 : Int)).toNat (0 : Int) = lsK k perm x0 ∧
 List.replicate ((1 : Int) * (2 : Int) ^ k.toNat / (2 : Int)).toNat (0 : Int) =
 fsK k perm x0 ∧
 List.replicate ((1 : Int) * (2 : Int) ^ k.toNat / (2 : Int)).toNat (0 : Int) =
 ibK k perm x0 ∧
 (True ∧ True ∧ True) ∧
 List.replicate ((1 : Int) * (2 : Int) ^ k.toNat / (2 : Int)).toNat (0 : Int) =
 iaK k perm x0 ∧
 True) ∧
 (0 : Int) = (↑x0 : Int) ∧
 (↑perm.length : Int) = (↑perm.length : Int) ∧
 perm = perm ∧ True ∧ True ∧ True ∧ True ∧ k = k ∧ perm = perm ∧ True) ∧
 ∀ (x : Nat),
 x ≤ nK k →
 ((↑x : Int) < (↑perm.length : Int) →
 (↑x : Int) < (↑perm.length : Int) ∧
 ((0 : Int) ≤ (↑x : Int) ∧ (↑x : Int) < (↑perm.length : Int)) ∧
 ((0 : Int) ≤ (↑x : Int) ∧ (↑x : Int) < (↑(ptK k perm x_1).length : Int)) ∧
 ((0 : Int) ≤ (ptK k perm x_1).getD (↑x : Int).toNat (0 : Int) ∧
 (ptK k perm x_1).getD (↑x : Int).toNat (0 : Int) < (↑(2 : Nat) : Int)) ∧
 (True ∧
 ((ptK k perm x_1).getD (↑x : Int).toNat (0 : Int) = (↑(0 : Nat) : Int) →
 ((0 : Int) ≤ (↑x : Int) ∧ (0 : Int) < (2 : Int)) ∧
 Fits IntKind.i64 ((↑x : Int) / (2 : Int)) ∧
 ((0 : Int) ≤ perm.getD (↑x : Int).toNat (0 : Int) ∧ (0 : Int) < (2 : Int)) ∧
 Fits IntKind.i64 (perm.getD (↑x : Int).toNat (0 : Int) / (2 : Int)) ∧
 ((0 : Int) ≤ (↑x : Int) / (2 : Int) ∧
 (↑x : Int) / (2 : Int) < (↑(iaK k perm x).length : Int)) ∧
 ((0 : Int) ≤ (↑x : Int) ∧ (0 : Int) < (2 : Int)) ∧
 ((↑x : Int) % (2 : Int) = (0 : Int) →
 (↑x : Int) % (2 : Int) = (0 : Int) ∧
 ((0 : Int) ≤ (↑x : Int) ∧ (0 : Int) < (2 : Int)) ∧
 Fits IntKind.i64 ((↑x : Int) / (2 : Int)) ∧
 ((0 : Int) ≤ (↑x : Int) ∧
 (↑x : Int) < (↑(ptK k perm x_1).length : Int)) ∧
 ((0 : Int) ≤ (↑x : Int) / (2 : Int) ∧
 (↑x : Int) / (2 : Int) <
 (↑(fsK k perm x).length : Int)) ∧
 ((0 : Int) ≤ perm.getD (↑x : Int).toNat (0 : Int) ∧
 (0 : Int) < (2 : Int)) ∧
 (perm.getD (↑x : Int).toNat (0 : Int) % (2 : Int) =
 (0 : Int) →
 perm.getD (↑x : Int).toNat (0 : Int) % (2 : Int) =
 (0 : Int) ∧
 ((0 : Int) ≤
 perm.getD (↑x : Int).toNat (0 : Int) ∧
 (0 : Int) < (2 : Int)) ∧
 Fits IntKind.i64
 (perm.getD (↑x : Int).toNat (0 : Int) /
 (2 : Int)) ∧
 ((0 : Int) ≤ (↑x : Int) ∧
 (↑x : Int) <
 (↑(ptK k perm x_1).length : Int)) ∧
 ((0 : Int) ≤
 perm.getD (↑x : Int).toNat (0 : Int) /
 (2 : Int) ∧
 perm.getD (↑x : Int).toNat (0 : Int) /
 (2 : Int) <
 (↑(lsK k perm x).length : Int)) ∧
 Fits IntKind.i64
 ((↑x : Int) + (1 : Int)) ∧
 ∃ (x' : Nat),
 x' ≤ nK k ∧
 nK k - x' < nK k - x ∧
 (True ∧
 ptK k perm x_1 =
 ptK k perm x_1 ∧
 True ∧
 (lsK k perm x).set
 (perm.getD
 (↑x :
 Int).toNat
 (0 : Int) /
 (2 : Int)).toNat
 (IntKind.u8.wrap
 ((48 : Int) +
 IntKind.u8.wrap
 ((ptK k perm
 x_1).getD
 (↑x :
 Int).toNat
 (0 :
 Int)))) =
 lsK k perm x' ∧
 (fsK k perm x).set
 ((↑x : Int) /
 (2 :
 Int)).toNat
 (IntKind.u8.wrap
 ((48 : Int) +
 IntKind.u8.wrap
 ((ptK k perm
 x_1).getD
 (↑x :
 Int).toNat
 (0 :
 Int)))) =
 fsK k perm x' ∧
 ibK k perm x =
 ibK k perm x' ∧
 (True ∧
 True ∧ True) ∧
 (iaK k perm x).set
 ((↑x :
 Int) /
 (2 :
 Int)).toNat
 (perm.getD
 (↑x :
 Int).toNat
 (0 :
 Int) /
 (2 :
 Int)) =
 iaK k perm
 x' ∧
 True) ∧
 (↑x : Int) + (1 : Int) =
 (↑x' : Int) ∧
 (↑perm.length : Int) =
 (↑perm.length : Int) ∧
 perm = perm ∧
 True ∧
 True ∧
 True ∧
 True ∧
 k = k ∧
 perm = perm ∧
 True) ∧
 (¬perm.getD (↑x : Int).toNat (0 : Int) % (2 : Int) =
 (0 : Int) →
 ¬perm.getD (↑x : Int).toNat (0 : Int) % (2 : Int) =
 (0 : Int) ∧
 Fits IntKind.i64 ((↑x : Int) + (1 : Int)) ∧
 ∃ (x' : Nat),
 x' ≤ nK k ∧
 nK k - x' < nK k - x ∧
 (True ∧
 ptK k perm x_1 = ptK k perm x_1 ∧
 True ∧
 lsK k perm x = lsK k perm x' ∧
 (fsK k perm x).set
 ((↑x : Int) /
 (2 : Int)).toNat
 (IntKind.u8.wrap
 ((48 : Int) +
 IntKind.u8.wrap
 ((ptK k perm
 x_1).getD
 (↑x : Int).toNat
 (0 : Int)))) =
 fsK k perm x' ∧
 ibK k perm x = ibK k perm x' ∧
 (True ∧ True ∧ True) ∧
 (iaK k perm x).set
 ((↑x : Int) /
 (2 : Int)).toNat
 (perm.getD
 (↑x : Int).toNat
 (0 : Int) /
 (2 : Int)) =
 iaK k perm x' ∧
 True) ∧
 (↑x : Int) + (1 : Int) = (↑x' : Int) ∧
 (↑perm.length : Int) =
 (↑perm.length : Int) ∧
 perm = perm ∧
 True ∧
 True ∧
 True ∧
 True ∧
 k = k ∧
 perm = perm ∧ True)) ∧
 (¬(↑x : Int) % (2 : Int) = (0 : Int) →
 ¬(↑x : Int) % (2 : Int) = (0 : Int) ∧
 ((0 : Int) ≤ perm.getD (↑x : Int).toNat (0 : Int) ∧
 (0 : Int) < (2 : Int)) ∧
 (perm.getD (↑x : Int).toNat (0 : Int) % (2 : Int) = (0 : Int) →
 perm.getD (↑x : Int).toNat (0 : Int) % (2 : Int) =
 (0 : Int) ∧
 ((0 : Int) ≤ perm.getD (↑x : Int).toNat (0 : Int) ∧
 (0 : Int) < (2 : Int)) ∧
 Fits IntKind.i64
 (perm.getD (↑x : Int).toNat (0 : Int) / (2 : Int)) ∧
 ((0 : Int) ≤ (↑x : Int) ∧
 (↑x : Int) < (↑(ptK k perm x_1).length : Int)) ∧
 ((0 : Int) ≤
 perm.getD (↑x : Int).toNat (0 : Int) /
 (2 : Int) ∧
 perm.getD (↑x : Int).toNat (0 : Int) /
 (2 : Int) <
 (↑(lsK k perm x).length : Int)) ∧
 Fits IntKind.i64 ((↑x : Int) + (1 : Int)) ∧
 ∃ (x' : Nat),
 x' ≤ nK k ∧
 nK k - x' < nK k - x ∧
 (True ∧
 ptK k perm x_1 = ptK k perm x_1 ∧
 True ∧
 (lsK k perm x).set
 (perm.getD (↑x : Int).toNat
 (0 : Int) /
 (2 : Int)).toNat
 (IntKind.u8.wrap
 ((48 : Int) +
 IntKind.u8.wrap
 ((ptK k perm x_1).getD
 (↑x : Int).toNat
 (0 : Int)))) =
 lsK k perm x' ∧
 fsK k perm x = fsK k perm x' ∧
 ibK k perm x = ibK k perm x' ∧
 (True ∧ True ∧ True) ∧
 (iaK k perm x).set
 ((↑x : Int) /
 (2 : Int)).toNat
 (perm.getD
 (↑x : Int).toNat
 (0 : Int) /
 (2 : Int)) =
 iaK k perm x' ∧
 True) ∧
 (↑x : Int) + (1 : Int) = (↑x' : Int) ∧
 (↑perm.length : Int) =
 (↑perm.length : Int) ∧
 perm = perm ∧
 True ∧
 True ∧
 True ∧
 True ∧
 k = k ∧
 perm = perm ∧ True) ∧
 (¬perm.getD (↑x : Int).toNat (0 : Int) % (2 : Int) =
 (0 : Int) →
 ¬perm.getD (↑x : Int).toNat (0 : Int) % (2 : Int) =
 (0 : Int) ∧
 Fits IntKind.i64 ((↑x : Int) + (1 : Int)) ∧
 ∃ (x' : Nat),
 x' ≤ nK k ∧
 nK k - x' < nK k - x ∧
 (True ∧
 ptK k perm x_1 = ptK k perm x_1 ∧
 True ∧
 lsK k perm x = lsK k perm x' ∧
 fsK k perm x = fsK k perm x' ∧
 ibK k perm x = ibK k perm x' ∧
 (True ∧ True ∧ True) ∧
 (iaK k perm x).set
 ((↑x : Int) /
 (2 : Int)).toNat
 (perm.getD (↑x : Int).toNat
 (0 : Int) /
 (2 : Int)) =
 iaK k perm x' ∧
 True) ∧
 (↑x : Int) + (1 : Int) = (↑x' : Int) ∧
 (↑perm.length : Int) = (↑perm.length : Int) ∧
 perm = perm ∧
 True ∧
 True ∧
 True ∧
 True ∧
 k = k ∧ perm = perm ∧ True)))) ∧
 ((ptK k perm x_1).getD (↑x : Int).toNat (0 : Int) = (↑(1 : Nat) : Int) →
 ((0 : Int) ≤ (↑x : Int) ∧ (0 : Int) < (2 : Int)) ∧
 Fits IntKind.i64 ((↑x : Int) / (2 : Int)) ∧
 ((0 : Int) ≤ perm.getD (↑x : Int).toNat (0 : Int) ∧ (0 : Int) < (2 : Int)) ∧
 Fits IntKind.i64 (perm.getD (↑x : Int).toNat (0 : Int) / (2 : Int)) ∧
 ((0 : Int) ≤ (↑x : Int) / (2 : Int) ∧
 (↑x : Int) / (2 : Int) < (↑(ibK k perm x).length : Int)) ∧
 ((0 : Int) ≤ (↑x : Int) ∧ (0 : Int) < (2 : Int)) ∧
 ((↑x : Int) % (2 : Int) = (0 : Int) →
 (↑x : Int) % (2 : Int) = (0 : Int) ∧
 ((0 : Int) ≤ (↑x : Int) ∧ (0 : Int) < (2 : Int)) ∧
 Fits IntKind.i64 ((↑x : Int) / (2 : Int)) ∧
 ((0 : Int) ≤ (↑x : Int) ∧
 (↑x : Int) < (↑(ptK k perm x_1).length : Int)) ∧
 ((0 : Int) ≤ (↑x : Int) / (2 : Int) ∧
 (↑x : Int) / (2 : Int) < (↑(fsK k perm x).length : Int)) ∧
 ((0 : Int) ≤ perm.getD (↑x : Int).toNat (0 : Int) ∧
 (0 : Int) < (2 : Int)) ∧
 (perm.getD (↑x : Int).toNat (0 : Int) % (2 : Int) =
 (0 : Int) →
 perm.getD (↑x : Int).toNat (0 : Int) % (2 : Int) =
 (0 : Int) ∧
 ((0 : Int) ≤ perm.getD (↑x : Int).toNat (0 : Int) ∧
 (0 : Int) < (2 : Int)) ∧
 Fits IntKind.i64
 (perm.getD (↑x : Int).toNat (0 : Int) /
 (2 : Int)) ∧
 ((0 : Int) ≤ (↑x : Int) ∧
 (↑x : Int) <
 (↑(ptK k perm x_1).length : Int)) ∧
 ((0 : Int) ≤
 perm.getD (↑x : Int).toNat (0 : Int) /
 (2 : Int) ∧
 perm.getD (↑x : Int).toNat (0 : Int) /
 (2 : Int) <
 (↑(lsK k perm x).length : Int)) ∧
 Fits IntKind.i64 ((↑x : Int) + (1 : Int)) ∧
 ∃ (x' : Nat),
 x' ≤ nK k ∧
 nK k - x' < nK k - x ∧
 (True ∧
 ptK k perm x_1 =
 ptK k perm x_1 ∧
 True ∧
 (lsK k perm x).set
 (perm.getD
 (↑x : Int).toNat
 (0 : Int) /
 (2 : Int)).toNat
 (IntKind.u8.wrap
 ((48 : Int) +
 IntKind.u8.wrap
 ((ptK k perm
 x_1).getD
 (↑x :
 Int).toNat
 (0 : Int)))) =
 lsK k perm x' ∧
 (fsK k perm x).set
 ((↑x : Int) /
 (2 : Int)).toNat
 (IntKind.u8.wrap
 ((48 : Int) +
 IntKind.u8.wrap
 ((ptK k perm
 x_1).getD
 (↑x :
 Int).toNat
 (0 :
 Int)))) =
 fsK k perm x' ∧
 (ibK k perm x).set
 ((↑x : Int) /
 (2 :
 Int)).toNat
 (perm.getD
 (↑x :
 Int).toNat
 (0 : Int) /
 (2 : Int)) =
 ibK k perm x' ∧
 (True ∧ True ∧ True) ∧
 iaK k perm x =
 iaK k perm x' ∧
 True) ∧
 (↑x : Int) + (1 : Int) =
 (↑x' : Int) ∧
 (↑perm.length : Int) =
 (↑perm.length : Int) ∧
 perm = perm ∧
 True ∧
 True ∧
 True ∧
 True ∧
 k = k ∧
 perm = perm ∧
 True) ∧
 (¬perm.getD (↑x : Int).toNat (0 : Int) % (2 : Int) =
 (0 : Int) →
 ¬perm.getD (↑x : Int).toNat (0 : Int) % (2 : Int) =
 (0 : Int) ∧
 Fits IntKind.i64 ((↑x : Int) + (1 : Int)) ∧
 ∃ (x' : Nat),
 x' ≤ nK k ∧
 nK k - x' < nK k - x ∧
 (True ∧
 ptK k perm x_1 = ptK k perm x_1 ∧
 True ∧
 lsK k perm x = lsK k perm x' ∧
 (fsK k perm x).set
 ((↑x : Int) /
 (2 : Int)).toNat
 (IntKind.u8.wrap
 ((48 : Int) +
 IntKind.u8.wrap
 ((ptK k perm x_1).getD
 (↑x : Int).toNat
 (0 : Int)))) =
 fsK k perm x' ∧
 (ibK k perm x).set
 ((↑x : Int) /
 (2 : Int)).toNat
 (perm.getD
 (↑x : Int).toNat
 (0 : Int) /
 (2 : Int)) =
 ibK k perm x' ∧
 (True ∧ True ∧ True) ∧
 iaK k perm x =
 iaK k perm x' ∧
 True) ∧
 (↑x : Int) + (1 : Int) = (↑x' : Int) ∧
 (↑perm.length : Int) =
 (↑perm.length : Int) ∧
 perm = perm ∧
 True ∧
 True ∧
 True ∧
 True ∧
 k = k ∧
 perm = perm ∧ True)) ∧
 (¬(↑x : Int) % (2 : Int) = (0 : Int) →
 ¬(↑x : Int) % (2 : Int) = (0 : Int) ∧
 ((0 : Int) ≤ perm.getD (↑x : Int).toNat (0 : Int) ∧
 (0 : Int) < (2 : Int)) ∧
 (perm.getD (↑x : Int).toNat (0 : Int) % (2 : Int) = (0 : Int) →
 perm.getD (↑x : Int).toNat (0 : Int) % (2 : Int) = (0 : Int) ∧
 ((0 : Int) ≤ perm.getD (↑x : Int).toNat (0 : Int) ∧
 (0 : Int) < (2 : Int)) ∧
 Fits IntKind.i64
 (perm.getD (↑x : Int).toNat (0 : Int) / (2 : Int)) ∧
 ((0 : Int) ≤ (↑x : Int) ∧
 (↑x : Int) < (↑(ptK k perm x_1).length : Int)) ∧
 ((0 : Int) ≤
 perm.getD (↑x : Int).toNat (0 : Int) /
 (2 : Int) ∧
 perm.getD (↑x : Int).toNat (0 : Int) / (2 : Int) <
 (↑(lsK k perm x).length : Int)) ∧
 Fits IntKind.i64 ((↑x : Int) + (1 : Int)) ∧
 ∃ (x' : Nat),
 x' ≤ nK k ∧
 nK k - x' < nK k - x ∧
 (True ∧
 ptK k perm x_1 = ptK k perm x_1 ∧
 True ∧
 (lsK k perm x).set
 (perm.getD (↑x : Int).toNat
 (0 : Int) /
 (2 : Int)).toNat
 (IntKind.u8.wrap
 ((48 : Int) +
 IntKind.u8.wrap
 ((ptK k perm x_1).getD
 (↑x : Int).toNat
 (0 : Int)))) =
 lsK k perm x' ∧
 fsK k perm x = fsK k perm x' ∧
 (ibK k perm x).set
 ((↑x : Int) /
 (2 : Int)).toNat
 (perm.getD
 (↑x : Int).toNat
 (0 : Int) /
 (2 : Int)) =
 ibK k perm x' ∧
 (True ∧ True ∧ True) ∧
 iaK k perm x =
 iaK k perm x' ∧
 True) ∧
 (↑x : Int) + (1 : Int) = (↑x' : Int) ∧
 (↑perm.length : Int) =
 (↑perm.length : Int) ∧
 perm = perm ∧
 True ∧
 True ∧
 True ∧
 True ∧
 k = k ∧
 perm = perm ∧ True) ∧
 (¬perm.getD (↑x : Int).toNat (0 : Int) % (2 : Int) = (0 : Int) →
 ¬perm.getD (↑x : Int).toNat (0 : Int) % (2 : Int) =
 (0 : Int) ∧
 Fits IntKind.i64 ((↑x : Int) + (1 : Int)) ∧
 ∃ (x' : Nat),
 x' ≤ nK k ∧
 nK k - x' < nK k - x ∧
 (True ∧
 ptK k perm x_1 = ptK k perm x_1 ∧
 True ∧
 lsK k perm x = lsK k perm x' ∧
 fsK k perm x = fsK k perm x' ∧
 (ibK k perm x).set
 ((↑x : Int) / (2 : Int)).toNat
 (perm.getD (↑x : Int).toNat
 (0 : Int) /
 (2 : Int)) =
 ibK k perm x' ∧
 (True ∧ True ∧ True) ∧
 iaK k perm x = iaK k perm x' ∧
 True) ∧
 (↑x : Int) + (1 : Int) = (↑x' : Int) ∧
 (↑perm.length : Int) = (↑perm.length : Int) ∧
 perm = perm ∧
 True ∧
 True ∧
 True ∧
 True ∧
 k = k ∧ perm = perm ∧ True)))) ∧
 (¬(↑x : Int) < (↑perm.length : Int) →
 ¬(↑x : Int) < (↑perm.length : Int) ∧
 ((1 : Int) ≤ k ∧ k ≤ (3 : Int)) ∧
 ((0 : Int) ≤ switchesF k ∧ switchesF k ≤ switchesF k ∧ Small (switchesF k).toNat) ∧
 ((0 : Int) ≤
 (↑(min ((List.replicate (switchesF k).toNat (0 : Int)).length - (0 : Nat))
 (fsK k perm x).length) :
 Int) ∧
 (↑(min ((List.replicate (switchesF k).toNat (0 : Int)).length - (0 : Nat))
 (fsK k perm x).length) :
 Int) ≤
 (↑(layF (List.replicate (switchesF k).toNat (0 : Int)) (0 : Nat)
 (List.take ((List.replicate (switchesF k).toNat (0 : Int)).length - (0 : Nat))
 (fsK k perm x))).length :
 Int)) ∧
 (∃ (x0 : Nat),
 x0 ≤ (2 : Nat) ∧
 (True ∧
 True ∧
 True ∧
 lsK k perm x = lsK k perm x ∧
 fsK k perm x = fsK k perm x ∧
 True ∧
 True ∧
 True ∧
 layF (List.replicate (switchesF k).toNat (0 : Int)) (0 : Nat)
 (List.take
 ((List.replicate (switchesF k).toNat (0 : Int)).length -
 (0 : Nat))
 (fsK k perm x)) =
 otK k perm x0 ∧
 True) ∧
 (0 : Int) = (↑x0 : Int) ∧
 ((↑(min ((List.replicate (switchesF k).toNat (0 : Int)).length - (0 : Nat))
 (fsK k perm x).length) :
 Int).toNat =
 plK k x0 ∧
 (layF (List.replicate (switchesF k).toNat (0 : Int)) (0 : Nat)
 (List.take
 ((List.replicate (switchesF k).toNat (0 : Int)).length - (0 : Nat))
 (fsK k perm x))).length =
 (otK k perm x0).length) ∧
 (iaK k perm x = iaK k perm (nK k) ∧ ibK k perm x = ibK k perm (nK k) ∧ True) ∧
 True ∧ True ∧ k = k ∧ True) ∧
 ∀ (x_2 : Nat),
 x_2 ≤ (2 : Nat) →
 ((↑x_2 : Int) < (2 : Int) →
 (↑x_2 : Int) < (2 : Int) ∧
 ((0 : Int) ≤ (↑x_2 : Int) ∧ (↑x_2 : Int) < (↑(2 : Nat) : Int)) ∧
 (True ∧
 ((↑x_2 : Int) = (↑(0 : Nat) : Int) →
 Fits IntKind.i64 (k - (1 : Int)) ∧
 ((((1 : Int) ≤ k - (1 : Int) ∧ k - (1 : Int) ≤ (3 : Int)) ∧
 (↑(iaK k perm (nK k)).length : Int) =
 (↑((2 : Nat) ^ (k - (1 : Int)).toNat) : Int) ∧
 (∀ (x : Int),
 x ∈ iaK k perm (nK k) →
 (0 : Int) ≤ x ∧
 x < (↑((2 : Nat) ^ (k - (1 : Int)).toNat) : Int)) ∧
 (iaK k perm (nK k)).Nodup) ∧
 m68 (k - (1 : Int), iaK k perm (nK k)) < m68 (k, perm)) ∧
 ((0 : Int) ≤
 (↑(min ((otK k perm x_2).length - plK k x_2)
 (setF (k - (1 : Int)).toNat
 (iaK k perm (nK k))).length) :
 Int) ∧
 (↑(plK k x_2) : Int) +
 (↑(min ((otK k perm x_2).length - plK k x_2)
 (setF (k - (1 : Int)).toNat
 (iaK k perm (nK k))).length) :
 Int) ≤
 (↑(layF (otK k perm x_2) (plK k x_2)
 (List.take ((otK k perm x_2).length - plK k x_2)
 (setF (k - (1 : Int)).toNat
 (iaK k perm (nK k))))).length :
 Int)) ∧
 Fits IntKind.i64 ((↑x_2 : Int) + (1 : Int)) ∧
 ∃ (x' : Nat),
 x' ≤ (2 : Nat) ∧
 (2 : Nat) - x' < (2 : Nat) - x_2 ∧
 (True ∧
 True ∧
 True ∧
 lsK k perm x = lsK k perm x ∧
 fsK k perm x = fsK k perm x ∧
 True ∧
 True ∧
 True ∧
 layF (otK k perm x_2) (plK k x_2)
 (List.take
 ((otK k perm x_2).length -
 plK k x_2)
 (setF (k - (1 : Int)).toNat
 (iaK k perm (nK k)))) =
 otK k perm x' ∧
 True) ∧
 (↑x_2 : Int) + (1 : Int) = (↑x' : Int) ∧
 (plK k x_2 +
 (↑(min ((otK k perm x_2).length - plK k x_2)
 (setF (k - (1 : Int)).toNat
 (iaK k perm (nK k))).length) :
 Int).toNat =
 plK k x' ∧
 (layF (otK k perm x_2) (plK k x_2)
 (List.take
 ((otK k perm x_2).length - plK k x_2)
 (setF (k - (1 : Int)).toNat
 (iaK k perm (nK k))))).length =
 (otK k perm x').length) ∧
 (iaK k perm (nK k) = iaK k perm (nK k) ∧
 ibK k perm (nK k) = ibK k perm (nK k) ∧
 True) ∧
 True ∧ True ∧ k = k ∧ True)) ∧
 ((↑x_2 : Int) = (↑(1 : Nat) : Int) →
 Fits IntKind.i64 (k - (1 : Int)) ∧
 ((((1 : Int) ≤ k - (1 : Int) ∧ k - (1 : Int) ≤ (3 : Int)) ∧
 (↑(ibK k perm (nK k)).length : Int) =
 (↑((2 : Nat) ^ (k - (1 : Int)).toNat) : Int) ∧
 (∀ (x : Int),
 x ∈ ibK k perm (nK k) →
 (0 : Int) ≤ x ∧
 x < (↑((2 : Nat) ^ (k - (1 : Int)).toNat) : Int)) ∧
 (ibK k perm (nK k)).Nodup) ∧
 m68 (k - (1 : Int), ibK k perm (nK k)) < m68 (k, perm)) ∧
 ((0 : Int) ≤
 (↑(min ((otK k perm x_2).length - plK k x_2)
 (setF (k - (1 : Int)).toNat
 (ibK k perm (nK k))).length) :
 Int) ∧
 (↑(plK k x_2) : Int) +
 (↑(min ((otK k perm x_2).length - plK k x_2)
 (setF (k - (1 : Int)).toNat
 (ibK k perm (nK k))).length) :
 Int) ≤
 (↑(layF (otK k perm x_2) (plK k x_2)
 (List.take ((otK k perm x_2).length - plK k x_2)
 (setF (k - (1 : Int)).toNat
 (ibK k perm (nK k))))).length :
 Int)) ∧
 Fits IntKind.i64 ((↑x_2 : Int) + (1 : Int)) ∧
 ∃ (x' : Nat),
 x' ≤ (2 : Nat) ∧
 (2 : Nat) - x' < (2 : Nat) - x_2 ∧
 (True ∧
 True ∧
 True ∧
 lsK k perm x = lsK k perm x ∧
 fsK k perm x = fsK k perm x ∧
 True ∧
 True ∧
 True ∧
 layF (otK k perm x_2) (plK k x_2)
 (List.take
 ((otK k perm x_2).length -
 plK k x_2)
 (setF (k - (1 : Int)).toNat
 (ibK k perm (nK k)))) =
 otK k perm x' ∧
 True) ∧
 (↑x_2 : Int) + (1 : Int) = (↑x' : Int) ∧
 (plK k x_2 +
 (↑(min ((otK k perm x_2).length - plK k x_2)
 (setF (k - (1 : Int)).toNat
 (ibK k perm (nK k))).length) :
 Int).toNat =
 plK k x' ∧
 (layF (otK k perm x_2) (plK k x_2)
 (List.take
 ((otK k perm x_2).length - plK k x_2)
 (setF (k - (1 : Int)).toNat
 (ibK k perm (nK k))))).length =
 (otK k perm x').length) ∧
 (iaK k perm (nK k) = iaK k perm (nK k) ∧
 ibK k perm (nK k) = ibK k perm (nK k) ∧ True) ∧
 True ∧ True ∧ k = k ∧ True)) ∧
 (¬(↑x_2 : Int) < (2 : Int) →
 ¬(↑x_2 : Int) < (2 : Int) ∧
 layF (otK k perm x_2) (plK k x_2)
 (List.take ((otK k perm x_2).length - plK k x_2) (lsK k perm x)) =
 setF k.toNat perm))) ∧
 (((0 : Int) ≤ (1 : Int) * (2 : Int) ^ k.toNat / (2 : Int) ∧
 (1 : Int) * (2 : Int) ^ k.toNat / (2 : Int) ≤ (1 : Int) * (2 : Int) ^ k.toNat / (2 : Int) ∧
 Small ((1 : Int) * (2 : Int) ^ k.toNat / (2 : Int)).toNat) ∧
 ((0 : Int) ≤ (1 : Int) * (2 : Int) ^ k.toNat / (2 : Int) ∧
 (1 : Int) * (2 : Int) ^ k.toNat / (2 : Int) ≤ (1 : Int) * (2 : Int) ^ k.toNat / (2 : Int) ∧
 Small ((1 : Int) * (2 : Int) ^ k.toNat / (2 : Int)).toNat) ∧
 (∃ (x0 : Nat),
 x0 ≤ nK k ∧
 (True ∧
 ptK k perm x_1 = ptK k perm x_1 ∧
 True ∧
 List.replicate ((1 : Int) * (2 : Int) ^ k.toNat / (2 : Int)).toNat (0 : Int) = lsK k perm x0 ∧
 List.replicate ((1 : Int) * (2 : Int) ^ k.toNat / (2 : Int)).toNat (0 : Int) =
 fsK k perm x0 ∧
 (True ∧ True ∧ True) ∧
 List.replicate ((1 : Int) * (2 : Int) ^ k.toNat / (2 : Int)).toNat (0 : Int) =
 iaK k perm x0 ∧
 List.replicate ((1 : Int) * (2 : Int) ^ k.toNat / (2 : Int)).toNat (0 : Int) =
 ibK k perm x0 ∧
 True) ∧
 (0 : Int) = (↑x0 : Int) ∧
 (↑perm.length : Int) = (↑perm.length : Int) ∧
 perm = perm ∧ True ∧ True ∧ True ∧ True ∧ k = k ∧ perm = perm ∧ True) ∧
 ∀ (x : Nat),
 x ≤ nK k →
 ((↑x : Int) < (↑perm.length : Int) →
 (↑x : Int) < (↑perm.length : Int) ∧
 ((0 : Int) ≤ (↑x : Int) ∧ (↑x : Int) < (↑perm.length : Int)) ∧
 ((0 : Int) ≤ (↑x : Int) ∧ (↑x : Int) < (↑(ptK k perm x_1).length : Int)) ∧
 ((0 : Int) ≤ (ptK k perm x_1).getD (↑x : Int).toNat (0 : Int) ∧
 (ptK k perm x_1).getD (↑x : Int).toNat (0 : Int) < (↑(2 : Nat) : Int)) ∧
 (True ∧
 ((ptK k perm x_1).getD (↑x : Int).toNat (0 : Int) = (↑(0 : Nat) : Int) →
 ((0 : Int) ≤ (↑x : Int) ∧ (0 : Int) < (2 : Int)) ∧
 Fits IntKind.i64 ((↑x : Int) / (2 : Int)) ∧
 ((0 : Int) ≤ perm.getD (↑x : Int).toNat (0 : Int) ∧ (0 : Int) < (2 : Int)) ∧
 Fits IntKind.i64 (perm.getD (↑x : Int).toNat (0 : Int) / (2 : Int)) ∧
 ((0 : Int) ≤ (↑x : Int) / (2 : Int) ∧
 (↑x : Int) / (2 : Int) < (↑(iaK k perm x).length : Int)) ∧
 ((0 : Int) ≤ (↑x : Int) ∧ (0 : Int) < (2 : Int)) ∧
 ((↑x : Int) % (2 : Int) = (0 : Int) →
 (↑x : Int) % (2 : Int) = (0 : Int) ∧
 ((0 : Int) ≤ (↑x : Int) ∧ (0 : Int) < (2 : Int)) ∧
 Fits IntKind.i64 ((↑x : Int) / (2 : Int)) ∧
 ((0 : Int) ≤ (↑x : Int) ∧
 (↑x : Int) < (↑(ptK k perm x_1).length : Int)) ∧
 ((0 : Int) ≤ (↑x : Int) / (2 : Int) ∧
 (↑x : Int) / (2 : Int) <
 (↑(fsK k perm x).length : Int)) ∧
 ((0 : Int) ≤ perm.getD (↑x : Int).toNat (0 : Int) ∧
 (0 : Int) < (2 : Int)) ∧
 (perm.getD (↑x : Int).toNat (0 : Int) % (2 : Int) =
 (0 : Int) →
 perm.getD (↑x : Int).toNat (0 : Int) % (2 : Int) =
 (0 : Int) ∧
 ((0 : Int) ≤
 perm.getD (↑x : Int).toNat (0 : Int) ∧
 (0 : Int) < (2 : Int)) ∧
 Fits IntKind.i64
 (perm.getD (↑x : Int).toNat (0 : Int) /
 (2 : Int)) ∧
 ((0 : Int) ≤ (↑x : Int) ∧
 (↑x : Int) <
 (↑(ptK k perm x_1).length : Int)) ∧
 ((0 : Int) ≤
 perm.getD (↑x : Int).toNat (0 : Int) /
 (2 : Int) ∧
 perm.getD (↑x : Int).toNat (0 : Int) /
 (2 : Int) <
 (↑(lsK k perm x).length : Int)) ∧
 Fits IntKind.i64
 ((↑x : Int) + (1 : Int)) ∧
 ∃ (x' : Nat),
 x' ≤ nK k ∧
 nK k - x' < nK k - x ∧
 (True ∧
 ptK k perm x_1 =
 ptK k perm x_1 ∧
 True ∧
 (lsK k perm x).set
 (perm.getD
 (↑x :
 Int).toNat
 (0 : Int) /
 (2 : Int)).toNat
 (IntKind.u8.wrap
 ((48 : Int) +
 IntKind.u8.wrap
 ((ptK k perm
 x_1).getD
 (↑x :
 Int).toNat
 (0 :
 Int)))) =
 lsK k perm x' ∧
 (fsK k perm x).set
 ((↑x : Int) /
 (2 :
 Int)).toNat
 (IntKind.u8.wrap
 ((48 : Int) +
 IntKind.u8.wrap
 ((ptK k perm
 x_1).getD
 (↑x :
 Int).toNat
 (0 :
 Int)))) =
 fsK k perm x' ∧
 (True ∧ True ∧ True) ∧
 (iaK k perm x).set
 ((↑x : Int) /
 (2 :
 Int)).toNat
 (perm.getD
 (↑x :
 Int).toNat
 (0 :
 Int) /
 (2 : Int)) =
 iaK k perm x' ∧
 ibK k perm x =
 ibK k perm
 x' ∧
 True) ∧
 (↑x : Int) + (1 : Int) =
 (↑x' : Int) ∧
 (↑perm.length : Int) =
 (↑perm.length : Int) ∧
 perm = perm ∧
 True ∧
 True ∧
 True ∧
 True ∧
 k = k ∧
 perm = perm ∧
 True) ∧
 (¬perm.getD (↑x : Int).toNat (0 : Int) % (2 : Int) =
 (0 : Int) →
 ¬perm.getD (↑x : Int).toNat (0 : Int) % (2 : Int) =
 (0 : Int) ∧
 Fits IntKind.i64 ((↑x : Int) + (1 : Int)) ∧
 ∃ (x' : Nat),
 x' ≤ nK k ∧
 nK k - x' < nK k - x ∧
 (True ∧
 ptK k perm x_1 = ptK k perm x_1 ∧
 True ∧
 lsK k perm x = lsK k perm x' ∧
 (fsK k perm x).set
 ((↑x : Int) /
 (2 : Int)).toNat
 (IntKind.u8.wrap
 ((48 : Int) +
 IntKind.u8.wrap
 ((ptK k perm
 x_1).getD
 (↑x : Int).toNat
 (0 : Int)))) =
 fsK k perm x' ∧
 (True ∧ True ∧ True) ∧
 (iaK k perm x).set
 ((↑x : Int) /
 (2 : Int)).toNat
 (perm.getD
 (↑x : Int).toNat
 (0 : Int) /
 (2 : Int)) =
 iaK k perm x' ∧
 ibK k perm x =
 ibK k perm x' ∧
 True) ∧
 (↑x : Int) + (1 : Int) = (↑x' : Int) ∧
 (↑perm.length : Int) =
 (↑perm.length : Int) ∧
 perm = perm ∧
 True ∧
 True ∧
 True ∧
 True ∧
 k = k ∧
 perm = perm ∧ True)) ∧
 (¬(↑x : Int) % (2 : Int) = (0 : Int) →
 ¬(↑x : Int) % (2 : Int) = (0 : Int) ∧
 ((0 : Int) ≤ perm.getD (↑x : Int).toNat (0 : Int) ∧
 (0 : Int) < (2 : Int)) ∧
 (perm.getD (↑x : Int).toNat (0 : Int) % (2 : Int) = (0 : Int) →
 perm.getD (↑x : Int).toNat (0 : Int) % (2 : Int) =
 (0 : Int) ∧
 ((0 : Int) ≤ perm.getD (↑x : Int).toNat (0 : Int) ∧
 (0 : Int) < (2 : Int)) ∧
 Fits IntKind.i64
 (perm.getD (↑x : Int).toNat (0 : Int) / (2 : Int)) ∧
 ((0 : Int) ≤ (↑x : Int) ∧
 (↑x : Int) < (↑(ptK k perm x_1).length : Int)) ∧
 ((0 : Int) ≤
 perm.getD (↑x : Int).toNat (0 : Int) /
 (2 : Int) ∧
 perm.getD (↑x : Int).toNat (0 : Int) /
 (2 : Int) <
 (↑(lsK k perm x).length : Int)) ∧
 Fits IntKind.i64 ((↑x : Int) + (1 : Int)) ∧
 ∃ (x' : Nat),
 x' ≤ nK k ∧
 nK k - x' < nK k - x ∧
 (True ∧
 ptK k perm x_1 = ptK k perm x_1 ∧
 True ∧
 (lsK k perm x).set
 (perm.getD (↑x : Int).toNat
 (0 : Int) /
 (2 : Int)).toNat
 (IntKind.u8.wrap
 ((48 : Int) +
 IntKind.u8.wrap
 ((ptK k perm x_1).getD
 (↑x : Int).toNat
 (0 : Int)))) =
 lsK k perm x' ∧
 fsK k perm x = fsK k perm x' ∧
 (True ∧ True ∧ True) ∧
 (iaK k perm x).set
 ((↑x : Int) /
 (2 : Int)).toNat
 (perm.getD
 (↑x : Int).toNat
 (0 : Int) /
 (2 : Int)) =
 iaK k perm x' ∧
 ibK k perm x =
 ibK k perm x' ∧
 True) ∧
 (↑x : Int) + (1 : Int) = (↑x' : Int) ∧
 (↑perm.length : Int) =
 (↑perm.length : Int) ∧
 perm = perm ∧
 True ∧
 True ∧
 True ∧
 True ∧
 k = k ∧
 perm = perm ∧ True) ∧
 (¬perm.getD (↑x : Int).toNat (0 : Int) % (2 : Int) =
 (0 : Int) →
 ¬perm.getD (↑x : Int).toNat (0 : Int) % (2 : Int) =
 (0 : Int) ∧
 Fits IntKind.i64 ((↑x : Int) + (1 : Int)) ∧
 ∃ (x' : Nat),
 x' ≤ nK k ∧
 nK k - x' < nK k - x ∧
 (True ∧
 ptK k perm x_1 = ptK k perm x_1 ∧
 True ∧
 lsK k perm x = lsK k perm x' ∧
 fsK k perm x = fsK k perm x' ∧
 (True ∧ True ∧ True) ∧
 (iaK k perm x).set
 ((↑x : Int) / (2 : Int)).toNat
 (perm.getD (↑x : Int).toNat
 (0 : Int) /
 (2 : Int)) =
 iaK k perm x' ∧
 ibK k perm x = ibK k perm x' ∧
 True) ∧
 (↑x : Int) + (1 : Int) = (↑x' : Int) ∧
 (↑perm.length : Int) = (↑perm.length : Int) ∧
 perm = perm ∧
 True ∧
 True ∧
 True ∧
 True ∧
 k = k ∧ perm = perm ∧ True)))) ∧
 ((ptK k perm x_1).getD (↑x : Int).toNat (0 : Int) = (↑(1 : Nat) : Int) →
 ((0 : Int) ≤ (↑x : Int) ∧ (0 : Int) < (2 : Int)) ∧
 Fits IntKind.i64 ((↑x : Int) / (2 : Int)) ∧
 ((0 : Int) ≤ perm.getD (↑x : Int).toNat (0 : Int) ∧ (0 : Int) < (2 : Int)) ∧
 Fits IntKind.i64 (perm.getD (↑x : Int).toNat (0 : Int) / (2 : Int)) ∧
 ((0 : Int) ≤ (↑x : Int) / (2 : Int) ∧
 (↑x : Int) / (2 : Int) < (↑(ibK k perm x).length : Int)) ∧
 ((0 : Int) ≤ (↑x : Int) ∧ (0 : Int) < (2 : Int)) ∧
 ((↑x : Int) % (2 : Int) = (0 : Int) →
 (↑x : Int) % (2 : Int) = (0 : Int) ∧
 ((0 : Int) ≤ (↑x : Int) ∧ (0 : Int) < (2 : Int)) ∧
 Fits IntKind.i64 ((↑x : Int) / (2 : Int)) ∧
 ((0 : Int) ≤ (↑x : Int) ∧
 (↑x : Int) < (↑(ptK k perm x_1).length : Int)) ∧
 ((0 : Int) ≤ (↑x : Int) / (2 : Int) ∧
 (↑x : Int) / (2 : Int) < (↑(fsK k perm x).length : Int)) ∧
 ((0 : Int) ≤ perm.getD (↑x : Int).toNat (0 : Int) ∧
 (0 : Int) < (2 : Int)) ∧
 (perm.getD (↑x : Int).toNat (0 : Int) % (2 : Int) =
 (0 : Int) →
 perm.getD (↑x : Int).toNat (0 : Int) % (2 : Int) =
 (0 : Int) ∧
 ((0 : Int) ≤ perm.getD (↑x : Int).toNat (0 : Int) ∧
 (0 : Int) < (2 : Int)) ∧
 Fits IntKind.i64
 (perm.getD (↑x : Int).toNat (0 : Int) /
 (2 : Int)) ∧
 ((0 : Int) ≤ (↑x : Int) ∧
 (↑x : Int) <
 (↑(ptK k perm x_1).length : Int)) ∧
 ((0 : Int) ≤
 perm.getD (↑x : Int).toNat (0 : Int) /
 (2 : Int) ∧
 perm.getD (↑x : Int).toNat (0 : Int) /
 (2 : Int) <
 (↑(lsK k perm x).length : Int)) ∧
 Fits IntKind.i64 ((↑x : Int) + (1 : Int)) ∧
 ∃ (x' : Nat),
 x' ≤ nK k ∧
 nK k - x' < nK k - x ∧
 (True ∧
 ptK k perm x_1 =
 ptK k perm x_1 ∧
 True ∧
 (lsK k perm x).set
 (perm.getD
 (↑x : Int).toNat
 (0 : Int) /
 (2 : Int)).toNat
 (IntKind.u8.wrap
 ((48 : Int) +
 IntKind.u8.wrap
 ((ptK k perm
 x_1).getD
 (↑x :
 Int).toNat
 (0 : Int)))) =
 lsK k perm x' ∧
 (fsK k perm x).set
 ((↑x : Int) /
 (2 : Int)).toNat
 (IntKind.u8.wrap
 ((48 : Int) +
 IntKind.u8.wrap
 ((ptK k perm
 x_1).getD
 (↑x :
 Int).toNat
 (0 :
 Int)))) =
 fsK k perm x' ∧
 (True ∧ True ∧ True) ∧
 iaK k perm x =
 iaK k perm x' ∧
 (ibK k perm x).set
 ((↑x : Int) /
 (2 :
 Int)).toNat
 (perm.getD
 (↑x :
 Int).toNat
 (0 :
 Int) /
 (2 : Int)) =
 ibK k perm x' ∧
 True) ∧
 (↑x : Int) + (1 : Int) =
 (↑x' : Int) ∧
 (↑perm.length : Int) =
 (↑perm.length : Int) ∧
 perm = perm ∧
 True ∧
 True ∧
 True ∧
 True ∧
 k = k ∧
 perm = perm ∧
 True) ∧
 (¬perm.getD (↑x : Int).toNat (0 : Int) % (2 : Int) =
 (0 : Int) →
 ¬perm.getD (↑x : Int).toNat (0 : Int) % (2 : Int) =
 (0 : Int) ∧
 Fits IntKind.i64 ((↑x : Int) + (1 : Int)) ∧
 ∃ (x' : Nat),
 x' ≤ nK k ∧
 nK k - x' < nK k - x ∧
 (True ∧
 ptK k perm x_1 = ptK k perm x_1 ∧
 True ∧
 lsK k perm x = lsK k perm x' ∧
 (fsK k perm x).set
 ((↑x : Int) /
 (2 : Int)).toNat
 (IntKind.u8.wrap
 ((48 : Int) +
 IntKind.u8.wrap
 ((ptK k perm x_1).getD
 (↑x : Int).toNat
 (0 : Int)))) =
 fsK k perm x' ∧
 (True ∧ True ∧ True) ∧
 iaK k perm x = iaK k perm x' ∧
 (ibK k perm x).set
 ((↑x : Int) /
 (2 : Int)).toNat
 (perm.getD
 (↑x : Int).toNat
 (0 : Int) /
 (2 : Int)) =
 ibK k perm x' ∧
 True) ∧
 (↑x : Int) + (1 : Int) = (↑x' : Int) ∧
 (↑perm.length : Int) =
 (↑perm.length : Int) ∧
 perm = perm ∧
 True ∧
 True ∧
 True ∧
 True ∧
 k = k ∧
 perm = perm ∧ True)) ∧
 (¬(↑x : Int) % (2 : Int) = (0 : Int) →
 ¬(↑x : Int) % (2 : Int) = (0 : Int) ∧
 ((0 : Int) ≤ perm.getD (↑x : Int).toNat (0 : Int) ∧
 (0 : Int) < (2 : Int)) ∧
 (perm.getD (↑x : Int).toNat (0 : Int) % (2 : Int) = (0 : Int) →
 perm.getD (↑x : Int).toNat (0 : Int) % (2 : Int) = (0 : Int) ∧
 ((0 : Int) ≤ perm.getD (↑x : Int).toNat (0 : Int) ∧
 (0 : Int) < (2 : Int)) ∧
 Fits IntKind.i64
 (perm.getD (↑x : Int).toNat (0 : Int) / (2 : Int)) ∧
 ((0 : Int) ≤ (↑x : Int) ∧
 (↑x : Int) < (↑(ptK k perm x_1).length : Int)) ∧
 ((0 : Int) ≤
 perm.getD (↑x : Int).toNat (0 : Int) /
 (2 : Int) ∧
 perm.getD (↑x : Int).toNat (0 : Int) / (2 : Int) <
 (↑(lsK k perm x).length : Int)) ∧
 Fits IntKind.i64 ((↑x : Int) + (1 : Int)) ∧
 ∃ (x' : Nat),
 x' ≤ nK k ∧
 nK k - x' < nK k - x ∧
 (True ∧
 ptK k perm x_1 = ptK k perm x_1 ∧
 True ∧
 (lsK k perm x).set
 (perm.getD (↑x : Int).toNat
 (0 : Int) /
 (2 : Int)).toNat
 (IntKind.u8.wrap
 ((48 : Int) +
 IntKind.u8.wrap
 ((ptK k perm x_1).getD
 (↑x : Int).toNat
 (0 : Int)))) =
 lsK k perm x' ∧
 fsK k perm x = fsK k perm x' ∧
 (True ∧ True ∧ True) ∧
 iaK k perm x = iaK k perm x' ∧
 (ibK k perm x).set
 ((↑x : Int) /
 (2 : Int)).toNat
 (perm.getD
 (↑x : Int).toNat
 (0 : Int) /
 (2 : Int)) =
 ibK k perm x' ∧
 True) ∧
 (↑x : Int) + (1 : Int) = (↑x' : Int) ∧
 (↑perm.length : Int) =
 (↑perm.length : Int) ∧
 perm = perm ∧
 True ∧
 True ∧
 True ∧
 True ∧
 k = k ∧
 perm = perm ∧ True) ∧
 (¬perm.getD (↑x : Int).toNat (0 : Int) % (2 : Int) = (0 : Int) →
 ¬perm.getD (↑x : Int).toNat (0 : Int) % (2 : Int) =
 (0 : Int) ∧
 Fits IntKind.i64 ((↑x : Int) + (1 : Int)) ∧
 ∃ (x' : Nat),
 x' ≤ nK k ∧
 nK k - x' < nK k - x ∧
 (True ∧
 ptK k perm x_1 = ptK k perm x_1 ∧
 True ∧
 lsK k perm x = lsK k perm x' ∧
 fsK k perm x = fsK k perm x' ∧
 (True ∧ True ∧ True) ∧
 iaK k perm x = iaK k perm x' ∧
 (ibK k perm x).set
 ((↑x : Int) / (2 : Int)).toNat
 (perm.getD (↑x : Int).toNat
 (0 : Int) /
 (2 : Int)) =
 ibK k perm x' ∧
 True) ∧
 (↑x : Int) + (1 : Int) = (↑x' : Int) ∧
 (↑perm.length : Int) = (↑perm.length : Int) ∧
 perm = perm ∧
 True ∧
 True ∧
 True ∧
 True ∧
 k = k ∧ perm = perm ∧ True)))) ∧
 (¬(↑x : Int) < (↑perm.length : Int) →
 ¬(↑x : Int) < (↑perm.length : Int) ∧
 ((1 : Int) ≤ k ∧ k ≤ (3 : Int)) ∧
 ((0 : Int) ≤ switchesF k ∧ switchesF k ≤ switchesF k ∧ Small (switchesF k).toNat) ∧
 ((0 : Int) ≤
 (↑(min ((List.replicate (switchesF k).toNat (0 : Int)).length - (0 : Nat))
 (fsK k perm x).length) :
 Int) ∧
 (↑(min ((List.replicate (switchesF k).toNat (0 : Int)).length - (0 : Nat))
 (fsK k perm x).length) :
 Int) ≤
 (↑(layF (List.replicate (switchesF k).toNat (0 : Int)) (0 : Nat)
 (List.take ((List.replicate (switchesF k).toNat (0 : Int)).length - (0 : Nat))
 (fsK k perm x))).length :
 Int)) ∧
 (∃ (x0 : Nat),
 x0 ≤ (2 : Nat) ∧
 (True ∧
 True ∧
 True ∧
 lsK k perm x = lsK k perm x ∧
 fsK k perm x = fsK k perm x ∧
 True ∧
 True ∧
 True ∧
 layF (List.replicate (switchesF k).toNat (0 : Int)) (0 : Nat)
 (List.take
 ((List.replicate (switchesF k).toNat (0 : Int)).length -
 (0 : Nat))
 (fsK k perm x)) =
 otK k perm x0 ∧
 True) ∧
 (0 : Int) = (↑x0 : Int) ∧
 ((↑(min ((List.replicate (switchesF k).toNat (0 : Int)).length - (0 : Nat))
 (fsK k perm x).length) :
 Int).toNat =
 plK k x0 ∧
 (layF (List.replicate (switchesF k).toNat (0 : Int)) (0 : Nat)
 (List.take
 ((List.replicate (switchesF k).toNat (0 : Int)).length - (0 : Nat))
 (fsK k perm x))).length =
 (otK k perm x0).length) ∧
 (iaK k perm x = iaK k perm (nK k) ∧ ibK k perm x = ibK k perm (nK k) ∧ True) ∧
 True ∧ True ∧ k = k ∧ True) ∧
 ∀ (x_2 : Nat),
 x_2 ≤ (2 : Nat) →
 ((↑x_2 : Int) < (2 : Int) →
 (↑x_2 : Int) < (2 : Int) ∧
 ((0 : Int) ≤ (↑x_2 : Int) ∧ (↑x_2 : Int) < (↑(2 : Nat) : Int)) ∧
 (True ∧
 ((↑x_2 : Int) = (↑(0 : Nat) : Int) →
 Fits IntKind.i64 (k - (1 : Int)) ∧
 ((((1 : Int) ≤ k - (1 : Int) ∧ k - (1 : Int) ≤ (3 : Int)) ∧
 (↑(iaK k perm (nK k)).length : Int) =
 (↑((2 : Nat) ^ (k - (1 : Int)).toNat) : Int) ∧
 (∀ (x : Int),
 x ∈ iaK k perm (nK k) →
 (0 : Int) ≤ x ∧
 x < (↑((2 : Nat) ^ (k - (1 : Int)).toNat) : Int)) ∧
 (iaK k perm (nK k)).Nodup) ∧
 m68 (k - (1 : Int), iaK k perm (nK k)) < m68 (k, perm)) ∧
 ((0 : Int) ≤
 (↑(min ((otK k perm x_2).length - plK k x_2)
 (setF (k - (1 : Int)).toNat
 (iaK k perm (nK k))).length) :
 Int) ∧
 (↑(plK k x_2) : Int) +
 (↑(min ((otK k perm x_2).length - plK k x_2)
 (setF (k - (1 : Int)).toNat
 (iaK k perm (nK k))).length) :
 Int) ≤
 (↑(layF (otK k perm x_2) (plK k x_2)
 (List.take ((otK k perm x_2).length - plK k x_2)
 (setF (k - (1 : Int)).toNat
 (iaK k perm (nK k))))).length :
 Int)) ∧
 Fits IntKind.i64 ((↑x_2 : Int) + (1 : Int)) ∧
 ∃ (x' : Nat),
 x' ≤ (2 : Nat) ∧
 (2 : Nat) - x' < (2 : Nat) - x_2 ∧
 (True ∧
 True ∧
 True ∧
 lsK k perm x = lsK k perm x ∧
 fsK k perm x = fsK k perm x ∧
 True ∧
 True ∧
 True ∧
 layF (otK k perm x_2) (plK k x_2)
 (List.take
 ((otK k perm x_2).length -
 plK k x_2)
 (setF (k - (1 : Int)).toNat
 (iaK k perm (nK k)))) =
 otK k perm x' ∧
 True) ∧
 (↑x_2 : Int) + (1 : Int) = (↑x' : Int) ∧
 (plK k x_2 +
 (↑(min ((otK k perm x_2).length - plK k x_2)
 (setF (k - (1 : Int)).toNat
 (iaK k perm (nK k))).length) :
 Int).toNat =
 plK k x' ∧
 (layF (otK k perm x_2) (plK k x_2)
 (List.take
 ((otK k perm x_2).length - plK k x_2)
 (setF (k - (1 : Int)).toNat
 (iaK k perm (nK k))))).length =
 (otK k perm x').length) ∧
 (iaK k perm (nK k) = iaK k perm (nK k) ∧
 ibK k perm (nK k) = ibK k perm (nK k) ∧
 True) ∧
 True ∧ True ∧ k = k ∧ True)) ∧
 ((↑x_2 : Int) = (↑(1 : Nat) : Int) →
 Fits IntKind.i64 (k - (1 : Int)) ∧
 ((((1 : Int) ≤ k - (1 : Int) ∧ k - (1 : Int) ≤ (3 : Int)) ∧
 (↑(ibK k perm (nK k)).length : Int) =
 (↑((2 : Nat) ^ (k - (1 : Int)).toNat) : Int) ∧
 (∀ (x : Int),
 x ∈ ibK k perm (nK k) →
 (0 : Int) ≤ x ∧
 x < (↑((2 : Nat) ^ (k - (1 : Int)).toNat) : Int)) ∧
 (ibK k perm (nK k)).Nodup) ∧
 m68 (k - (1 : Int), ibK k perm (nK k)) < m68 (k, perm)) ∧
 ((0 : Int) ≤
 (↑(min ((otK k perm x_2).length - plK k x_2)
 (setF (k - (1 : Int)).toNat
 (ibK k perm (nK k))).length) :
 Int) ∧
 (↑(plK k x_2) : Int) +
 (↑(min ((otK k perm x_2).length - plK k x_2)
 (setF (k - (1 : Int)).toNat
 (ibK k perm (nK k))).length) :
 Int) ≤
 (↑(layF (otK k perm x_2) (plK k x_2)
 (List.take ((otK k perm x_2).length - plK k x_2)
 (setF (k - (1 : Int)).toNat
 (ibK k perm (nK k))))).length :
 Int)) ∧
 Fits IntKind.i64 ((↑x_2 : Int) + (1 : Int)) ∧
 ∃ (x' : Nat),
 x' ≤ (2 : Nat) ∧
 (2 : Nat) - x' < (2 : Nat) - x_2 ∧
 (True ∧
 True ∧
 True ∧
 lsK k perm x = lsK k perm x ∧
 fsK k perm x = fsK k perm x ∧
 True ∧
 True ∧
 True ∧
 layF (otK k perm x_2) (plK k x_2)
 (List.take
 ((otK k perm x_2).length -
 plK k x_2)
 (setF (k - (1 : Int)).toNat
 (ibK k perm (nK k)))) =
 otK k perm x' ∧
 True) ∧
 (↑x_2 : Int) + (1 : Int) = (↑x' : Int) ∧
 (plK k x_2 +
 (↑(min ((otK k perm x_2).length - plK k x_2)
 (setF (k - (1 : Int)).toNat
 (ibK k perm (nK k))).length) :
 Int).toNat =
 plK k x' ∧
 (layF (otK k perm x_2) (plK k x_2)
 (List.take
 ((otK k perm x_2).length - plK k x_2)
 (setF (k - (1 : Int)).toNat
 (ibK k perm (nK k))))).length =
 (otK k perm x').length) ∧
 (iaK k perm (nK k) = iaK k perm (nK k) ∧
 ibK k perm (nK k) = ibK k perm (nK k) ∧ True) ∧
 True ∧ True ∧ k = k ∧ True)) ∧
 (¬(↑x_2 : Int) < (2 : Int) →
 ¬(↑x_2 : Int) < (2 : Int) ∧
 layF (otK k perm x_2) (plK k x_2)
 (List.take ((otK k perm x_2).length - plK k x_2) (lsK k perm x)) =
 setF k.toNat perm))) ∧
 ((0 : Int) ≤ (1 : Int) * (2 : Int) ^ k.toNat / (2 : Int) ∧
 (1 : Int) * (2 : Int) ^ k.toNat / (2 : Int) ≤ (1 : Int) * (2 : Int) ^ k.toNat / (2 : Int) ∧
 Small ((1 : Int) * (2 : Int) ^ k.toNat / (2 : Int)).toNat) ∧
 ((0 : Int) ≤ (1 : Int) * (2 : Int) ^ k.toNat / (2 : Int) ∧
 (1 : Int) * (2 : Int) ^ k.toNat / (2 : Int) ≤ (1 : Int) * (2 : Int) ^ k.toNat / (2 : Int) ∧
 Small ((1 : Int) * (2 : Int) ^ k.toNat / (2 : Int)).toNat) ∧
 (∃ (x0 : Nat),
 x0 ≤ nK k ∧
 (True ∧
 ptK k perm x_1 = ptK k perm x_1 ∧
 True ∧
 List.replicate ((1 : Int) * (2 : Int) ^ k.toNat / (2 : Int)).toNat (0 : Int) = lsK k perm x0 ∧
 List.replicate ((1 : Int) * (2 : Int) ^ k.toNat / (2 : Int)).toNat (0 : Int) =
 fsK k perm x0 ∧
 (True ∧ True ∧ True) ∧
 List.replicate ((1 : Int) * (2 : Int) ^ k.toNat / (2 : Int)).toNat (0 : Int) =
 ibK k perm x0 ∧
 List.replicate ((1 : Int) * (2 : Int) ^ k.toNat / (2 : Int)).toNat (0 : Int) =
 iaK k perm x0 ∧
 True) ∧
 (0 : Int) = (↑x0 : Int) ∧
 (↑perm.length : Int) = (↑perm.length : Int) ∧
 perm = perm ∧ True ∧ True ∧ True ∧ True ∧ k = k ∧ perm = perm ∧ True) ∧
 ∀ (x : Nat),
 x ≤ nK k →
 ((↑x : Int) < (↑perm.length : Int) →
 (↑x : Int) < (↑perm.length : Int) ∧
 ((0 : Int) ≤ (↑x : Int) ∧ (↑x : Int) < (↑perm.length : Int)) ∧
 ((0 : Int) ≤ (↑x : Int) ∧ (↑x : Int) < (↑(ptK k perm x_1).length : Int)) ∧
 ((0 : Int) ≤ (ptK k perm x_1).getD (↑x : Int).toNat (0 : Int) ∧
 (ptK k perm x_1).getD (↑x : Int).toNat (0 : Int) < (↑(2 : Nat) : Int)) ∧
 (True ∧
 ((ptK k perm x_1).getD (↑x : Int).toNat (0 : Int) = (↑(0 : Nat) : Int) →
 ((0 : Int) ≤ (↑x : Int) ∧ (0 : Int) < (2 : Int)) ∧
 Fits IntKind.i64 ((↑x : Int) / (2 : Int)) ∧
 ((0 : Int) ≤ perm.getD (↑x : Int).toNat (0 : Int) ∧ (0 : Int) < (2 : Int)) ∧
 Fits IntKind.i64 (perm.getD (↑x : Int).toNat (0 : Int) / (2 : Int)) ∧
 ((0 : Int) ≤ (↑x : Int) / (2 : Int) ∧
 (↑x : Int) / (2 : Int) < (↑(iaK k perm x).length : Int)) ∧
 ((0 : Int) ≤ (↑x : Int) ∧ (0 : Int) < (2 : Int)) ∧
 ((↑x : Int) % (2 : Int) = (0 : Int) →
 (↑x : Int) % (2 : Int) = (0 : Int) ∧
 ((0 : Int) ≤ (↑x : Int) ∧ (0 : Int) < (2 : Int)) ∧
 Fits IntKind.i64 ((↑x : Int) / (2 : Int)) ∧
 ((0 : Int) ≤ (↑x : Int) ∧
 (↑x : Int) < (↑(ptK k perm x_1).length : Int)) ∧
 ((0 : Int) ≤ (↑x : Int) / (2 : Int) ∧
 (↑x : Int) / (2 : Int) <
 (↑(fsK k perm x).length : Int)) ∧
 ((0 : Int) ≤ perm.getD (↑x : Int).toNat (0 : Int) ∧
 (0 : Int) < (2 : Int)) ∧
 (perm.getD (↑x : Int).toNat (0 : Int) % (2 : Int) =
 (0 : Int) →
 perm.getD (↑x : Int).toNat (0 : Int) % (2 : Int) =
 (0 : Int) ∧
 ((0 : Int) ≤
 perm.getD (↑x : Int).toNat (0 : Int) ∧
 (0 : Int) < (2 : Int)) ∧
 Fits IntKind.i64
 (perm.getD (↑x : Int).toNat (0 : Int) /
 (2 : Int)) ∧
 ((0 : Int) ≤ (↑x : Int) ∧
 (↑x : Int) <
 (↑(ptK k perm x_1).length : Int)) ∧
 ((0 : Int) ≤
 perm.getD (↑x : Int).toNat (0 : Int) /
 (2 : Int) ∧
 perm.getD (↑x : Int).toNat (0 : Int) /
 (2 : Int) <
 (↑(lsK k perm x).length : Int)) ∧
 Fits IntKind.i64
 ((↑x : Int) + (1 : Int)) ∧
 ∃ (x' : Nat),
 x' ≤ nK k ∧
 nK k - x' < nK k - x ∧
 (True ∧
 ptK k perm x_1 =
 ptK k perm x_1 ∧
 True ∧
 (lsK k perm x).set
 (perm.getD
 (↑x :
 Int).toNat
 (0 : Int) /
 (2 : Int)).toNat
 (IntKind.u8.wrap
 ((48 : Int) +
 IntKind.u8.wrap
 ((ptK k perm
 x_1).getD
 (↑x :
 Int).toNat
 (0 :
 Int)))) =
 lsK k perm x' ∧
 (fsK k perm x).set
 ((↑x : Int) /
 (2 :
 Int)).toNat
 (IntKind.u8.wrap
 ((48 : Int) +
 IntKind.u8.wrap
 ((ptK k perm
 x_1).getD
 (↑x :
 Int).toNat
 (0 :
 Int)))) =
 fsK k perm x' ∧
 (True ∧ True ∧ True) ∧
 ibK k perm x =
 ibK k perm x' ∧
 (iaK k perm x).set
 ((↑x :
 Int) /
 (2 :
 Int)).toNat
 (perm.getD
 (↑x :
 Int).toNat
 (0 :
 Int) /
 (2 :
 Int)) =
 iaK k perm
 x' ∧
 True) ∧
 (↑x : Int) + (1 : Int) =
 (↑x' : Int) ∧
 (↑perm.length : Int) =
 (↑perm.length : Int) ∧
 perm = perm ∧
 True ∧
 True ∧
 True ∧
 True ∧
 k = k ∧
 perm = perm ∧
 True) ∧
 (¬perm.getD (↑x : Int).toNat (0 : Int) % (2 : Int) =
 (0 : Int) →
 ¬perm.getD (↑x : Int).toNat (0 : Int) % (2 : Int) =
 (0 : Int) ∧
 Fits IntKind.i64 ((↑x : Int) + (1 : Int)) ∧
 ∃ (x' : Nat),
 x' ≤ nK k ∧
 nK k - x' < nK k - x ∧
 (True ∧
 ptK k perm x_1 = ptK k perm x_1 ∧
 True ∧
 lsK k perm x = lsK k perm x' ∧
 (fsK k perm x).set
 ((↑x : Int) /
 (2 : Int)).toNat
 (IntKind.u8.wrap
 ((48 : Int) +
 IntKind.u8.wrap
 ((ptK k perm
 x_1).getD
 (↑x : Int).toNat
 (0 : Int)))) =
 fsK k perm x' ∧
 (True ∧ True ∧ True) ∧
 ibK k perm x =
 ibK k perm x' ∧
 (iaK k perm x).set
 ((↑x : Int) /
 (2 : Int)).toNat
 (perm.getD
 (↑x : Int).toNat
 (0 : Int) /
 (2 : Int)) =
 iaK k perm x' ∧
 True) ∧
 (↑x : Int) + (1 : Int) = (↑x' : Int) ∧
 (↑perm.length : Int) =
 (↑perm.length : Int) ∧
 perm = perm ∧
 True ∧
 True ∧
 True ∧
 True ∧
 k = k ∧
 perm = perm ∧ True)) ∧
 (¬(↑x : Int) % (2 : Int) = (0 : Int) →
 ¬(↑x : Int) % (2 : Int) = (0 : Int) ∧
 ((0 : Int) ≤ perm.getD (↑x : Int).toNat (0 : Int) ∧
 (0 : Int) < (2 : Int)) ∧
 (perm.getD (↑x : Int).toNat (0 : Int) % (2 : Int) = (0 : Int) →
 perm.getD (↑x : Int).toNat (0 : Int) % (2 : Int) =
 (0 : Int) ∧
 ((0 : Int) ≤ perm.getD (↑x : Int).toNat (0 : Int) ∧
 (0 : Int) < (2 : Int)) ∧
 Fits IntKind.i64
 (perm.getD (↑x : Int).toNat (0 : Int) / (2 : Int)) ∧
 ((0 : Int) ≤ (↑x : Int) ∧
 (↑x : Int) < (↑(ptK k perm x_1).length : Int)) ∧
 ((0 : Int) ≤
 perm.getD (↑x : Int).toNat (0 : Int) /
 (2 : Int) ∧
 perm.getD (↑x : Int).toNat (0 : Int) /
 (2 : Int) <
 (↑(lsK k perm x).length : Int)) ∧
 Fits IntKind.i64 ((↑x : Int) + (1 : Int)) ∧
 ∃ (x' : Nat),
 x' ≤ nK k ∧
 nK k - x' < nK k - x ∧
 (True ∧
 ptK k perm x_1 = ptK k perm x_1 ∧
 True ∧
 (lsK k perm x).set
 (perm.getD (↑x : Int).toNat
 (0 : Int) /
 (2 : Int)).toNat
 (IntKind.u8.wrap
 ((48 : Int) +
 IntKind.u8.wrap
 ((ptK k perm x_1).getD
 (↑x : Int).toNat
 (0 : Int)))) =
 lsK k perm x' ∧
 fsK k perm x = fsK k perm x' ∧
 (True ∧ True ∧ True) ∧
 ibK k perm x =
 ibK k perm x' ∧
 (iaK k perm x).set
 ((↑x : Int) /
 (2 : Int)).toNat
 (perm.getD
 (↑x : Int).toNat
 (0 : Int) /
 (2 : Int)) =
 iaK k perm x' ∧
 True) ∧
 (↑x : Int) + (1 : Int) = (↑x' : Int) ∧
 (↑perm.length : Int) =
 (↑perm.length : Int) ∧
 perm = perm ∧
 True ∧
 True ∧
 True ∧
 True ∧
 k = k ∧
 perm = perm ∧ True) ∧
 (¬perm.getD (↑x : Int).toNat (0 : Int) % (2 : Int) =
 (0 : Int) →
 ¬perm.getD (↑x : Int).toNat (0 : Int) % (2 : Int) =
 (0 : Int) ∧
 Fits IntKind.i64 ((↑x : Int) + (1 : Int)) ∧
 ∃ (x' : Nat),
 x' ≤ nK k ∧
 nK k - x' < nK k - x ∧
 (True ∧
 ptK k perm x_1 = ptK k perm x_1 ∧
 True ∧
 lsK k perm x = lsK k perm x' ∧
 fsK k perm x = fsK k perm x' ∧
 (True ∧ True ∧ True) ∧
 ibK k perm x = ibK k perm x' ∧
 (iaK k perm x).set
 ((↑x : Int) /
 (2 : Int)).toNat
 (perm.getD (↑x : Int).toNat
 (0 : Int) /
 (2 : Int)) =
 iaK k perm x' ∧
 True) ∧
 (↑x : Int) + (1 : Int) = (↑x' : Int) ∧
 (↑perm.length : Int) = (↑perm.length : Int) ∧
 perm = perm ∧
 True ∧
 True ∧
 True ∧
 True ∧
 k = k ∧ perm = perm ∧ True)))) ∧
 ((ptK k perm x_1).getD (↑x : Int).toNat (0 : Int) = (↑(1 : Nat) : Int) →
 ((0 : Int) ≤ (↑x : Int) ∧ (0 : Int) < (2 : Int)) ∧
 Fits IntKind.i64 ((↑x : Int) / (2 : Int)) ∧
 ((0 : Int) ≤ perm.getD (↑x : Int).toNat (0 : Int) ∧ (0 : Int) < (2 : Int)) ∧
 Fits IntKind.i64 (perm.getD (↑x : Int).toNat (0 : Int) / (2 : Int)) ∧
 ((0 : Int) ≤ (↑x : Int) / (2 : Int) ∧
 (↑x : Int) / (2 : Int) < (↑(ibK k perm x).length : Int)) ∧
 ((0 : Int) ≤ (↑x : Int) ∧ (0 : Int) < (2 : Int)) ∧
 ((↑x : Int) % (2 : Int) = (0 : Int) →
 (↑x : Int) % (2 : Int) = (0 : Int) ∧
 ((0 : Int) ≤ (↑x : Int) ∧ (0 : Int) < (2 : Int)) ∧
 Fits IntKind.i64 ((↑x : Int) / (2 : Int)) ∧
 ((0 : Int) ≤ (↑x : Int) ∧
 (↑x : Int) < (↑(ptK k perm x_1).length : Int)) ∧
 ((0 : Int) ≤ (↑x : Int) / (2 : Int) ∧
 (↑x : Int) / (2 : Int) < (↑(fsK k perm x).length : Int)) ∧
 ((0 : Int) ≤ perm.getD (↑x : Int).toNat (0 : Int) ∧
 (0 : Int) < (2 : Int)) ∧
 (perm.getD (↑x : Int).toNat (0 : Int) % (2 : Int) =
 (0 : Int) →
 perm.getD (↑x : Int).toNat (0 : Int) % (2 : Int) =
 (0 : Int) ∧
 ((0 : Int) ≤ perm.getD (↑x : Int).toNat (0 : Int) ∧
 (0 : Int) < (2 : Int)) ∧
 Fits IntKind.i64
 (perm.getD (↑x : Int).toNat (0 : Int) /
 (2 : Int)) ∧
 ((0 : Int) ≤ (↑x : Int) ∧
 (↑x : Int) <
 (↑(ptK k perm x_1).length : Int)) ∧
 ((0 : Int) ≤
 perm.getD (↑x : Int).toNat (0 : Int) /
 (2 : Int) ∧
 perm.getD (↑x : Int).toNat (0 : Int) /
 (2 : Int) <
 (↑(lsK k perm x).length : Int)) ∧
 Fits IntKind.i64 ((↑x : Int) + (1 : Int)) ∧
 ∃ (x' : Nat),
 x' ≤ nK k ∧
 nK k - x' < nK k - x ∧
 (True ∧
 ptK k perm x_1 =
 ptK k perm x_1 ∧
 True ∧
 (lsK k perm x).set
 (perm.getD
 (↑x : Int).toNat
 (0 : Int) /
 (2 : Int)).toNat
 (IntKind.u8.wrap
 ((48 : Int) +
 IntKind.u8.wrap
 ((ptK k perm
 x_1).getD
 (↑x :
 Int).toNat
 (0 : Int)))) =
 lsK k perm x' ∧
 (fsK k perm x).set
 ((↑x : Int) /
 (2 : Int)).toNat
 (IntKind.u8.wrap
 ((48 : Int) +
 IntKind.u8.wrap
 ((ptK k perm
 x_1).getD
 (↑x :
 Int).toNat
 (0 :
 Int)))) =
 fsK k perm x' ∧
 (True ∧ True ∧ True) ∧
 (ibK k perm x).set
 ((↑x : Int) /
 (2 :
 Int)).toNat
 (perm.getD
 (↑x :
 Int).toNat
 (0 : Int) /
 (2 : Int)) =
 ibK k perm x' ∧
 iaK k perm x =
 iaK k perm x' ∧
 True) ∧
 (↑x : Int) + (1 : Int) =
 (↑x' : Int) ∧
 (↑perm.length : Int) =
 (↑perm.length : Int) ∧
 perm = perm ∧
 True ∧
 True ∧
 True ∧
 True ∧
 k = k ∧
 perm = perm ∧
 True) ∧
 (¬perm.getD (↑x : Int).toNat (0 : Int) % (2 : Int) =
 (0 : Int) →
 ¬perm.getD (↑x : Int).toNat (0 : Int) % (2 : Int) =
 (0 : Int) ∧
 Fits IntKind.i64 ((↑x : Int) + (1 : Int)) ∧
 ∃ (x' : Nat),
 x' ≤ nK k ∧
 nK k - x' < nK k - x ∧
 (True ∧
 ptK k perm x_1 = ptK k perm x_1 ∧
 True ∧
 lsK k perm x = lsK k perm x' ∧
 (fsK k perm x).set
 ((↑x : Int) /
 (2 : Int)).toNat
 (IntKind.u8.wrap
 ((48 : Int) +
 IntKind.u8.wrap
 ((ptK k perm x_1).getD
 (↑x : Int).toNat
 (0 : Int)))) =
 fsK k perm x' ∧
 (True ∧ True ∧ True) ∧
 (ibK k perm x).set
 ((↑x : Int) /
 (2 : Int)).toNat
 (perm.getD
 (↑x : Int).toNat
 (0 : Int) /
 (2 : Int)) =
 ibK k perm x' ∧
 iaK k perm x =
 iaK k perm x' ∧
 True) ∧
 (↑x : Int) + (1 : Int) = (↑x' : Int) ∧
 (↑perm.length : Int) =
 (↑perm.length : Int) ∧
 perm = perm ∧
 True ∧
 True ∧
 True ∧
 True ∧
 k = k ∧
 perm = perm ∧ True)) ∧
 (¬(↑x : Int) % (2 : Int) = (0 : Int) →
 ¬(↑x : Int) % (2 : Int) = (0 : Int) ∧
 ((0 : Int) ≤ perm.getD (↑x : Int).toNat (0 : Int) ∧
 (0 : Int) < (2 : Int)) ∧
 (perm.getD (↑x : Int).toNat (0 : Int) % (2 : Int) = (0 : Int) →
 perm.getD (↑x : Int).toNat (0 : Int) % (2 : Int) = (0 : Int) ∧
 ((0 : Int) ≤ perm.getD (↑x : Int).toNat (0 : Int) ∧
 (0 : Int) < (2 : Int)) ∧
 Fits IntKind.i64
 (perm.getD (↑x : Int).toNat (0 : Int) / (2 : Int)) ∧
 ((0 : Int) ≤ (↑x : Int) ∧
 (↑x : Int) < (↑(ptK k perm x_1).length : Int)) ∧
 ((0 : Int) ≤
 perm.getD (↑x : Int).toNat (0 : Int) /
 (2 : Int) ∧
 perm.getD (↑x : Int).toNat (0 : Int) / (2 : Int) <
 (↑(lsK k perm x).length : Int)) ∧
 Fits IntKind.i64 ((↑x : Int) + (1 : Int)) ∧
 ∃ (x' : Nat),
 x' ≤ nK k ∧
 nK k - x' < nK k - x ∧
 (True ∧
 ptK k perm x_1 = ptK k perm x_1 ∧
 True ∧
 (lsK k perm x).set
 (perm.getD (↑x : Int).toNat
 (0 : Int) /
 (2 : Int)).toNat
 (IntKind.u8.wrap
 ((48 : Int) +
 IntKind.u8.wrap
 ((ptK k perm x_1).getD
 (↑x : Int).toNat
 (0 : Int)))) =
 lsK k perm x' ∧
 fsK k perm x = fsK k perm x' ∧
 (True ∧ True ∧ True) ∧
 (ibK k perm x).set
 ((↑x : Int) /
 (2 : Int)).toNat
 (perm.getD
 (↑x : Int).toNat
 (0 : Int) /
 (2 : Int)) =
 ibK k perm x' ∧
 iaK k perm x =
 iaK k perm x' ∧
 True) ∧
 (↑x : Int) + (1 : Int) = (↑x' : Int) ∧
 (↑perm.length : Int) =
 (↑perm.length : Int) ∧
 perm = perm ∧
 True ∧
 True ∧
 True ∧
 True ∧
 k = k ∧
 perm = perm ∧ True) ∧
 (¬perm.getD (↑x : Int).toNat (0 : Int) % (2 : Int) = (0 : Int) →
 ¬perm.getD (↑x : Int).toNat (0 : Int) % (2 : Int) =
 (0 : Int) ∧
 Fits IntKind.i64 ((↑x : Int) + (1 : Int)) ∧
 ∃ (x' : Nat),
 x' ≤ nK k ∧
 nK k - x' < nK k - x ∧
 (True ∧
 ptK k perm x_1 = ptK k perm x_1 ∧
 True ∧
 lsK k perm x = lsK k perm x' ∧
 fsK k perm x = fsK k perm x' ∧
 (True ∧ True ∧ True) ∧
 (ibK k perm x).set
 ((↑x : Int) / (2 : Int)).toNat
 (perm.getD (↑x : Int).toNat
 (0 : Int) /
 (2 : Int)) =
 ibK k perm x' ∧
 iaK k perm x = iaK k perm x' ∧
 True) ∧
 (↑x : Int) + (1 : Int) = (↑x' : Int) ∧
 (↑perm.length : Int) = (↑perm.length : Int) ∧
 perm = perm ∧
 True ∧
 True ∧
 True ∧
 True ∧
 k = k ∧ perm = perm ∧ True)))) ∧
 (¬(↑x : Int) < (↑perm.length : Int) →
 ¬(↑x : Int) < (↑perm.length : Int) ∧
 ((1 : Int) ≤ k ∧ k ≤ (3 : Int)) ∧
 ((0 : Int) ≤ switchesF k ∧ switchesF k ≤ switchesF k ∧ Small (switchesF k).toNat) ∧
 ((0 : Int) ≤
 (↑(min ((List.replicate (switchesF k).toNat (0 : Int)).length - (0 : Nat))
 (fsK k perm x).length) :
 Int) ∧
 (↑(min ((List.replicate (switchesF k).toNat (0 : Int)).length - (0 : Nat))
 (fsK k perm x).length) :
 Int) ≤
 (↑(layF (List.replicate (switchesF k).toNat (0 : Int)) (0 : Nat)
 (List.take ((List.replicate (switchesF k).toNat (0 : Int)).length - (0 : Nat))
 (fsK k perm x))).length :
 Int)) ∧
 (∃ (x0 : Nat),
 x0 ≤ (2 : Nat) ∧
 (True ∧
 True ∧
 True ∧
 lsK k perm x = lsK k perm x ∧
 fsK k perm x = fsK k perm x ∧
 True ∧
 True ∧
 True ∧
 layF (List.replicate (switchesF k).toNat (0 : Int)) (0 : Nat)
 (List.take
 ((List.replicate (switchesF k).toNat (0 : Int)).length -
 (0 : Nat))
 (fsK k perm x)) =
 otK k perm x0 ∧
 True) ∧
 (0 : Int) = (↑x0 : Int) ∧
 ((↑(min ((List.replicate (switchesF k).toNat (0 : Int)).length - (0 : Nat))
 (fsK k perm x).length) :
 Int).toNat =
 plK k x0 ∧
 (layF (List.replicate (switchesF k).toNat (0 : Int)) (0 : Nat)
 (List.take
 ((List.replicate (switchesF k).toNat (0 : Int)).length - (0 : Nat))
 (fsK k perm x))).length =
 (otK k perm x0).length) ∧
 (iaK k perm x = iaK k perm (nK k) ∧ ibK k perm x = ibK k perm (nK k) ∧ True) ∧
 True ∧ True ∧ k = k ∧ True) ∧
 ∀ (x_2 : Nat),
 x_2 ≤ (2 : Nat) →
 ((↑x_2 : Int) < (2 : Int) →
 (↑x_2 : Int) < (2 : Int) ∧
 ((0 : Int) ≤ (↑x_2 : Int) ∧ (↑x_2 : Int) < (↑(2 : Nat) : Int)) ∧
 (True ∧
 ((↑x_2 : Int) = (↑(0 : Nat) : Int) →
 Fits IntKind.i64 (k - (1 : Int)) ∧
 ((((1 : Int) ≤ k - (1 : Int) ∧ k - (1 : Int) ≤ (3 : Int)) ∧
 (↑(iaK k perm (nK k)).length : Int) =
 (↑((2 : Nat) ^ (k - (1 : Int)).toNat) : Int) ∧
 (∀ (x : Int),
 x ∈ iaK k perm (nK k) →
 (0 : Int) ≤ x ∧
 x < (↑((2 : Nat) ^ (k - (1 : Int)).toNat) : Int)) ∧
 (iaK k perm (nK k)).Nodup) ∧
 m68 (k - (1 : Int), iaK k perm (nK k)) < m68 (k, perm)) ∧
 ((0 : Int) ≤
 (↑(min ((otK k perm x_2).length - plK k x_2)
 (setF (k - (1 : Int)).toNat
 (iaK k perm (nK k))).length) :
 Int) ∧
 (↑(plK k x_2) : Int) +
 (↑(min ((otK k perm x_2).length - plK k x_2)
 (setF (k - (1 : Int)).toNat
 (iaK k perm (nK k))).length) :
 Int) ≤
 (↑(layF (otK k perm x_2) (plK k x_2)
 (List.take ((otK k perm x_2).length - plK k x_2)
 (setF (k - (1 : Int)).toNat
 (iaK k perm (nK k))))).length :
 Int)) ∧
 Fits IntKind.i64 ((↑x_2 : Int) + (1 : Int)) ∧
 ∃ (x' : Nat),
 x' ≤ (2 : Nat) ∧
 (2 : Nat) - x' < (2 : Nat) - x_2 ∧
 (True ∧
 True ∧
 True ∧
 lsK k perm x = lsK k perm x ∧
 fsK k perm x = fsK k perm x ∧
 True ∧
 True ∧
 True ∧
 layF (otK k perm x_2) (plK k x_2)
 (List.take
 ((otK k perm x_2).length -
 plK k x_2)
 (setF (k - (1 : Int)).toNat
 (iaK k perm (nK k)))) =
 otK k perm x' ∧
 True) ∧
 (↑x_2 : Int) + (1 : Int) = (↑x' : Int) ∧
 (plK k x_2 +
 (↑(min ((otK k perm x_2).length - plK k x_2)
 (setF (k - (1 : Int)).toNat
 (iaK k perm (nK k))).length) :
 Int).toNat =
 plK k x' ∧
 (layF (otK k perm x_2) (plK k x_2)
 (List.take
 ((otK k perm x_2).length - plK k x_2)
 (setF (k - (1 : Int)).toNat
 (iaK k perm (nK k))))).length =
 (otK k perm x').length) ∧
 (iaK k perm (nK k) = iaK k perm (nK k) ∧
 ibK k perm (nK k) = ibK k perm (nK k) ∧
 True) ∧
 True ∧ True ∧ k = k ∧ True)) ∧
 ((↑x_2 : Int) = (↑(1 : Nat) : Int) →
 Fits IntKind.i64 (k - (1 : Int)) ∧
 ((((1 : Int) ≤ k - (1 : Int) ∧ k - (1 : Int) ≤ (3 : Int)) ∧
 (↑(ibK k perm (nK k)).length : Int) =
 (↑((2 : Nat) ^ (k - (1 : Int)).toNat) : Int) ∧
 (∀ (x : Int),
 x ∈ ibK k perm (nK k) →
 (0 : Int) ≤ x ∧
 x < (↑((2 : Nat) ^ (k - (1 : Int)).toNat) : Int)) ∧
 (ibK k perm (nK k)).Nodup) ∧
 m68 (k - (1 : Int), ibK k perm (nK k)) < m68 (k, perm)) ∧
 ((0 : Int) ≤
 (↑(min ((otK k perm x_2).length - plK k x_2)
 (setF (k - (1 : Int)).toNat
 (ibK k perm (nK k))).length) :
 Int) ∧
 (↑(plK k x_2) : Int) +
 (↑(min ((otK k perm x_2).length - plK k x_2)
 (setF (k - (1 : Int)).toNat
 (ibK k perm (nK k))).length) :
 Int) ≤
 (↑(layF (otK k perm x_2) (plK k x_2)
 (List.take ((otK k perm x_2).length - plK k x_2)
 (setF (k - (1 : Int)).toNat
 (ibK k perm (nK k))))).length :
 Int)) ∧
 Fits IntKind.i64 ((↑x_2 : Int) + (1 : Int)) ∧
 ∃ (x' : Nat),
 x' ≤ (2 : Nat) ∧
 (2 : Nat) - x' < (2 : Nat) - x_2 ∧
 (True ∧
 True ∧
 True ∧
 lsK k perm x = lsK k perm x ∧
 fsK k perm x = fsK k perm x ∧
 True ∧
 True ∧
 True ∧
 layF (otK k perm x_2) (plK k x_2)
 (List.take
 ((otK k perm x_2).length -
 plK k x_2)
 (setF (k - (1 : Int)).toNat
 (ibK k perm (nK k)))) =
 otK k perm x' ∧
 True) ∧
 (↑x_2 : Int) + (1 : Int) = (↑x' : Int) ∧
 (plK k x_2 +
 (↑(min ((otK k perm x_2).length - plK k x_2)
 (setF (k - (1 : Int)).toNat
 (ibK k perm (nK k))).length) :
 Int).toNat =
 plK k x' ∧
 (layF (otK k perm x_2) (plK k x_2)
 (List.take
 ((otK k perm x_2).length - plK k x_2)
 (setF (k - (1 : Int)).toNat
 (ibK k perm (nK k))))).length =
 (otK k perm x').length) ∧
 (iaK k perm (nK k) = iaK k perm (nK k) ∧
 ibK k perm (nK k) = ibK k perm (nK k) ∧ True) ∧
 True ∧ True ∧ k = k ∧ True)) ∧
 (¬(↑x_2 : Int) < (2 : Int) →
 ¬(↑x_2 : Int) < (2 : Int) ∧
 layF (otK k perm x_2) (plK k x_2)
 (List.take ((otK k perm x_2).length - plK k x_2) (lsK k perm x)) =
 setF k.toNat perm)))))) := by
 kernel_rfl

end Go.SX.Pa
