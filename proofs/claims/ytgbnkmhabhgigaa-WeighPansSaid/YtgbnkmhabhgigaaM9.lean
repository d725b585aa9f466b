/- Parts of the proof, one after the other: We9 We9E We9Q. -/
import Derived.Test.YtgbnkmhabhgigaaM8
/- Chapter 08: the law of Guys, what is asked. -/
namespace Go.SX.We
open Go Go.Proofs
noncomputable section
@[reducible] def p6 : PC := ⟨6, [aI], [aB], fun _ => True, fun _ => true⟩
def g6 (n : Int) : Prop := p6.VC (cx [p27.ci, p28.ci, i29, p30.ci, p31.ci, p19.ci, p21.ci] []) Try.f6 n
end
end Go.SX.We

/- Printed by VC.lean: what the executor asks. -/
namespace Go.SX.We
open Go Go.Proofs
theorem g6_eq (n : Int) : g6 n = (
 True ∧
 True ∧
 ((0 : Int) ≤ n →
 (0 : Int) ≤ n ∧
 (0 : Int) ≤ n ∧
 (¬n ≤ (60 : Int) →
 ¬n ≤ (60 : Int) ∧
 ¬n ≤ (60 : Int) ∧
 (¬(GuyF n).fst = (0 : Int) → ¬(GuyF n).fst = (0 : Int) ∧ ¬(GuyF n).fst = (0 : Int) ∧ false = true) ∧
 (¬¬(GuyF n).fst = (0 : Int) →
 ¬¬(GuyF n).fst = (0 : Int) ∧
 ¬¬(GuyF n).fst = (0 : Int) ∧
 (¬(GuyF n).snd = (1 : Int) →
 ¬(GuyF n).snd = (1 : Int) ∧ ¬(GuyF n).snd = (1 : Int) ∧ ¬(GuyF n).snd = (1 : Int) ∧ ¬(GuyF n).snd = (1 : Int) ∧ false = true) ∧
 (¬¬(GuyF n).snd = (1 : Int) →
 ¬¬(GuyF n).snd = (1 : Int) ∧
 ¬¬(GuyF n).snd = (1 : Int) ∧
 ¬¬(GuyF n).snd = (1 : Int) ∧
 ¬¬(GuyF n).snd = (1 : Int) ∧
 ((0 : Int) ≤ n →
 (0 : Int) ≤ n ∧
 (0 : Int) ≤ n ∧
 (n ≤ (60 : Int) →
 n ≤ (60 : Int) ∧
 n ≤ (60 : Int) ∧
 n ≤ (60 : Int) ∧
 (¬(GuyF n).snd = (0 : Int) → ¬(GuyF n).snd = (0 : Int) ∧ ¬(GuyF n).snd = (0 : Int) ∧ false = true) ∧
 (¬¬(GuyF n).snd = (0 : Int) →
 ¬¬(GuyF n).snd = (0 : Int) ∧
 ¬¬(GuyF n).snd = (0 : Int) ∧
 n ≤ (60 : Int) ∧
 ((0 : Int) ≤ n ∧ n < (↑(uL (n.toNat - (1 : Nat))).length : Int)) ∧
 (¬(GuyF n).fst = (uL (n.toNat - (1 : Nat))).getD n.toNat (0 : Int) →
 ¬(GuyF n).fst = (uL (n.toNat - (1 : Nat))).getD n.toNat (0 : Int) ∧
 ¬(GuyF n).fst = (uL (n.toNat - (1 : Nat))).getD n.toNat (0 : Int) ∧
 ¬(GuyF n).fst = (uL (n.toNat - (1 : Nat))).getD n.toNat (0 : Int) ∧
 ¬(GuyF n).fst = (uL (n.toNat - (1 : Nat))).getD n.toNat (0 : Int) ∧
 ¬(GuyF n).fst = (uL (n.toNat - (1 : Nat))).getD n.toNat (0 : Int) ∧ false = true) ∧
 (¬¬(GuyF n).fst = (uL (n.toNat - (1 : Nat))).getD n.toNat (0 : Int) →
 ¬¬(GuyF n).fst = (uL (n.toNat - (1 : Nat))).getD n.toNat (0 : Int) ∧
 ¬¬(GuyF n).fst = (uL (n.toNat - (1 : Nat))).getD n.toNat (0 : Int) ∧
 ¬¬(GuyF n).fst = (uL (n.toNat - (1 : Nat))).getD n.toNat (0 : Int) ∧
 ¬¬(GuyF n).fst = (uL (n.toNat - (1 : Nat))).getD n.toNat (0 : Int) ∧
 ¬¬(GuyF n).fst = (uL (n.toNat - (1 : Nat))).getD n.toNat (0 : Int) ∧
 True ∧
 (false = true → false = true ∧ false = true ∧ false = true) ∧
 (false = false →
 false = false ∧
 false = false ∧
 ((1 : Int) ≤ n →
 (1 : Int) ≤ n ∧
 (1 : Int) ≤ n ∧
 (¬n ≤ (12 : Int) →
 ¬n ≤ (12 : Int) ∧
 ((↑(SetF n).fst.length : Int) = (0 : Int) →
 (↑(SetF n).fst.length : Int) = (0 : Int) ∧
 (↑(SetF n).fst.length : Int) = (0 : Int) ∧
 decide ((SetF n).snd = (1 : Int)) = true) ∧
 (¬(↑(SetF n).fst.length : Int) = (0 : Int) →
 ¬(↑(SetF n).fst.length : Int) = (0 : Int) ∧
 ¬(↑(SetF n).fst.length : Int) = (0 : Int) ∧ false = true)) ∧
 (¬¬n ≤ (12 : Int) →
 ¬¬n ≤ (12 : Int) ∧
 ((1 : Int) ≤ n ∧ n ≤ (12 : Int)) ∧
 ((SetF n).fst.length ≤ (1000 : Nat) ∧
 (setF n.toNat).length ≤ (1000 : Nat)) ∧
 (decide ((SetF n).fst = setF n.toNat) = true →
 decide ((SetF n).fst = setF n.toNat) = true ∧
 decide ((SetF n).fst = setF n.toNat) = true ∧
 decide ((SetF n).snd = (0 : Int)) = true) ∧
 (decide ((SetF n).fst = setF n.toNat) = false →
 decide ((SetF n).fst = setF n.toNat) = false ∧
 decide ((SetF n).fst = setF n.toNat) = false ∧
 false = true))) ∧
 (¬(1 : Int) ≤ n →
 ¬(1 : Int) ≤ n ∧
 ¬(1 : Int) ≤ n ∧
 ((↑(SetF n).fst.length : Int) = (0 : Int) →
 (↑(SetF n).fst.length : Int) = (0 : Int) ∧
 (↑(SetF n).fst.length : Int) = (0 : Int) ∧
 decide ((SetF n).snd = (1 : Int)) = true) ∧
 (¬(↑(SetF n).fst.length : Int) = (0 : Int) →
 ¬(↑(SetF n).fst.length : Int) = (0 : Int) ∧
 ¬(↑(SetF n).fst.length : Int) = (0 : Int) ∧ false = true)))))) ∧
 (¬n ≤ (60 : Int) →
 ¬n ≤ (60 : Int) ∧
 ¬n ≤ (60 : Int) ∧
 ¬n ≤ (60 : Int) ∧
 True ∧
 (false = true → false = true ∧ false = true ∧ false = true) ∧
 (false = false →
 false = false ∧
 false = false ∧
 ((1 : Int) ≤ n →
 (1 : Int) ≤ n ∧
 (1 : Int) ≤ n ∧
 (¬n ≤ (12 : Int) →
 ¬n ≤ (12 : Int) ∧
 ((↑(SetF n).fst.length : Int) = (0 : Int) →
 (↑(SetF n).fst.length : Int) = (0 : Int) ∧
 (↑(SetF n).fst.length : Int) = (0 : Int) ∧ decide ((SetF n).snd = (1 : Int)) = true) ∧
 (¬(↑(SetF n).fst.length : Int) = (0 : Int) →
 ¬(↑(SetF n).fst.length : Int) = (0 : Int) ∧
 ¬(↑(SetF n).fst.length : Int) = (0 : Int) ∧ false = true)) ∧
 (¬¬n ≤ (12 : Int) →
 ¬¬n ≤ (12 : Int) ∧
 ((1 : Int) ≤ n ∧ n ≤ (12 : Int)) ∧
 ((SetF n).fst.length ≤ (1000 : Nat) ∧ (setF n.toNat).length ≤ (1000 : Nat)) ∧
 (decide ((SetF n).fst = setF n.toNat) = true →
 decide ((SetF n).fst = setF n.toNat) = true ∧
 decide ((SetF n).fst = setF n.toNat) = true ∧
 decide ((SetF n).snd = (0 : Int)) = true) ∧
 (decide ((SetF n).fst = setF n.toNat) = false →
 decide ((SetF n).fst = setF n.toNat) = false ∧
 decide ((SetF n).fst = setF n.toNat) = false ∧ false = true))) ∧
 (¬(1 : Int) ≤ n →
 ¬(1 : Int) ≤ n ∧
 ¬(1 : Int) ≤ n ∧
 ((↑(SetF n).fst.length : Int) = (0 : Int) →
 (↑(SetF n).fst.length : Int) = (0 : Int) ∧
 (↑(SetF n).fst.length : Int) = (0 : Int) ∧ decide ((SetF n).snd = (1 : Int)) = true) ∧
 (¬(↑(SetF n).fst.length : Int) = (0 : Int) →
 ¬(↑(SetF n).fst.length : Int) = (0 : Int) ∧
 ¬(↑(SetF n).fst.length : Int) = (0 : Int) ∧ false = true))))) ∧
 (¬(0 : Int) ≤ n →
 ¬(0 : Int) ≤ n ∧
 ¬(0 : Int) ≤ n ∧
 True ∧
 (false = true → false = true ∧ false = true ∧ false = true) ∧
 (false = false →
 false = false ∧
 false = false ∧
 ((1 : Int) ≤ n →
 (1 : Int) ≤ n ∧
 (1 : Int) ≤ n ∧
 (¬n ≤ (12 : Int) →
 ¬n ≤ (12 : Int) ∧
 ((↑(SetF n).fst.length : Int) = (0 : Int) →
 (↑(SetF n).fst.length : Int) = (0 : Int) ∧
 (↑(SetF n).fst.length : Int) = (0 : Int) ∧ decide ((SetF n).snd = (1 : Int)) = true) ∧
 (¬(↑(SetF n).fst.length : Int) = (0 : Int) →
 ¬(↑(SetF n).fst.length : Int) = (0 : Int) ∧ ¬(↑(SetF n).fst.length : Int) = (0 : Int) ∧ false = true)) ∧
 (¬¬n ≤ (12 : Int) →
 ¬¬n ≤ (12 : Int) ∧
 ((1 : Int) ≤ n ∧ n ≤ (12 : Int)) ∧
 ((SetF n).fst.length ≤ (1000 : Nat) ∧ (setF n.toNat).length ≤ (1000 : Nat)) ∧
 (decide ((SetF n).fst = setF n.toNat) = true →
 decide ((SetF n).fst = setF n.toNat) = true ∧
 decide ((SetF n).fst = setF n.toNat) = true ∧ decide ((SetF n).snd = (0 : Int)) = true) ∧
 (decide ((SetF n).fst = setF n.toNat) = false →
 decide ((SetF n).fst = setF n.toNat) = false ∧
 decide ((SetF n).fst = setF n.toNat) = false ∧ false = true))) ∧
 (¬(1 : Int) ≤ n →
 ¬(1 : Int) ≤ n ∧
 ¬(1 : Int) ≤ n ∧
 ((↑(SetF n).fst.length : Int) = (0 : Int) →
 (↑(SetF n).fst.length : Int) = (0 : Int) ∧
 (↑(SetF n).fst.length : Int) = (0 : Int) ∧ decide ((SetF n).snd = (1 : Int)) = true) ∧
 (¬(↑(SetF n).fst.length : Int) = (0 : Int) →
 ¬(↑(SetF n).fst.length : Int) = (0 : Int) ∧ ¬(↑(SetF n).fst.length : Int) = (0 : Int) ∧ false = true))))))) ∧
 (¬¬n ≤ (60 : Int) →
 ¬¬n ≤ (60 : Int) ∧
 ¬¬n ≤ (60 : Int) ∧
 ((0 : Int) ≤ n →
 (0 : Int) ≤ n ∧
 (0 : Int) ≤ n ∧
 (n ≤ (60 : Int) →
 n ≤ (60 : Int) ∧
 n ≤ (60 : Int) ∧
 n ≤ (60 : Int) ∧
 (¬(GuyF n).snd = (0 : Int) → ¬(GuyF n).snd = (0 : Int) ∧ ¬(GuyF n).snd = (0 : Int) ∧ false = true) ∧
 (¬¬(GuyF n).snd = (0 : Int) →
 ¬¬(GuyF n).snd = (0 : Int) ∧
 ¬¬(GuyF n).snd = (0 : Int) ∧
 n ≤ (60 : Int) ∧
 ((0 : Int) ≤ n ∧ n < (↑(uL (n.toNat - (1 : Nat))).length : Int)) ∧
 (¬(GuyF n).fst = (uL (n.toNat - (1 : Nat))).getD n.toNat (0 : Int) →
 ¬(GuyF n).fst = (uL (n.toNat - (1 : Nat))).getD n.toNat (0 : Int) ∧
 ¬(GuyF n).fst = (uL (n.toNat - (1 : Nat))).getD n.toNat (0 : Int) ∧
 ¬(GuyF n).fst = (uL (n.toNat - (1 : Nat))).getD n.toNat (0 : Int) ∧
 ¬(GuyF n).fst = (uL (n.toNat - (1 : Nat))).getD n.toNat (0 : Int) ∧
 ¬(GuyF n).fst = (uL (n.toNat - (1 : Nat))).getD n.toNat (0 : Int) ∧ false = true) ∧
 (¬¬(GuyF n).fst = (uL (n.toNat - (1 : Nat))).getD n.toNat (0 : Int) →
 ¬¬(GuyF n).fst = (uL (n.toNat - (1 : Nat))).getD n.toNat (0 : Int) ∧
 ¬¬(GuyF n).fst = (uL (n.toNat - (1 : Nat))).getD n.toNat (0 : Int) ∧
 ¬¬(GuyF n).fst = (uL (n.toNat - (1 : Nat))).getD n.toNat (0 : Int) ∧
 ¬¬(GuyF n).fst = (uL (n.toNat - (1 : Nat))).getD n.toNat (0 : Int) ∧
 ¬¬(GuyF n).fst = (uL (n.toNat - (1 : Nat))).getD n.toNat (0 : Int) ∧
 True ∧
 (false = true → false = true ∧ false = true ∧ false = true) ∧
 (false = false →
 false = false ∧
 false = false ∧
 ((1 : Int) ≤ n →
 (1 : Int) ≤ n ∧
 (1 : Int) ≤ n ∧
 (¬n ≤ (12 : Int) →
 ¬n ≤ (12 : Int) ∧
 ((↑(SetF n).fst.length : Int) = (0 : Int) →
 (↑(SetF n).fst.length : Int) = (0 : Int) ∧
 (↑(SetF n).fst.length : Int) = (0 : Int) ∧ decide ((SetF n).snd = (1 : Int)) = true) ∧
 (¬(↑(SetF n).fst.length : Int) = (0 : Int) →
 ¬(↑(SetF n).fst.length : Int) = (0 : Int) ∧
 ¬(↑(SetF n).fst.length : Int) = (0 : Int) ∧ false = true)) ∧
 (¬¬n ≤ (12 : Int) →
 ¬¬n ≤ (12 : Int) ∧
 ((1 : Int) ≤ n ∧ n ≤ (12 : Int)) ∧
 ((SetF n).fst.length ≤ (1000 : Nat) ∧ (setF n.toNat).length ≤ (1000 : Nat)) ∧
 (decide ((SetF n).fst = setF n.toNat) = true →
 decide ((SetF n).fst = setF n.toNat) = true ∧
 decide ((SetF n).fst = setF n.toNat) = true ∧
 decide ((SetF n).snd = (0 : Int)) = true) ∧
 (decide ((SetF n).fst = setF n.toNat) = false →
 decide ((SetF n).fst = setF n.toNat) = false ∧
 decide ((SetF n).fst = setF n.toNat) = false ∧ false = true))) ∧
 (¬(1 : Int) ≤ n →
 ¬(1 : Int) ≤ n ∧
 ¬(1 : Int) ≤ n ∧
 ((↑(SetF n).fst.length : Int) = (0 : Int) →
 (↑(SetF n).fst.length : Int) = (0 : Int) ∧
 (↑(SetF n).fst.length : Int) = (0 : Int) ∧ decide ((SetF n).snd = (1 : Int)) = true) ∧
 (¬(↑(SetF n).fst.length : Int) = (0 : Int) →
 ¬(↑(SetF n).fst.length : Int) = (0 : Int) ∧
 ¬(↑(SetF n).fst.length : Int) = (0 : Int) ∧ false = true)))))) ∧
 (¬n ≤ (60 : Int) →
 ¬n ≤ (60 : Int) ∧
 ¬n ≤ (60 : Int) ∧
 ¬n ≤ (60 : Int) ∧
 True ∧
 (false = true → false = true ∧ false = true ∧ false = true) ∧
 (false = false →
 false = false ∧
 false = false ∧
 ((1 : Int) ≤ n →
 (1 : Int) ≤ n ∧
 (1 : Int) ≤ n ∧
 (¬n ≤ (12 : Int) →
 ¬n ≤ (12 : Int) ∧
 ((↑(SetF n).fst.length : Int) = (0 : Int) →
 (↑(SetF n).fst.length : Int) = (0 : Int) ∧
 (↑(SetF n).fst.length : Int) = (0 : Int) ∧ decide ((SetF n).snd = (1 : Int)) = true) ∧
 (¬(↑(SetF n).fst.length : Int) = (0 : Int) →
 ¬(↑(SetF n).fst.length : Int) = (0 : Int) ∧ ¬(↑(SetF n).fst.length : Int) = (0 : Int) ∧ false = true)) ∧
 (¬¬n ≤ (12 : Int) →
 ¬¬n ≤ (12 : Int) ∧
 ((1 : Int) ≤ n ∧ n ≤ (12 : Int)) ∧
 ((SetF n).fst.length ≤ (1000 : Nat) ∧ (setF n.toNat).length ≤ (1000 : Nat)) ∧
 (decide ((SetF n).fst = setF n.toNat) = true →
 decide ((SetF n).fst = setF n.toNat) = true ∧
 decide ((SetF n).fst = setF n.toNat) = true ∧ decide ((SetF n).snd = (0 : Int)) = true) ∧
 (decide ((SetF n).fst = setF n.toNat) = false →
 decide ((SetF n).fst = setF n.toNat) = false ∧
 decide ((SetF n).fst = setF n.toNat) = false ∧ false = true))) ∧
 (¬(1 : Int) ≤ n →
 ¬(1 : Int) ≤ n ∧
 ¬(1 : Int) ≤ n ∧
 ((↑(SetF n).fst.length : Int) = (0 : Int) →
 (↑(SetF n).fst.length : Int) = (0 : Int) ∧
 (↑(SetF n).fst.length : Int) = (0 : Int) ∧ decide ((SetF n).snd = (1 : Int)) = true) ∧
 (¬(↑(SetF n).fst.length : Int) = (0 : Int) →
 ¬(↑(SetF n).fst.length : Int) = (0 : Int) ∧ ¬(↑(SetF n).fst.length : Int) = (0 : Int) ∧ false = true))))) ∧
 (¬(0 : Int) ≤ n →
 ¬(0 : Int) ≤ n ∧
 ¬(0 : Int) ≤ n ∧
 True ∧
 (false = true → false = true ∧ false = true ∧ false = true) ∧
 (false = false →
 false = false ∧
 false = false ∧
 ((1 : Int) ≤ n →
 (1 : Int) ≤ n ∧
 (1 : Int) ≤ n ∧
 (¬n ≤ (12 : Int) →
 ¬n ≤ (12 : Int) ∧
 ((↑(SetF n).fst.length : Int) = (0 : Int) →
 (↑(SetF n).fst.length : Int) = (0 : Int) ∧
 (↑(SetF n).fst.length : Int) = (0 : Int) ∧ decide ((SetF n).snd = (1 : Int)) = true) ∧
 (¬(↑(SetF n).fst.length : Int) = (0 : Int) →
 ¬(↑(SetF n).fst.length : Int) = (0 : Int) ∧ ¬(↑(SetF n).fst.length : Int) = (0 : Int) ∧ false = true)) ∧
 (¬¬n ≤ (12 : Int) →
 ¬¬n ≤ (12 : Int) ∧
 ((1 : Int) ≤ n ∧ n ≤ (12 : Int)) ∧
 ((SetF n).fst.length ≤ (1000 : Nat) ∧ (setF n.toNat).length ≤ (1000 : Nat)) ∧
 (decide ((SetF n).fst = setF n.toNat) = true →
 decide ((SetF n).fst = setF n.toNat) = true ∧
 decide ((SetF n).fst = setF n.toNat) = true ∧ decide ((SetF n).snd = (0 : Int)) = true) ∧
 (decide ((SetF n).fst = setF n.toNat) = false →
 decide ((SetF n).fst = setF n.toNat) = false ∧ decide ((SetF n).fst = setF n.toNat) = false ∧ false = true))) ∧
 (¬(1 : Int) ≤ n →
 ¬(1 : Int) ≤ n ∧
 ¬(1 : Int) ≤ n ∧
 ((↑(SetF n).fst.length : Int) = (0 : Int) →
 (↑(SetF n).fst.length : Int) = (0 : Int) ∧ (↑(SetF n).fst.length : Int) = (0 : Int) ∧ decide ((SetF n).snd = (1 : Int)) = true) ∧
 (¬(↑(SetF n).fst.length : Int) = (0 : Int) →
 ¬(↑(SetF n).fst.length : Int) = (0 : Int) ∧ ¬(↑(SetF n).fst.length : Int) = (0 : Int) ∧ false = true)))))) ∧
 (¬(0 : Int) ≤ n →
 ¬(0 : Int) ≤ n ∧
 ¬(0 : Int) ≤ n ∧
 (¬(GuyF n).fst = (0 : Int) → ¬(GuyF n).fst = (0 : Int) ∧ ¬(GuyF n).fst = (0 : Int) ∧ false = true) ∧
 (¬¬(GuyF n).fst = (0 : Int) →
 ¬¬(GuyF n).fst = (0 : Int) ∧
 ¬¬(GuyF n).fst = (0 : Int) ∧
 (¬(GuyF n).snd = (1 : Int) → ¬(GuyF n).snd = (1 : Int) ∧ ¬(GuyF n).snd = (1 : Int) ∧ ¬(GuyF n).snd = (1 : Int) ∧ ¬(GuyF n).snd = (1 : Int) ∧ false = true) ∧
 (¬¬(GuyF n).snd = (1 : Int) →
 ¬¬(GuyF n).snd = (1 : Int) ∧
 ¬¬(GuyF n).snd = (1 : Int) ∧
 ¬¬(GuyF n).snd = (1 : Int) ∧
 ¬¬(GuyF n).snd = (1 : Int) ∧
 ((0 : Int) ≤ n →
 (0 : Int) ≤ n ∧
 (0 : Int) ≤ n ∧
 (n ≤ (60 : Int) →
 n ≤ (60 : Int) ∧
 n ≤ (60 : Int) ∧
 (¬(GuyF n).snd = (0 : Int) → ¬(GuyF n).snd = (0 : Int) ∧ ¬(GuyF n).snd = (0 : Int) ∧ false = true) ∧
 (¬¬(GuyF n).snd = (0 : Int) →
 ¬¬(GuyF n).snd = (0 : Int) ∧
 ¬¬(GuyF n).snd = (0 : Int) ∧
 n ≤ (60 : Int) ∧
 ((0 : Int) ≤ n ∧ n < (↑(uL (n.toNat - (1 : Nat))).length : Int)) ∧
 (¬(GuyF n).fst = (uL (n.toNat - (1 : Nat))).getD n.toNat (0 : Int) →
 ¬(GuyF n).fst = (uL (n.toNat - (1 : Nat))).getD n.toNat (0 : Int) ∧
 ¬(GuyF n).fst = (uL (n.toNat - (1 : Nat))).getD n.toNat (0 : Int) ∧
 ¬(GuyF n).fst = (uL (n.toNat - (1 : Nat))).getD n.toNat (0 : Int) ∧
 ¬(GuyF n).fst = (uL (n.toNat - (1 : Nat))).getD n.toNat (0 : Int) ∧
 ¬(GuyF n).fst = (uL (n.toNat - (1 : Nat))).getD n.toNat (0 : Int) ∧ false = true) ∧
 (¬¬(GuyF n).fst = (uL (n.toNat - (1 : Nat))).getD n.toNat (0 : Int) →
 ¬¬(GuyF n).fst = (uL (n.toNat - (1 : Nat))).getD n.toNat (0 : Int) ∧
 ¬¬(GuyF n).fst = (uL (n.toNat - (1 : Nat))).getD n.toNat (0 : Int) ∧
 ¬¬(GuyF n).fst = (uL (n.toNat - (1 : Nat))).getD n.toNat (0 : Int) ∧
 ¬¬(GuyF n).fst = (uL (n.toNat - (1 : Nat))).getD n.toNat (0 : Int) ∧
 ¬¬(GuyF n).fst = (uL (n.toNat - (1 : Nat))).getD n.toNat (0 : Int) ∧
 True ∧
 (false = true → false = true ∧ false = true ∧ false = true) ∧
 (false = false →
 false = false ∧
 false = false ∧
 ((1 : Int) ≤ n →
 (1 : Int) ≤ n ∧
 (1 : Int) ≤ n ∧
 (¬n ≤ (12 : Int) →
 ¬n ≤ (12 : Int) ∧
 ((↑(SetF n).fst.length : Int) = (0 : Int) →
 (↑(SetF n).fst.length : Int) = (0 : Int) ∧
 (↑(SetF n).fst.length : Int) = (0 : Int) ∧
 decide ((SetF n).snd = (1 : Int)) = true) ∧
 (¬(↑(SetF n).fst.length : Int) = (0 : Int) →
 ¬(↑(SetF n).fst.length : Int) = (0 : Int) ∧
 ¬(↑(SetF n).fst.length : Int) = (0 : Int) ∧ false = true)) ∧
 (¬¬n ≤ (12 : Int) →
 ¬¬n ≤ (12 : Int) ∧
 ((1 : Int) ≤ n ∧ n ≤ (12 : Int)) ∧
 ((SetF n).fst.length ≤ (1000 : Nat) ∧ (setF n.toNat).length ≤ (1000 : Nat)) ∧
 (decide ((SetF n).fst = setF n.toNat) = true →
 decide ((SetF n).fst = setF n.toNat) = true ∧
 decide ((SetF n).fst = setF n.toNat) = true ∧
 decide ((SetF n).snd = (0 : Int)) = true) ∧
 (decide ((SetF n).fst = setF n.toNat) = false →
 decide ((SetF n).fst = setF n.toNat) = false ∧
 decide ((SetF n).fst = setF n.toNat) = false ∧ false = true))) ∧
 (¬(1 : Int) ≤ n →
 ¬(1 : Int) ≤ n ∧
 ¬(1 : Int) ≤ n ∧
 ((↑(SetF n).fst.length : Int) = (0 : Int) →
 (↑(SetF n).fst.length : Int) = (0 : Int) ∧
 (↑(SetF n).fst.length : Int) = (0 : Int) ∧
 decide ((SetF n).snd = (1 : Int)) = true) ∧
 (¬(↑(SetF n).fst.length : Int) = (0 : Int) →
 ¬(↑(SetF n).fst.length : Int) = (0 : Int) ∧
 ¬(↑(SetF n).fst.length : Int) = (0 : Int) ∧ false = true)))))) ∧
 (¬n ≤ (60 : Int) →
 ¬n ≤ (60 : Int) ∧
 ¬n ≤ (60 : Int) ∧
 True ∧
 (false = true → false = true ∧ false = true ∧ false = true) ∧
 (false = false →
 false = false ∧
 false = false ∧
 ((1 : Int) ≤ n →
 (1 : Int) ≤ n ∧
 (1 : Int) ≤ n ∧
 (¬n ≤ (12 : Int) →
 ¬n ≤ (12 : Int) ∧
 ((↑(SetF n).fst.length : Int) = (0 : Int) →
 (↑(SetF n).fst.length : Int) = (0 : Int) ∧
 (↑(SetF n).fst.length : Int) = (0 : Int) ∧ decide ((SetF n).snd = (1 : Int)) = true) ∧
 (¬(↑(SetF n).fst.length : Int) = (0 : Int) →
 ¬(↑(SetF n).fst.length : Int) = (0 : Int) ∧ ¬(↑(SetF n).fst.length : Int) = (0 : Int) ∧ false = true)) ∧
 (¬¬n ≤ (12 : Int) →
 ¬¬n ≤ (12 : Int) ∧
 ((1 : Int) ≤ n ∧ n ≤ (12 : Int)) ∧
 ((SetF n).fst.length ≤ (1000 : Nat) ∧ (setF n.toNat).length ≤ (1000 : Nat)) ∧
 (decide ((SetF n).fst = setF n.toNat) = true →
 decide ((SetF n).fst = setF n.toNat) = true ∧
 decide ((SetF n).fst = setF n.toNat) = true ∧ decide ((SetF n).snd = (0 : Int)) = true) ∧
 (decide ((SetF n).fst = setF n.toNat) = false →
 decide ((SetF n).fst = setF n.toNat) = false ∧
 decide ((SetF n).fst = setF n.toNat) = false ∧ false = true))) ∧
 (¬(1 : Int) ≤ n →
 ¬(1 : Int) ≤ n ∧
 ¬(1 : Int) ≤ n ∧
 ((↑(SetF n).fst.length : Int) = (0 : Int) →
 (↑(SetF n).fst.length : Int) = (0 : Int) ∧
 (↑(SetF n).fst.length : Int) = (0 : Int) ∧ decide ((SetF n).snd = (1 : Int)) = true) ∧
 (¬(↑(SetF n).fst.length : Int) = (0 : Int) →
 ¬(↑(SetF n).fst.length : Int) = (0 : Int) ∧ ¬(↑(SetF n).fst.length : Int) = (0 : Int) ∧ false = true))))) ∧
 (¬(0 : Int) ≤ n →
 ¬(0 : Int) ≤ n ∧
 ¬(0 : Int) ≤ n ∧
 True ∧
 (false = true → false = true ∧ false = true ∧ false = true) ∧
 (false = false →
 false = false ∧
 false = false ∧
 ((1 : Int) ≤ n →
 (1 : Int) ≤ n ∧
 (1 : Int) ≤ n ∧
 (¬n ≤ (12 : Int) →
 ¬n ≤ (12 : Int) ∧
 ((↑(SetF n).fst.length : Int) = (0 : Int) →
 (↑(SetF n).fst.length : Int) = (0 : Int) ∧
 (↑(SetF n).fst.length : Int) = (0 : Int) ∧ decide ((SetF n).snd = (1 : Int)) = true) ∧
 (¬(↑(SetF n).fst.length : Int) = (0 : Int) →
 ¬(↑(SetF n).fst.length : Int) = (0 : Int) ∧ ¬(↑(SetF n).fst.length : Int) = (0 : Int) ∧ false = true)) ∧
 (¬¬n ≤ (12 : Int) →
 ¬¬n ≤ (12 : Int) ∧
 ((1 : Int) ≤ n ∧ n ≤ (12 : Int)) ∧
 ((SetF n).fst.length ≤ (1000 : Nat) ∧ (setF n.toNat).length ≤ (1000 : Nat)) ∧
 (decide ((SetF n).fst = setF n.toNat) = true →
 decide ((SetF n).fst = setF n.toNat) = true ∧
 decide ((SetF n).fst = setF n.toNat) = true ∧ decide ((SetF n).snd = (0 : Int)) = true) ∧
 (decide ((SetF n).fst = setF n.toNat) = false →
 decide ((SetF n).fst = setF n.toNat) = false ∧
 decide ((SetF n).fst = setF n.toNat) = false ∧ false = true))) ∧
 (¬(1 : Int) ≤ n →
 ¬(1 : Int) ≤ n ∧
 ¬(1 : Int) ≤ n ∧
 ((↑(SetF n).fst.length : Int) = (0 : Int) →
 (↑(SetF n).fst.length : Int) = (0 : Int) ∧
 (↑(SetF n).fst.length : Int) = (0 : Int) ∧ decide ((SetF n).snd = (1 : Int)) = true) ∧
 (¬(↑(SetF n).fst.length : Int) = (0 : Int) →
 ¬(↑(SetF n).fst.length : Int) = (0 : Int) ∧ ¬(↑(SetF n).fst.length : Int) = (0 : Int) ∧ false = true)))))))) := by
 kernel_rfl

end Go.SX.We

/- Chapter 08: the law of Guys, proved. -/
namespace Go.SX.We
open Go Go.Proofs

theorem ok6 : p6.OK Try.prog := p6.ok (fn := Try.f6) (fun _ => cx [p27.ci, p28.ci, i29, p30.ci, p31.ci, p19.ci, p21.ci] [])
    (fun _ => cx_ok (cs := [p27.ci, p28.ci, i29, p30.ci, p31.ci, p19.ci, p21.ci]) ⟨PC.OK.ci ok27, PC.OK.ci ok28, i29_ok, PC.OK.ci ok30, PC.OK.ci ok31, PC.OK.ci ok19, PC.OK.ci ok21, trivial⟩ _) (by kernel_rfl) (by kernel_rfl) (by kernel_rfl) fun n _ => by
  have key : ∀ n : Int, g6 n := fun n => by
    refine (g6_eq n).mpr ?_
    have hu : 0 ≤ n → (uL (n.toNat - 1)).getD n.toNat 0 = guyF n.toNat := fun h => uL_get (by omega)
    have hl : 0 ≤ n → n < ((uL (n.toNat - 1)).length : Int) := fun h => by rw [uL_length]; omega
    by_cases h0 : 0 ≤ n
    · rw [hu h0]
      by_cases h60 : n ≤ 60
      · have eG : GuyF n = (guyF n.toNat, 0) := by unfold GuyF; rw [decide_eq_false (show ¬ n < 0 by omega), decide_eq_false (show ¬ 60 < n by omega)]; rfl
        by_cases h1 : 1 ≤ n
        · by_cases h12 : n ≤ 12
          · have eS : SetF n = (setF n.toNat, 0) := by unfold SetF; rw [decide_eq_false (show ¬ n < 1 by omega), decide_eq_false (show ¬ 12 < n by omega)]; rfl
            have hs : (setF n.toNat).length ≤ 1000 := by rw [setF_length]; omega
            simp [eG, eS, h0, h60, h1, h12, hl h0, hs]
          · have eS : SetF n = ([], 1) := by unfold SetF; rw [decide_eq_true (show 12 < n by omega)]; simp
            simp [eG, eS, h0, h60, h1, h12, hl h0]
        · have eS : SetF n = ([], 1) := by unfold SetF; rw [decide_eq_true (show n < 1 by omega)]; simp
          simp [eG, eS, h0, h60, h1, hl h0]
      · have eG : GuyF n = (0, 1) := by unfold GuyF; rw [decide_eq_true (show 60 < n by omega)]; simp
        have h1 : 1 ≤ n := by omega
        have h12 : ¬ n ≤ 12 := by omega
        have eS : SetF n = ([], 1) := by unfold SetF; rw [decide_eq_true (show 12 < n by omega)]; simp
        simp [eG, eS, h0, h60, h1, h12]
    · have eG : GuyF n = (0, 1) := by unfold GuyF; rw [decide_eq_true (show n < 0 by omega)]; simp
      have eS : SetF n = ([], 1) := by unfold SetF; rw [decide_eq_true (show n < 1 by omega)]; simp
      have h1 : ¬ 1 ≤ n := by omega
      simp [eG, eS, h0, h1]
  exact key n
end Go.SX.We
