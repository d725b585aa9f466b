/- Parts of the proof, one after the other: Pa22 Pa22E Pa22Q. -/
import Derived.Test.YtfbgbdiajghnbaaDoorM4
import Derived.Test.YtfbgbdiajghnbaaDoorM13
/- Chapter 06, part 22: the law PatchServes. -/
namespace Go.SX.Pa
open Go Go.Proofs
def errTo (n r m : Int) (cs : List Ed) (k : Nat) : Int := if ¬ ClosP n r m then 1 else if (cs.take k).any (badEv n r) = true then 2 else 0
noncomputable section
@[reducible] def p14 : PC := ⟨14, [aCl, aEds], [aB], fun _ => True, fun _ => true⟩
@[reducible] def A14 (n r m : Int) (cs : List Ed) : Ann where
  τ := Nat
  pre := []
  preC := []
  keep := [5, 6, 7, 8, 9, 10]
  slots k := [(12, .c (.int .i64 k)), (11, .c (.int .i64 (errTo n r m cs k)))]
  ents _ := []
  ok k := k ≤ cs.length
  m k := cs.length - k
@[reducible] def C14 (p : Cl × List Ed) : Ctx := cz [p49.ci, p24.ci, p21.ci, p25.ci, p28.ci, p50.ci] [(0, fun _ => A14 p.1.1 p.1.2.1 p.1.2.2 (p.2.take 101))]
def g14 (c : Cl) (es : List Ed) : Prop := p14.VC (C14 (c, es)) Tryd.f14 (c, es)
end
end Go.SX.Pa

/- Printed by VC.lean: what the executor asks. -/
namespace Go.SX.Pa
open Go Go.Proofs
theorem g14_eq (c : Cl) (es : List Ed) : g14 c es = (
 ((0 : Int) ≤ (↑(0 : Nat) : Int) ∧ (↑(0 : Nat) : Int) ≤ min (↑es.length : Int) (101 : Int) ∧ min (↑es.length : Int) (101 : Int) ≤ (↑es.length : Int)) ∧
 True ∧
 Small ((0 : Nat) + (List.drop (↑(0 : Nat) : Int).toNat (List.take (min (↑es.length : Int) (101 : Int)).toNat es)).length) ∧
 (List.drop (↑(0 : Nat) : Int).toNat (List.take (min (↑es.length : Int) (101 : Int)).toNat es)).length ≤ (1000 : Nat) ∧
 True ∧
 ((!decide (ClosP c.fst c.snd.fst c.snd.snd)) = true →
 (!decide (ClosP c.fst c.snd.fst c.snd.snd)) = true ∧
 (∃ (x0 : Nat),
 x0 ≤ (List.take (101 : Nat) es).length ∧
 ((c.fst = c.fst ∧ c.snd.fst = c.snd.fst ∧ c.snd.snd = c.snd.snd ∧ True) ∧ True ∧ True) ∧
 (0 : Int) = (↑x0 : Int) ∧
 (1 : Int) = errTo c.fst c.snd.fst c.snd.snd (List.take (101 : Nat) es) x0 ∧
 (serveF c.fst c.snd.fst c.snd.snd (List.drop (↑(0 : Nat) : Int).toNat (List.take (min (↑es.length : Int) (101 : Int)).toNat es))).snd =
 (serveF c.fst c.snd.fst c.snd.snd (List.drop (↑(0 : Nat) : Int).toNat (List.take (min (↑es.length : Int) (101 : Int)).toNat es))).snd ∧
 (serveF c.fst c.snd.fst c.snd.snd (List.drop (↑(0 : Nat) : Int).toNat (List.take (min (↑es.length : Int) (101 : Int)).toNat es))).fst =
 (serveF c.fst c.snd.fst c.snd.snd (List.drop (↑(0 : Nat) : Int).toNat (List.take (min (↑es.length : Int) (101 : Int)).toNat es))).fst ∧
 List.drop (↑(0 : Nat) : Int).toNat (List.take (min (↑es.length : Int) (101 : Int)).toNat es) =
 List.drop (↑(0 : Nat) : Int).toNat (List.take (min (↑es.length : Int) (101 : Int)).toNat es) ∧
 c.snd.snd = c.snd.snd ∧ c.snd.fst = c.snd.fst ∧ c.fst = c.fst ∧ True) ∧
 ∀ (x : Nat),
 x ≤ (List.take (101 : Nat) es).length →
 ((↑x : Int) < (↑(List.drop (↑(0 : Nat) : Int).toNat (List.take (min (↑es.length : Int) (101 : Int)).toNat es)).length : Int) →
 (↑x : Int) < (↑(List.drop (↑(0 : Nat) : Int).toNat (List.take (min (↑es.length : Int) (101 : Int)).toNat es)).length : Int) ∧
 (↑x : Int) < (↑(List.drop (↑(0 : Nat) : Int).toNat (List.take (min (↑es.length : Int) (101 : Int)).toNat es)).length : Int) ∧
 (errTo c.fst c.snd.fst c.snd.snd (List.take (101 : Nat) es) x = (0 : Int) →
 errTo c.fst c.snd.fst c.snd.snd (List.take (101 : Nat) es) x = (0 : Int) ∧
 errTo c.fst c.snd.fst c.snd.snd (List.take (101 : Nat) es) x = (0 : Int) ∧
 ((0 : Int) ≤ (↑x : Int) ∧
 (↑x : Int) < (↑(List.drop (↑(0 : Nat) : Int).toNat (List.take (min (↑es.length : Int) (101 : Int)).toNat es)).length : Int)) ∧
 Fits IntKind.i64 (c.fst * c.snd.fst) ∧
 Fits IntKind.i64 (c.fst * c.snd.fst - (1 : Int)) ∧
 True ∧
 ((!decide
 ((0 : Int) ≤
 ((List.drop (↑(0 : Nat) : Int).toNat (List.take (min (↑es.length : Int) (101 : Int)).toNat es)).getD (↑x : Int).toNat
 ((0 : Int), (0 : Int))).fst ∧
 ((List.drop (↑(0 : Nat) : Int).toNat (List.take (min (↑es.length : Int) (101 : Int)).toNat es)).getD (↑x : Int).toNat
 ((0 : Int), (0 : Int))).fst ≤
 c.fst * c.snd.fst - (1 : Int))) =
 true →
 (!decide
 ((0 : Int) ≤
 ((List.drop (↑(0 : Nat) : Int).toNat (List.take (min (↑es.length : Int) (101 : Int)).toNat es)).getD (↑x : Int).toNat
 ((0 : Int), (0 : Int))).fst ∧
 ((List.drop (↑(0 : Nat) : Int).toNat (List.take (min (↑es.length : Int) (101 : Int)).toNat es)).getD (↑x : Int).toNat
 ((0 : Int), (0 : Int))).fst ≤
 c.fst * c.snd.fst - (1 : Int))) =
 true ∧
 (!decide
 ((0 : Int) ≤
 ((List.drop (↑(0 : Nat) : Int).toNat (List.take (min (↑es.length : Int) (101 : Int)).toNat es)).getD
 (↑x : Int).toNat ((0 : Int), (0 : Int))).fst ∧
 ((List.drop (↑(0 : Nat) : Int).toNat (List.take (min (↑es.length : Int) (101 : Int)).toNat es)).getD (↑x : Int).toNat
 ((0 : Int), (0 : Int))).fst ≤
 c.fst * c.snd.fst - (1 : Int))) =
 true ∧
 Fits IntKind.i64 ((↑x : Int) + (1 : Int)) ∧
 ∃ (x' : Nat),
 x' ≤ (List.take (101 : Nat) es).length ∧
 (List.take (101 : Nat) es).length - x' < (List.take (101 : Nat) es).length - x ∧
 ((c.fst = c.fst ∧ c.snd.fst = c.snd.fst ∧ c.snd.snd = c.snd.snd ∧ True) ∧ True ∧ True) ∧
 (↑x : Int) + (1 : Int) = (↑x' : Int) ∧
 (2 : Int) = errTo c.fst c.snd.fst c.snd.snd (List.take (101 : Nat) es) x' ∧
 (serveF c.fst c.snd.fst c.snd.snd
 (List.drop (↑(0 : Nat) : Int).toNat (List.take (min (↑es.length : Int) (101 : Int)).toNat es))).snd =
 (serveF c.fst c.snd.fst c.snd.snd
 (List.drop (↑(0 : Nat) : Int).toNat (List.take (min (↑es.length : Int) (101 : Int)).toNat es))).snd ∧
 (serveF c.fst c.snd.fst c.snd.snd
 (List.drop (↑(0 : Nat) : Int).toNat (List.take (min (↑es.length : Int) (101 : Int)).toNat es))).fst =
 (serveF c.fst c.snd.fst c.snd.snd
 (List.drop (↑(0 : Nat) : Int).toNat (List.take (min (↑es.length : Int) (101 : Int)).toNat es))).fst ∧
 List.drop (↑(0 : Nat) : Int).toNat (List.take (min (↑es.length : Int) (101 : Int)).toNat es) =
 List.drop (↑(0 : Nat) : Int).toNat (List.take (min (↑es.length : Int) (101 : Int)).toNat es) ∧
 c.snd.snd = c.snd.snd ∧ c.snd.fst = c.snd.fst ∧ c.fst = c.fst ∧ True) ∧
 ((!decide
 ((0 : Int) ≤
 ((List.drop (↑(0 : Nat) : Int).toNat (List.take (min (↑es.length : Int) (101 : Int)).toNat es)).getD (↑x : Int).toNat
 ((0 : Int), (0 : Int))).fst ∧
 ((List.drop (↑(0 : Nat) : Int).toNat (List.take (min (↑es.length : Int) (101 : Int)).toNat es)).getD (↑x : Int).toNat
 ((0 : Int), (0 : Int))).fst ≤
 c.fst * c.snd.fst - (1 : Int))) =
 false →
 (!decide
 ((0 : Int) ≤
 ((List.drop (↑(0 : Nat) : Int).toNat (List.take (min (↑es.length : Int) (101 : Int)).toNat es)).getD (↑x : Int).toNat
 ((0 : Int), (0 : Int))).fst ∧
 ((List.drop (↑(0 : Nat) : Int).toNat (List.take (min (↑es.length : Int) (101 : Int)).toNat es)).getD (↑x : Int).toNat
 ((0 : Int), (0 : Int))).fst ≤
 c.fst * c.snd.fst - (1 : Int))) =
 false ∧
 (!decide
 ((0 : Int) ≤
 ((List.drop (↑(0 : Nat) : Int).toNat (List.take (min (↑es.length : Int) (101 : Int)).toNat es)).getD
 (↑x : Int).toNat ((0 : Int), (0 : Int))).fst ∧
 ((List.drop (↑(0 : Nat) : Int).toNat (List.take (min (↑es.length : Int) (101 : Int)).toNat es)).getD (↑x : Int).toNat
 ((0 : Int), (0 : Int))).fst ≤
 c.fst * c.snd.fst - (1 : Int))) =
 false ∧
 ((0 : Int) ≤ (↑x : Int) ∧
 (↑x : Int) <
 (↑(List.drop (↑(0 : Nat) : Int).toNat (List.take (min (↑es.length : Int) (101 : Int)).toNat es)).length : Int)) ∧
 Fits IntKind.i64 (c.fst * c.snd.fst) ∧
 Fits IntKind.i64 (c.fst * c.snd.fst - (1 : Int)) ∧
 True ∧
 ((!decide
 ((-1 : Int) ≤
 ((List.drop (↑(0 : Nat) : Int).toNat (List.take (min (↑es.length : Int) (101 : Int)).toNat es)).getD
 (↑x : Int).toNat ((0 : Int), (0 : Int))).snd ∧
 ((List.drop (↑(0 : Nat) : Int).toNat (List.take (min (↑es.length : Int) (101 : Int)).toNat es)).getD
 (↑x : Int).toNat ((0 : Int), (0 : Int))).snd ≤
 c.fst * c.snd.fst - (1 : Int))) =
 true →
 (!decide
 ((-1 : Int) ≤
 ((List.drop (↑(0 : Nat) : Int).toNat (List.take (min (↑es.length : Int) (101 : Int)).toNat es)).getD
 (↑x : Int).toNat ((0 : Int), (0 : Int))).snd ∧
 ((List.drop (↑(0 : Nat) : Int).toNat (List.take (min (↑es.length : Int) (101 : Int)).toNat es)).getD
 (↑x : Int).toNat ((0 : Int), (0 : Int))).snd ≤
 c.fst * c.snd.fst - (1 : Int))) =
 true ∧
 (!decide
 ((-1 : Int) ≤
 ((List.drop (↑(0 : Nat) : Int).toNat (List.take (min (↑es.length : Int) (101 : Int)).toNat es)).getD
 (↑x : Int).toNat ((0 : Int), (0 : Int))).snd ∧
 ((List.drop (↑(0 : Nat) : Int).toNat (List.take (min (↑es.length : Int) (101 : Int)).toNat es)).getD
 (↑x : Int).toNat ((0 : Int), (0 : Int))).snd ≤
 c.fst * c.snd.fst - (1 : Int))) =
 true ∧
 Fits IntKind.i64 ((↑x : Int) + (1 : Int)) ∧
 ∃ (x' : Nat),
 x' ≤ (List.take (101 : Nat) es).length ∧
 (List.take (101 : Nat) es).length - x' < (List.take (101 : Nat) es).length - x ∧
 ((c.fst = c.fst ∧ c.snd.fst = c.snd.fst ∧ c.snd.snd = c.snd.snd ∧ True) ∧ True ∧ True) ∧
 (↑x : Int) + (1 : Int) = (↑x' : Int) ∧
 (2 : Int) = errTo c.fst c.snd.fst c.snd.snd (List.take (101 : Nat) es) x' ∧
 (serveF c.fst c.snd.fst c.snd.snd
 (List.drop (↑(0 : Nat) : Int).toNat
 (List.take (min (↑es.length : Int) (101 : Int)).toNat es))).snd =
 (serveF c.fst c.snd.fst c.snd.snd
 (List.drop (↑(0 : Nat) : Int).toNat
 (List.take (min (↑es.length : Int) (101 : Int)).toNat es))).snd ∧
 (serveF c.fst c.snd.fst c.snd.snd
 (List.drop (↑(0 : Nat) : Int).toNat
 (List.take (min (↑es.length : Int) (101 : Int)).toNat es))).fst =
 (serveF c.fst c.snd.fst c.snd.snd
 (List.drop (↑(0 : Nat) : Int).toNat
 (List.take (min (↑es.length : Int) (101 : Int)).toNat es))).fst ∧
 List.drop (↑(0 : Nat) : Int).toNat
 (List.take (min (↑es.length : Int) (101 : Int)).toNat es) =
 List.drop (↑(0 : Nat) : Int).toNat
 (List.take (min (↑es.length : Int) (101 : Int)).toNat es) ∧
 c.snd.snd = c.snd.snd ∧ c.snd.fst = c.snd.fst ∧ c.fst = c.fst ∧ True) ∧
 ((!decide
 ((-1 : Int) ≤
 ((List.drop (↑(0 : Nat) : Int).toNat (List.take (min (↑es.length : Int) (101 : Int)).toNat es)).getD
 (↑x : Int).toNat ((0 : Int), (0 : Int))).snd ∧
 ((List.drop (↑(0 : Nat) : Int).toNat (List.take (min (↑es.length : Int) (101 : Int)).toNat es)).getD
 (↑x : Int).toNat ((0 : Int), (0 : Int))).snd ≤
 c.fst * c.snd.fst - (1 : Int))) =
 false →
 (!decide
 ((-1 : Int) ≤
 ((List.drop (↑(0 : Nat) : Int).toNat (List.take (min (↑es.length : Int) (101 : Int)).toNat es)).getD
 (↑x : Int).toNat ((0 : Int), (0 : Int))).snd ∧
 ((List.drop (↑(0 : Nat) : Int).toNat (List.take (min (↑es.length : Int) (101 : Int)).toNat es)).getD
 (↑x : Int).toNat ((0 : Int), (0 : Int))).snd ≤
 c.fst * c.snd.fst - (1 : Int))) =
 false ∧
 (!decide
 ((-1 : Int) ≤
 ((List.drop (↑(0 : Nat) : Int).toNat (List.take (min (↑es.length : Int) (101 : Int)).toNat es)).getD
 (↑x : Int).toNat ((0 : Int), (0 : Int))).snd ∧
 ((List.drop (↑(0 : Nat) : Int).toNat (List.take (min (↑es.length : Int) (101 : Int)).toNat es)).getD
 (↑x : Int).toNat ((0 : Int), (0 : Int))).snd ≤
 c.fst * c.snd.fst - (1 : Int))) =
 false ∧
 Fits IntKind.i64 ((↑x : Int) + (1 : Int)) ∧
 ∃ (x' : Nat),
 x' ≤ (List.take (101 : Nat) es).length ∧
 (List.take (101 : Nat) es).length - x' < (List.take (101 : Nat) es).length - x ∧
 ((c.fst = c.fst ∧ c.snd.fst = c.snd.fst ∧ c.snd.snd = c.snd.snd ∧ True) ∧ True ∧ True) ∧
 (↑x : Int) + (1 : Int) = (↑x' : Int) ∧
 errTo c.fst c.snd.fst c.snd.snd (List.take (101 : Nat) es) x =
 errTo c.fst c.snd.fst c.snd.snd (List.take (101 : Nat) es) x' ∧
 (serveF c.fst c.snd.fst c.snd.snd
 (List.drop (↑(0 : Nat) : Int).toNat
 (List.take (min (↑es.length : Int) (101 : Int)).toNat es))).snd =
 (serveF c.fst c.snd.fst c.snd.snd
 (List.drop (↑(0 : Nat) : Int).toNat
 (List.take (min (↑es.length : Int) (101 : Int)).toNat es))).snd ∧
 (serveF c.fst c.snd.fst c.snd.snd
 (List.drop (↑(0 : Nat) : Int).toNat
 (List.take (min (↑es.length : Int) (101 : Int)).toNat es))).fst =
 (serveF c.fst c.snd.fst c.snd.snd
 (List.drop (↑(0 : Nat) : Int).toNat
 (List.take (min (↑es.length : Int) (101 : Int)).toNat es))).fst ∧
 List.drop (↑(0 : Nat) : Int).toNat
 (List.take (min (↑es.length : Int) (101 : Int)).toNat es) =
 List.drop (↑(0 : Nat) : Int).toNat
 (List.take (min (↑es.length : Int) (101 : Int)).toNat es) ∧
 c.snd.snd = c.snd.snd ∧ c.snd.fst = c.snd.fst ∧ c.fst = c.fst ∧ True))) ∧
 (¬errTo c.fst c.snd.fst c.snd.snd (List.take (101 : Nat) es) x = (0 : Int) →
 ¬errTo c.fst c.snd.fst c.snd.snd (List.take (101 : Nat) es) x = (0 : Int) ∧
 ¬errTo c.fst c.snd.fst c.snd.snd (List.take (101 : Nat) es) x = (0 : Int) ∧
 ((100 : Int) < (↑(List.drop (↑(0 : Nat) : Int).toNat (List.take (min (↑es.length : Int) (101 : Int)).toNat es)).length : Int) →
 (100 : Int) < (↑(List.drop (↑(0 : Nat) : Int).toNat (List.take (min (↑es.length : Int) (101 : Int)).toNat es)).length : Int) ∧
 (¬(3 : Int) = (0 : Int) →
 ¬(3 : Int) = (0 : Int) ∧
 ((↑(serveF c.fst c.snd.fst c.snd.snd
 (List.drop (↑(0 : Nat) : Int).toNat (List.take (min (↑es.length : Int) (101 : Int)).toNat es))).fst.length :
 Int) =
 (0 : Int) →
 (↑(serveF c.fst c.snd.fst c.snd.snd
 (List.drop (↑(0 : Nat) : Int).toNat (List.take (min (↑es.length : Int) (101 : Int)).toNat es))).fst.length :
 Int) =
 (0 : Int) ∧
 (↑(serveF c.fst c.snd.fst c.snd.snd
 (List.drop (↑(0 : Nat) : Int).toNat (List.take (min (↑es.length : Int) (101 : Int)).toNat es))).fst.length :
 Int) =
 (0 : Int) ∧
 ((serveF c.fst c.snd.fst c.snd.snd
 (List.drop (↑(0 : Nat) : Int).toNat (List.take (min (↑es.length : Int) (101 : Int)).toNat es))).snd =
 (3 : Int) →
 (serveF c.fst c.snd.fst c.snd.snd
 (List.drop (↑(0 : Nat) : Int).toNat (List.take (min (↑es.length : Int) (101 : Int)).toNat es))).snd =
 (3 : Int) ∧
 (serveF c.fst c.snd.fst c.snd.snd
 (List.drop (↑(0 : Nat) : Int).toNat (List.take (min (↑es.length : Int) (101 : Int)).toNat es))).snd =
 (3 : Int) ∧
 (serveF c.fst c.snd.fst c.snd.snd
 (List.drop (↑(0 : Nat) : Int).toNat (List.take (min (↑es.length : Int) (101 : Int)).toNat es))).snd =
 (3 : Int) ∧
 True ∧ true = true) ∧
 (¬(serveF c.fst c.snd.fst c.snd.snd
 (List.drop (↑(0 : Nat) : Int).toNat (List.take (min (↑es.length : Int) (101 : Int)).toNat es))).snd =
 (3 : Int) →
 ¬(serveF c.fst c.snd.fst c.snd.snd
 (List.drop (↑(0 : Nat) : Int).toNat (List.take (min (↑es.length : Int) (101 : Int)).toNat es))).snd =
 (3 : Int) ∧
 ¬(serveF c.fst c.snd.fst c.snd.snd
 (List.drop (↑(0 : Nat) : Int).toNat (List.take (min (↑es.length : Int) (101 : Int)).toNat es))).snd =
 (3 : Int) ∧
 ¬(serveF c.fst c.snd.fst c.snd.snd
 (List.drop (↑(0 : Nat) : Int).toNat (List.take (min (↑es.length : Int) (101 : Int)).toNat es))).snd =
 (3 : Int) ∧
 false = true)) ∧
 (¬(↑(serveF c.fst c.snd.fst c.snd.snd
 (List.drop (↑(0 : Nat) : Int).toNat (List.take (min (↑es.length : Int) (101 : Int)).toNat es))).fst.length :
 Int) =
 (0 : Int) →
 ¬(↑(serveF c.fst c.snd.fst c.snd.snd
 (List.drop (↑(0 : Nat) : Int).toNat (List.take (min (↑es.length : Int) (101 : Int)).toNat es))).fst.length :
 Int) =
 (0 : Int) ∧
 ¬(↑(serveF c.fst c.snd.fst c.snd.snd
 (List.drop (↑(0 : Nat) : Int).toNat (List.take (min (↑es.length : Int) (101 : Int)).toNat es))).fst.length :
 Int) =
 (0 : Int) ∧
 false = true)) ∧
 (¬¬(3 : Int) = (0 : Int) →
 ¬¬(3 : Int) = (0 : Int) ∧
 ((((1 : Int) ≤ c.fst ∧ c.fst ≤ (12 : Int)) ∧ (1 : Int) ≤ c.snd.snd ∧ c.snd.snd ≤ (12 : Int)) ∧
 (List.drop (↑(0 : Nat) : Int).toNat (List.take (min (↑es.length : Int) (101 : Int)).toNat es)).length ≤ (1000 : Nat) ∧
 ∀ (c : Int × Int),
 c ∈ List.drop (↑(0 : Nat) : Int).toNat (List.take (min (↑es.length : Int) (101 : Int)).toNat es) →
 ((0 : Int) ≤ c.fst ∧ c.fst < (12 : Int)) ∧ (-1 : Int) ≤ c.snd ∧ c.snd < (12 : Int)) ∧
 ((serveF c.fst c.snd.fst c.snd.snd
 (List.drop (↑(0 : Nat) : Int).toNat (List.take (min (↑es.length : Int) (101 : Int)).toNat es))).fst.length ≤
 (1000 : Nat) ∧
 (ansTo c.fst c.snd.snd (List.drop (↑(0 : Nat) : Int).toNat (List.take (min (↑es.length : Int) (101 : Int)).toNat es))
 (List.drop (↑(0 : Nat) : Int).toNat (List.take (min (↑es.length : Int) (101 : Int)).toNat es)).length).length ≤
 (1000 : Nat)) ∧
 (decide
 ((serveF c.fst c.snd.fst c.snd.snd
 (List.drop (↑(0 : Nat) : Int).toNat (List.take (min (↑es.length : Int) (101 : Int)).toNat es))).fst =
 ansTo c.fst c.snd.snd (List.drop (↑(0 : Nat) : Int).toNat (List.take (min (↑es.length : Int) (101 : Int)).toNat es))
 (List.drop (↑(0 : Nat) : Int).toNat (List.take (min (↑es.length : Int) (101 : Int)).toNat es)).length) =
 true →
 decide
 ((serveF c.fst c.snd.fst c.snd.snd
 (List.drop (↑(0 : Nat) : Int).toNat (List.take (min (↑es.length : Int) (101 : Int)).toNat es))).fst =
 ansTo c.fst c.snd.snd
 (List.drop (↑(0 : Nat) : Int).toNat (List.take (min (↑es.length : Int) (101 : Int)).toNat es))
 (List.drop (↑(0 : Nat) : Int).toNat (List.take (min (↑es.length : Int) (101 : Int)).toNat es)).length) =
 true ∧
 decide
 ((serveF c.fst c.snd.fst c.snd.snd
 (List.drop (↑(0 : Nat) : Int).toNat (List.take (min (↑es.length : Int) (101 : Int)).toNat es))).fst =
 ansTo c.fst c.snd.snd
 (List.drop (↑(0 : Nat) : Int).toNat (List.take (min (↑es.length : Int) (101 : Int)).toNat es))
 (List.drop (↑(0 : Nat) : Int).toNat (List.take (min (↑es.length : Int) (101 : Int)).toNat es)).length) =
 true ∧
 ((serveF c.fst c.snd.fst c.snd.snd
 (List.drop (↑(0 : Nat) : Int).toNat (List.take (min (↑es.length : Int) (101 : Int)).toNat es))).snd =
 (0 : Int) →
 (serveF c.fst c.snd.fst c.snd.snd
 (List.drop (↑(0 : Nat) : Int).toNat (List.take (min (↑es.length : Int) (101 : Int)).toNat es))).snd =
 (0 : Int) ∧
 (serveF c.fst c.snd.fst c.snd.snd
 (List.drop (↑(0 : Nat) : Int).toNat (List.take (min (↑es.length : Int) (101 : Int)).toNat es))).snd =
 (0 : Int) ∧
 (serveF c.fst c.snd.fst c.snd.snd
 (List.drop (↑(0 : Nat) : Int).toNat (List.take (min (↑es.length : Int) (101 : Int)).toNat es))).snd =
 (0 : Int) ∧
 True ∧ true = true) ∧
 (¬(serveF c.fst c.snd.fst c.snd.snd
 (List.drop (↑(0 : Nat) : Int).toNat (List.take (min (↑es.length : Int) (101 : Int)).toNat es))).snd =
 (0 : Int) →
 ¬(serveF c.fst c.snd.fst c.snd.snd
 (List.drop (↑(0 : Nat) : Int).toNat (List.take (min (↑es.length : Int) (101 : Int)).toNat es))).snd =
 (0 : Int) ∧
 ¬(serveF c.fst c.snd.fst c.snd.snd
 (List.drop (↑(0 : Nat) : Int).toNat (List.take (min (↑es.length : Int) (101 : Int)).toNat es))).snd =
 (0 : Int) ∧
 ¬(serveF c.fst c.snd.fst c.snd.snd
 (List.drop (↑(0 : Nat) : Int).toNat
 (List.take (min (↑es.length : Int) (101 : Int)).toNat es))).snd =
 (0 : Int) ∧
 false = true)) ∧
 (decide
 ((serveF c.fst c.snd.fst c.snd.snd
 (List.drop (↑(0 : Nat) : Int).toNat (List.take (min (↑es.length : Int) (101 : Int)).toNat es))).fst =
 ansTo c.fst c.snd.snd (List.drop (↑(0 : Nat) : Int).toNat (List.take (min (↑es.length : Int) (101 : Int)).toNat es))
 (List.drop (↑(0 : Nat) : Int).toNat (List.take (min (↑es.length : Int) (101 : Int)).toNat es)).length) =
 false →
 decide
 ((serveF c.fst c.snd.fst c.snd.snd
 (List.drop (↑(0 : Nat) : Int).toNat (List.take (min (↑es.length : Int) (101 : Int)).toNat es))).fst =
 ansTo c.fst c.snd.snd
 (List.drop (↑(0 : Nat) : Int).toNat (List.take (min (↑es.length : Int) (101 : Int)).toNat es))
 (List.drop (↑(0 : Nat) : Int).toNat (List.take (min (↑es.length : Int) (101 : Int)).toNat es)).length) =
 false ∧
 decide
 ((serveF c.fst c.snd.fst c.snd.snd
 (List.drop (↑(0 : Nat) : Int).toNat (List.take (min (↑es.length : Int) (101 : Int)).toNat es))).fst =
 ansTo c.fst c.snd.snd
 (List.drop (↑(0 : Nat) : Int).toNat (List.take (min (↑es.length : Int) (101 : Int)).toNat es))
 (List.drop (↑(0 : Nat) : Int).toNat (List.take (min (↑es.length : Int) (101 : Int)).toNat es)).length) =
 false ∧
 false = true))) ∧
 (¬(100 : Int) < (↑(List.drop (↑(0 : Nat) : Int).toNat (List.take (min (↑es.length : Int) (101 : Int)).toNat es)).length : Int) →
 ¬(100 : Int) < (↑(List.drop (↑(0 : Nat) : Int).toNat (List.take (min (↑es.length : Int) (101 : Int)).toNat es)).length : Int) ∧
 (¬errTo c.fst c.snd.fst c.snd.snd (List.take (101 : Nat) es) x = (0 : Int) →
 ¬errTo c.fst c.snd.fst c.snd.snd (List.take (101 : Nat) es) x = (0 : Int) ∧
 ((↑(serveF c.fst c.snd.fst c.snd.snd
 (List.drop (↑(0 : Nat) : Int).toNat (List.take (min (↑es.length : Int) (101 : Int)).toNat es))).fst.length :
 Int) =
 (0 : Int) →
 (↑(serveF c.fst c.snd.fst c.snd.snd
 (List.drop (↑(0 : Nat) : Int).toNat (List.take (min (↑es.length : Int) (101 : Int)).toNat es))).fst.length :
 Int) =
 (0 : Int) ∧
 (↑(serveF c.fst c.snd.fst c.snd.snd
 (List.drop (↑(0 : Nat) : Int).toNat (List.take (min (↑es.length : Int) (101 : Int)).toNat es))).fst.length :
 Int) =
 (0 : Int) ∧
 ((serveF c.fst c.snd.fst c.snd.snd
 (List.drop (↑(0 : Nat) : Int).toNat (List.take (min (↑es.length : Int) (101 : Int)).toNat es))).snd =
 errTo c.fst c.snd.fst c.snd.snd (List.take (101 : Nat) es) x →
 (serveF c.fst c.snd.fst c.snd.snd
 (List.drop (↑(0 : Nat) : Int).toNat (List.take (min (↑es.length : Int) (101 : Int)).toNat es))).snd =
 errTo c.fst c.snd.fst c.snd.snd (List.take (101 : Nat) es) x ∧
 (serveF c.fst c.snd.fst c.snd.snd
 (List.drop (↑(0 : Nat) : Int).toNat (List.take (min (↑es.length : Int) (101 : Int)).toNat es))).snd =
 errTo c.fst c.snd.fst c.snd.snd (List.take (101 : Nat) es) x ∧
 (serveF c.fst c.snd.fst c.snd.snd
 (List.drop (↑(0 : Nat) : Int).toNat (List.take (min (↑es.length : Int) (101 : Int)).toNat es))).snd =
 errTo c.fst c.snd.fst c.snd.snd (List.take (101 : Nat) es) x ∧
 True ∧ true = true) ∧
 (¬(serveF c.fst c.snd.fst c.snd.snd
 (List.drop (↑(0 : Nat) : Int).toNat (List.take (min (↑es.length : Int) (101 : Int)).toNat es))).snd =
 errTo c.fst c.snd.fst c.snd.snd (List.take (101 : Nat) es) x →
 ¬(serveF c.fst c.snd.fst c.snd.snd
 (List.drop (↑(0 : Nat) : Int).toNat (List.take (min (↑es.length : Int) (101 : Int)).toNat es))).snd =
 errTo c.fst c.snd.fst c.snd.snd (List.take (101 : Nat) es) x ∧
 ¬(serveF c.fst c.snd.fst c.snd.snd
 (List.drop (↑(0 : Nat) : Int).toNat (List.take (min (↑es.length : Int) (101 : Int)).toNat es))).snd =
 errTo c.fst c.snd.fst c.snd.snd (List.take (101 : Nat) es) x ∧
 ¬(serveF c.fst c.snd.fst c.snd.snd
 (List.drop (↑(0 : Nat) : Int).toNat (List.take (min (↑es.length : Int) (101 : Int)).toNat es))).snd =
 errTo c.fst c.snd.fst c.snd.snd (List.take (101 : Nat) es) x ∧
 false = true)) ∧
 (¬(↑(serveF c.fst c.snd.fst c.snd.snd
 (List.drop (↑(0 : Nat) : Int).toNat (List.take (min (↑es.length : Int) (101 : Int)).toNat es))).fst.length :
 Int) =
 (0 : Int) →
 ¬(↑(serveF c.fst c.snd.fst c.snd.snd
 (List.drop (↑(0 : Nat) : Int).toNat (List.take (min (↑es.length : Int) (101 : Int)).toNat es))).fst.length :
 Int) =
 (0 : Int) ∧
 ¬(↑(serveF c.fst c.snd.fst c.snd.snd
 (List.drop (↑(0 : Nat) : Int).toNat (List.take (min (↑es.length : Int) (101 : Int)).toNat es))).fst.length :
 Int) =
 (0 : Int) ∧
 false = true)) ∧
 (¬¬errTo c.fst c.snd.fst c.snd.snd (List.take (101 : Nat) es) x = (0 : Int) →
 ¬¬errTo c.fst c.snd.fst c.snd.snd (List.take (101 : Nat) es) x = (0 : Int) ∧
 ((((1 : Int) ≤ c.fst ∧ c.fst ≤ (12 : Int)) ∧ (1 : Int) ≤ c.snd.snd ∧ c.snd.snd ≤ (12 : Int)) ∧
 (List.drop (↑(0 : Nat) : Int).toNat (List.take (min (↑es.length : Int) (101 : Int)).toNat es)).length ≤ (1000 : Nat) ∧
 ∀ (c : Int × Int),
 c ∈ List.drop (↑(0 : Nat) : Int).toNat (List.take (min (↑es.length : Int) (101 : Int)).toNat es) →
 ((0 : Int) ≤ c.fst ∧ c.fst < (12 : Int)) ∧ (-1 : Int) ≤ c.snd ∧ c.snd < (12 : Int)) ∧
 ((serveF c.fst c.snd.fst c.snd.snd
 (List.drop (↑(0 : Nat) : Int).toNat (List.take (min (↑es.length : Int) (101 : Int)).toNat es))).fst.length ≤
 (1000 : Nat) ∧
 (ansTo c.fst c.snd.snd (List.drop (↑(0 : Nat) : Int).toNat (List.take (min (↑es.length : Int) (101 : Int)).toNat es))
 (List.drop (↑(0 : Nat) : Int).toNat (List.take (min (↑es.length : Int) (101 : Int)).toNat es)).length).length ≤
 (1000 : Nat)) ∧
 (decide
 ((serveF c.fst c.snd.fst c.snd.snd
 (List.drop (↑(0 : Nat) : Int).toNat (List.take (min (↑es.length : Int) (101 : Int)).toNat es))).fst =
 ansTo c.fst c.snd.snd (List.drop (↑(0 : Nat) : Int).toNat (List.take (min (↑es.length : Int) (101 : Int)).toNat es))
 (List.drop (↑(0 : Nat) : Int).toNat (List.take (min (↑es.length : Int) (101 : Int)).toNat es)).length) =
 true →
 decide
 ((serveF c.fst c.snd.fst c.snd.snd
 (List.drop (↑(0 : Nat) : Int).toNat (List.take (min (↑es.length : Int) (101 : Int)).toNat es))).fst =
 ansTo c.fst c.snd.snd
 (List.drop (↑(0 : Nat) : Int).toNat (List.take (min (↑es.length : Int) (101 : Int)).toNat es))
 (List.drop (↑(0 : Nat) : Int).toNat (List.take (min (↑es.length : Int) (101 : Int)).toNat es)).length) =
 true ∧
 decide
 ((serveF c.fst c.snd.fst c.snd.snd
 (List.drop (↑(0 : Nat) : Int).toNat (List.take (min (↑es.length : Int) (101 : Int)).toNat es))).fst =
 ansTo c.fst c.snd.snd
 (List.drop (↑(0 : Nat) : Int).toNat (List.take (min (↑es.length : Int) (101 : Int)).toNat es))
 (List.drop (↑(0 : Nat) : Int).toNat (List.take (min (↑es.length : Int) (101 : Int)).toNat es)).length) =
 true ∧
 ((serveF c.fst c.snd.fst c.snd.snd
 (List.drop (↑(0 : Nat) : Int).toNat (List.take (min (↑es.length : Int) (101 : Int)).toNat es))).snd =
 (0 : Int) →
 (serveF c.fst c.snd.fst c.snd.snd
 (List.drop (↑(0 : Nat) : Int).toNat (List.take (min (↑es.length : Int) (101 : Int)).toNat es))).snd =
 (0 : Int) ∧
 (serveF c.fst c.snd.fst c.snd.snd
 (List.drop (↑(0 : Nat) : Int).toNat (List.take (min (↑es.length : Int) (101 : Int)).toNat es))).snd =
 (0 : Int) ∧
 (serveF c.fst c.snd.fst c.snd.snd
 (List.drop (↑(0 : Nat) : Int).toNat (List.take (min (↑es.length : Int) (101 : Int)).toNat es))).snd =
 (0 : Int) ∧
 True ∧ true = true) ∧
 (¬(serveF c.fst c.snd.fst c.snd.snd
 (List.drop (↑(0 : Nat) : Int).toNat (List.take (min (↑es.length : Int) (101 : Int)).toNat es))).snd =
 (0 : Int) →
 ¬(serveF c.fst c.snd.fst c.snd.snd
 (List.drop (↑(0 : Nat) : Int).toNat (List.take (min (↑es.length : Int) (101 : Int)).toNat es))).snd =
 (0 : Int) ∧
 ¬(serveF c.fst c.snd.fst c.snd.snd
 (List.drop (↑(0 : Nat) : Int).toNat (List.take (min (↑es.length : Int) (101 : Int)).toNat es))).snd =
 (0 : Int) ∧
 ¬(serveF c.fst c.snd.fst c.snd.snd
 (List.drop (↑(0 : Nat) : Int).toNat
 (List.take (min (↑es.length : Int) (101 : Int)).toNat es))).snd =
 (0 : Int) ∧
 false = true)) ∧
 (decide
 ((serveF c.fst c.snd.fst c.snd.snd
 (List.drop (↑(0 : Nat) : Int).toNat (List.take (min (↑es.length : Int) (101 : Int)).toNat es))).fst =
 ansTo c.fst c.snd.snd (List.drop (↑(0 : Nat) : Int).toNat (List.take (min (↑es.length : Int) (101 : Int)).toNat es))
 (List.drop (↑(0 : Nat) : Int).toNat (List.take (min (↑es.length : Int) (101 : Int)).toNat es)).length) =
 false →
 decide
 ((serveF c.fst c.snd.fst c.snd.snd
 (List.drop (↑(0 : Nat) : Int).toNat (List.take (min (↑es.length : Int) (101 : Int)).toNat es))).fst =
 ansTo c.fst c.snd.snd
 (List.drop (↑(0 : Nat) : Int).toNat (List.take (min (↑es.length : Int) (101 : Int)).toNat es))
 (List.drop (↑(0 : Nat) : Int).toNat (List.take (min (↑es.length : Int) (101 : Int)).toNat es)).length) =
 false ∧
 decide
 ((serveF c.fst c.snd.fst c.snd.snd
 (List.drop (↑(0 : Nat) : Int).toNat (List.take (min (↑es.length : Int) (101 : Int)).toNat es))).fst =
 ansTo c.fst c.snd.snd
 (List.drop (↑(0 : Nat) : Int).toNat (List.take (min (↑es.length : Int) (101 : Int)).toNat es))
 (List.drop (↑(0 : Nat) : Int).toNat (List.take (min (↑es.length : Int) (101 : Int)).toNat es)).length) =
 false ∧
 false = true))))) ∧
 (¬(↑x : Int) < (↑(List.drop (↑(0 : Nat) : Int).toNat (List.take (min (↑es.length : Int) (101 : Int)).toNat es)).length : Int) →
 ¬(↑x : Int) < (↑(List.drop (↑(0 : Nat) : Int).toNat (List.take (min (↑es.length : Int) (101 : Int)).toNat es)).length : Int) ∧
 ¬(↑x : Int) < (↑(List.drop (↑(0 : Nat) : Int).toNat (List.take (min (↑es.length : Int) (101 : Int)).toNat es)).length : Int) ∧
 ((100 : Int) < (↑(List.drop (↑(0 : Nat) : Int).toNat (List.take (min (↑es.length : Int) (101 : Int)).toNat es)).length : Int) →
 (100 : Int) < (↑(List.drop (↑(0 : Nat) : Int).toNat (List.take (min (↑es.length : Int) (101 : Int)).toNat es)).length : Int) ∧
 (¬(3 : Int) = (0 : Int) →
 ¬(3 : Int) = (0 : Int) ∧
 ((↑(serveF c.fst c.snd.fst c.snd.snd
 (List.drop (↑(0 : Nat) : Int).toNat (List.take (min (↑es.length : Int) (101 : Int)).toNat es))).fst.length :
 Int) =
 (0 : Int) →
 (↑(serveF c.fst c.snd.fst c.snd.snd
 (List.drop (↑(0 : Nat) : Int).toNat (List.take (min (↑es.length : Int) (101 : Int)).toNat es))).fst.length :
 Int) =
 (0 : Int) ∧
 (↑(serveF c.fst c.snd.fst c.snd.snd
 (List.drop (↑(0 : Nat) : Int).toNat (List.take (min (↑es.length : Int) (101 : Int)).toNat es))).fst.length :
 Int) =
 (0 : Int) ∧
 ((serveF c.fst c.snd.fst c.snd.snd
 (List.drop (↑(0 : Nat) : Int).toNat (List.take (min (↑es.length : Int) (101 : Int)).toNat es))).snd =
 (3 : Int) →
 (serveF c.fst c.snd.fst c.snd.snd
 (List.drop (↑(0 : Nat) : Int).toNat (List.take (min (↑es.length : Int) (101 : Int)).toNat es))).snd =
 (3 : Int) ∧
 (serveF c.fst c.snd.fst c.snd.snd
 (List.drop (↑(0 : Nat) : Int).toNat (List.take (min (↑es.length : Int) (101 : Int)).toNat es))).snd =
 (3 : Int) ∧
 (serveF c.fst c.snd.fst c.snd.snd
 (List.drop (↑(0 : Nat) : Int).toNat (List.take (min (↑es.length : Int) (101 : Int)).toNat es))).snd =
 (3 : Int) ∧
 True ∧ true = true) ∧
 (¬(serveF c.fst c.snd.fst c.snd.snd
 (List.drop (↑(0 : Nat) : Int).toNat (List.take (min (↑es.length : Int) (101 : Int)).toNat es))).snd =
 (3 : Int) →
 ¬(serveF c.fst c.snd.fst c.snd.snd
 (List.drop (↑(0 : Nat) : Int).toNat (List.take (min (↑es.length : Int) (101 : Int)).toNat es))).snd =
 (3 : Int) ∧
 ¬(serveF c.fst c.snd.fst c.snd.snd
 (List.drop (↑(0 : Nat) : Int).toNat (List.take (min (↑es.length : Int) (101 : Int)).toNat es))).snd =
 (3 : Int) ∧
 ¬(serveF c.fst c.snd.fst c.snd.snd
 (List.drop (↑(0 : Nat) : Int).toNat (List.take (min (↑es.length : Int) (101 : Int)).toNat es))).snd =
 (3 : Int) ∧
 false = true)) ∧
 (¬(↑(serveF c.fst c.snd.fst c.snd.snd
 (List.drop (↑(0 : Nat) : Int).toNat (List.take (min (↑es.length : Int) (101 : Int)).toNat es))).fst.length :
 Int) =
 (0 : Int) →
 ¬(↑(serveF c.fst c.snd.fst c.snd.snd
 (List.drop (↑(0 : Nat) : Int).toNat (List.take (min (↑es.length : Int) (101 : Int)).toNat es))).fst.length :
 Int) =
 (0 : Int) ∧
 ¬(↑(serveF c.fst c.snd.fst c.snd.snd
 (List.drop (↑(0 : Nat) : Int).toNat (List.take (min (↑es.length : Int) (101 : Int)).toNat es))).fst.length :
 Int) =
 (0 : Int) ∧
 false = true)) ∧
 (¬¬(3 : Int) = (0 : Int) →
 ¬¬(3 : Int) = (0 : Int) ∧
 ((((1 : Int) ≤ c.fst ∧ c.fst ≤ (12 : Int)) ∧ (1 : Int) ≤ c.snd.snd ∧ c.snd.snd ≤ (12 : Int)) ∧
 (List.drop (↑(0 : Nat) : Int).toNat (List.take (min (↑es.length : Int) (101 : Int)).toNat es)).length ≤ (1000 : Nat) ∧
 ∀ (c : Int × Int),
 c ∈ List.drop (↑(0 : Nat) : Int).toNat (List.take (min (↑es.length : Int) (101 : Int)).toNat es) →
 ((0 : Int) ≤ c.fst ∧ c.fst < (12 : Int)) ∧ (-1 : Int) ≤ c.snd ∧ c.snd < (12 : Int)) ∧
 ((serveF c.fst c.snd.fst c.snd.snd
 (List.drop (↑(0 : Nat) : Int).toNat (List.take (min (↑es.length : Int) (101 : Int)).toNat es))).fst.length ≤
 (1000 : Nat) ∧
 (ansTo c.fst c.snd.snd (List.drop (↑(0 : Nat) : Int).toNat (List.take (min (↑es.length : Int) (101 : Int)).toNat es))
 (List.drop (↑(0 : Nat) : Int).toNat (List.take (min (↑es.length : Int) (101 : Int)).toNat es)).length).length ≤
 (1000 : Nat)) ∧
 (decide
 ((serveF c.fst c.snd.fst c.snd.snd
 (List.drop (↑(0 : Nat) : Int).toNat (List.take (min (↑es.length : Int) (101 : Int)).toNat es))).fst =
 ansTo c.fst c.snd.snd (List.drop (↑(0 : Nat) : Int).toNat (List.take (min (↑es.length : Int) (101 : Int)).toNat es))
 (List.drop (↑(0 : Nat) : Int).toNat (List.take (min (↑es.length : Int) (101 : Int)).toNat es)).length) =
 true →
 decide
 ((serveF c.fst c.snd.fst c.snd.snd
 (List.drop (↑(0 : Nat) : Int).toNat (List.take (min (↑es.length : Int) (101 : Int)).toNat es))).fst =
 ansTo c.fst c.snd.snd (List.drop (↑(0 : Nat) : Int).toNat (List.take (min (↑es.length : Int) (101 : Int)).toNat es))
 (List.drop (↑(0 : Nat) : Int).toNat (List.take (min (↑es.length : Int) (101 : Int)).toNat es)).length) =
 true ∧
 decide
 ((serveF c.fst c.snd.fst c.snd.snd
 (List.drop (↑(0 : Nat) : Int).toNat (List.take (min (↑es.length : Int) (101 : Int)).toNat es))).fst =
 ansTo c.fst c.snd.snd (List.drop (↑(0 : Nat) : Int).toNat (List.take (min (↑es.length : Int) (101 : Int)).toNat es))
 (List.drop (↑(0 : Nat) : Int).toNat (List.take (min (↑es.length : Int) (101 : Int)).toNat es)).length) =
 true ∧
 ((serveF c.fst c.snd.fst c.snd.snd
 (List.drop (↑(0 : Nat) : Int).toNat (List.take (min (↑es.length : Int) (101 : Int)).toNat es))).snd =
 (0 : Int) →
 (serveF c.fst c.snd.fst c.snd.snd
 (List.drop (↑(0 : Nat) : Int).toNat (List.take (min (↑es.length : Int) (101 : Int)).toNat es))).snd =
 (0 : Int) ∧
 (serveF c.fst c.snd.fst c.snd.snd
 (List.drop (↑(0 : Nat) : Int).toNat (List.take (min (↑es.length : Int) (101 : Int)).toNat es))).snd =
 (0 : Int) ∧
 (serveF c.fst c.snd.fst c.snd.snd
 (List.drop (↑(0 : Nat) : Int).toNat (List.take (min (↑es.length : Int) (101 : Int)).toNat es))).snd =
 (0 : Int) ∧
 True ∧ true = true) ∧
 (¬(serveF c.fst c.snd.fst c.snd.snd
 (List.drop (↑(0 : Nat) : Int).toNat (List.take (min (↑es.length : Int) (101 : Int)).toNat es))).snd =
 (0 : Int) →
 ¬(serveF c.fst c.snd.fst c.snd.snd
 (List.drop (↑(0 : Nat) : Int).toNat (List.take (min (↑es.length : Int) (101 : Int)).toNat es))).snd =
 (0 : Int) ∧
 ¬(serveF c.fst c.snd.fst c.snd.snd
 (List.drop (↑(0 : Nat) : Int).toNat (List.take (min (↑es.length : Int) (101 : Int)).toNat es))).snd =
 (0 : Int) ∧
 ¬(serveF c.fst c.snd.fst c.snd.snd
 (List.drop (↑(0 : Nat) : Int).toNat (List.take (min (↑es.length : Int) (101 : Int)).toNat es))).snd =
 (0 : Int) ∧
 false = true)) ∧
 (decide
 ((serveF c.fst c.snd.fst c.snd.snd
 (List.drop (↑(0 : Nat) : Int).toNat (List.take (min (↑es.length : Int) (101 : Int)).toNat es))).fst =
 ansTo c.fst c.snd.snd (List.drop (↑(0 : Nat) : Int).toNat (List.take (min (↑es.length : Int) (101 : Int)).toNat es))
 (List.drop (↑(0 : Nat) : Int).toNat (List.take (min (↑es.length : Int) (101 : Int)).toNat es)).length) =
 false →
 decide
 ((serveF c.fst c.snd.fst c.snd.snd
 (List.drop (↑(0 : Nat) : Int).toNat (List.take (min (↑es.length : Int) (101 : Int)).toNat es))).fst =
 ansTo c.fst c.snd.snd (List.drop (↑(0 : Nat) : Int).toNat (List.take (min (↑es.length : Int) (101 : Int)).toNat es))
 (List.drop (↑(0 : Nat) : Int).toNat (List.take (min (↑es.length : Int) (101 : Int)).toNat es)).length) =
 false ∧
 decide
 ((serveF c.fst c.snd.fst c.snd.snd
 (List.drop (↑(0 : Nat) : Int).toNat (List.take (min (↑es.length : Int) (101 : Int)).toNat es))).fst =
 ansTo c.fst c.snd.snd (List.drop (↑(0 : Nat) : Int).toNat (List.take (min (↑es.length : Int) (101 : Int)).toNat es))
 (List.drop (↑(0 : Nat) : Int).toNat (List.take (min (↑es.length : Int) (101 : Int)).toNat es)).length) =
 false ∧
 false = true))) ∧
 (¬(100 : Int) < (↑(List.drop (↑(0 : Nat) : Int).toNat (List.take (min (↑es.length : Int) (101 : Int)).toNat es)).length : Int) →
 ¬(100 : Int) < (↑(List.drop (↑(0 : Nat) : Int).toNat (List.take (min (↑es.length : Int) (101 : Int)).toNat es)).length : Int) ∧
 (¬errTo c.fst c.snd.fst c.snd.snd (List.take (101 : Nat) es) x = (0 : Int) →
 ¬errTo c.fst c.snd.fst c.snd.snd (List.take (101 : Nat) es) x = (0 : Int) ∧
 ((↑(serveF c.fst c.snd.fst c.snd.snd
 (List.drop (↑(0 : Nat) : Int).toNat (List.take (min (↑es.length : Int) (101 : Int)).toNat es))).fst.length :
 Int) =
 (0 : Int) →
 (↑(serveF c.fst c.snd.fst c.snd.snd
 (List.drop (↑(0 : Nat) : Int).toNat (List.take (min (↑es.length : Int) (101 : Int)).toNat es))).fst.length :
 Int) =
 (0 : Int) ∧
 (↑(serveF c.fst c.snd.fst c.snd.snd
 (List.drop (↑(0 : Nat) : Int).toNat (List.take (min (↑es.length : Int) (101 : Int)).toNat es))).fst.length :
 Int) =
 (0 : Int) ∧
 ((serveF c.fst c.snd.fst c.snd.snd
 (List.drop (↑(0 : Nat) : Int).toNat (List.take (min (↑es.length : Int) (101 : Int)).toNat es))).snd =
 errTo c.fst c.snd.fst c.snd.snd (List.take (101 : Nat) es) x →
 (serveF c.fst c.snd.fst c.snd.snd
 (List.drop (↑(0 : Nat) : Int).toNat (List.take (min (↑es.length : Int) (101 : Int)).toNat es))).snd =
 errTo c.fst c.snd.fst c.snd.snd (List.take (101 : Nat) es) x ∧
 (serveF c.fst c.snd.fst c.snd.snd
 (List.drop (↑(0 : Nat) : Int).toNat (List.take (min (↑es.length : Int) (101 : Int)).toNat es))).snd =
 errTo c.fst c.snd.fst c.snd.snd (List.take (101 : Nat) es) x ∧
 (serveF c.fst c.snd.fst c.snd.snd
 (List.drop (↑(0 : Nat) : Int).toNat (List.take (min (↑es.length : Int) (101 : Int)).toNat es))).snd =
 errTo c.fst c.snd.fst c.snd.snd (List.take (101 : Nat) es) x ∧
 True ∧ true = true) ∧
 (¬(serveF c.fst c.snd.fst c.snd.snd
 (List.drop (↑(0 : Nat) : Int).toNat (List.take (min (↑es.length : Int) (101 : Int)).toNat es))).snd =
 errTo c.fst c.snd.fst c.snd.snd (List.take (101 : Nat) es) x →
 ¬(serveF c.fst c.snd.fst c.snd.snd
 (List.drop (↑(0 : Nat) : Int).toNat (List.take (min (↑es.length : Int) (101 : Int)).toNat es))).snd =
 errTo c.fst c.snd.fst c.snd.snd (List.take (101 : Nat) es) x ∧
 ¬(serveF c.fst c.snd.fst c.snd.snd
 (List.drop (↑(0 : Nat) : Int).toNat (List.take (min (↑es.length : Int) (101 : Int)).toNat es))).snd =
 errTo c.fst c.snd.fst c.snd.snd (List.take (101 : Nat) es) x ∧
 ¬(serveF c.fst c.snd.fst c.snd.snd
 (List.drop (↑(0 : Nat) : Int).toNat (List.take (min (↑es.length : Int) (101 : Int)).toNat es))).snd =
 errTo c.fst c.snd.fst c.snd.snd (List.take (101 : Nat) es) x ∧
 false = true)) ∧
 (¬(↑(serveF c.fst c.snd.fst c.snd.snd
 (List.drop (↑(0 : Nat) : Int).toNat (List.take (min (↑es.length : Int) (101 : Int)).toNat es))).fst.length :
 Int) =
 (0 : Int) →
 ¬(↑(serveF c.fst c.snd.fst c.snd.snd
 (List.drop (↑(0 : Nat) : Int).toNat (List.take (min (↑es.length : Int) (101 : Int)).toNat es))).fst.length :
 Int) =
 (0 : Int) ∧
 ¬(↑(serveF c.fst c.snd.fst c.snd.snd
 (List.drop (↑(0 : Nat) : Int).toNat (List.take (min (↑es.length : Int) (101 : Int)).toNat es))).fst.length :
 Int) =
 (0 : Int) ∧
 false = true)) ∧
 (¬¬errTo c.fst c.snd.fst c.snd.snd (List.take (101 : Nat) es) x = (0 : Int) →
 ¬¬errTo c.fst c.snd.fst c.snd.snd (List.take (101 : Nat) es) x = (0 : Int) ∧
 ((((1 : Int) ≤ c.fst ∧ c.fst ≤ (12 : Int)) ∧ (1 : Int) ≤ c.snd.snd ∧ c.snd.snd ≤ (12 : Int)) ∧
 (List.drop (↑(0 : Nat) : Int).toNat (List.take (min (↑es.length : Int) (101 : Int)).toNat es)).length ≤ (1000 : Nat) ∧
 ∀ (c : Int × Int),
 c ∈ List.drop (↑(0 : Nat) : Int).toNat (List.take (min (↑es.length : Int) (101 : Int)).toNat es) →
 ((0 : Int) ≤ c.fst ∧ c.fst < (12 : Int)) ∧ (-1 : Int) ≤ c.snd ∧ c.snd < (12 : Int)) ∧
 ((serveF c.fst c.snd.fst c.snd.snd
 (List.drop (↑(0 : Nat) : Int).toNat (List.take (min (↑es.length : Int) (101 : Int)).toNat es))).fst.length ≤
 (1000 : Nat) ∧
 (ansTo c.fst c.snd.snd (List.drop (↑(0 : Nat) : Int).toNat (List.take (min (↑es.length : Int) (101 : Int)).toNat es))
 (List.drop (↑(0 : Nat) : Int).toNat (List.take (min (↑es.length : Int) (101 : Int)).toNat es)).length).length ≤
 (1000 : Nat)) ∧
 (decide
 ((serveF c.fst c.snd.fst c.snd.snd
 (List.drop (↑(0 : Nat) : Int).toNat (List.take (min (↑es.length : Int) (101 : Int)).toNat es))).fst =
 ansTo c.fst c.snd.snd (List.drop (↑(0 : Nat) : Int).toNat (List.take (min (↑es.length : Int) (101 : Int)).toNat es))
 (List.drop (↑(0 : Nat) : Int).toNat (List.take (min (↑es.length : Int) (101 : Int)).toNat es)).length) =
 true →
 decide
 ((serveF c.fst c.snd.fst c.snd.snd
 (List.drop (↑(0 : Nat) : Int).toNat (List.take (min (↑es.length : Int) (101 : Int)).toNat es))).fst =
 ansTo c.fst c.snd.snd (List.drop (↑(0 : Nat) : Int).toNat (List.take (min (↑es.length : Int) (101 : Int)).toNat es))
 (List.drop (↑(0 : Nat) : Int).toNat (List.take (min (↑es.length : Int) (101 : Int)).toNat es)).length) =
 true ∧
 decide
 ((serveF c.fst c.snd.fst c.snd.snd
 (List.drop (↑(0 : Nat) : Int).toNat (List.take (min (↑es.length : Int) (101 : Int)).toNat es))).fst =
 ansTo c.fst c.snd.snd (List.drop (↑(0 : Nat) : Int).toNat (List.take (min (↑es.length : Int) (101 : Int)).toNat es))
 (List.drop (↑(0 : Nat) : Int).toNat (List.take (min (↑es.length : Int) (101 : Int)).toNat es)).length) =
 true ∧
 ((serveF c.fst c.snd.fst c.snd.snd
 (List.drop (↑(0 : Nat) : Int).toNat (List.take (min (↑es.length : Int) (101 : Int)).toNat es))).snd =
 (0 : Int) →
 (serveF c.fst c.snd.fst c.snd.snd
 (List.drop (↑(0 : Nat) : Int).toNat (List.take (min (↑es.length : Int) (101 : Int)).toNat es))).snd =
 (0 : Int) ∧
 (serveF c.fst c.snd.fst c.snd.snd
 (List.drop (↑(0 : Nat) : Int).toNat (List.take (min (↑es.length : Int) (101 : Int)).toNat es))).snd =
 (0 : Int) ∧
 (serveF c.fst c.snd.fst c.snd.snd
 (List.drop (↑(0 : Nat) : Int).toNat (List.take (min (↑es.length : Int) (101 : Int)).toNat es))).snd =
 (0 : Int) ∧
 True ∧ true = true) ∧
 (¬(serveF c.fst c.snd.fst c.snd.snd
 (List.drop (↑(0 : Nat) : Int).toNat (List.take (min (↑es.length : Int) (101 : Int)).toNat es))).snd =
 (0 : Int) →
 ¬(serveF c.fst c.snd.fst c.snd.snd
 (List.drop (↑(0 : Nat) : Int).toNat (List.take (min (↑es.length : Int) (101 : Int)).toNat es))).snd =
 (0 : Int) ∧
 ¬(serveF c.fst c.snd.fst c.snd.snd
 (List.drop (↑(0 : Nat) : Int).toNat (List.take (min (↑es.length : Int) (101 : Int)).toNat es))).snd =
 (0 : Int) ∧
 ¬(serveF c.fst c.snd.fst c.snd.snd
 (List.drop (↑(0 : Nat) : Int).toNat (List.take (min (↑es.length : Int) (101 : Int)).toNat es))).snd =
 (0 : Int) ∧
 false = true)) ∧
 (decide
 ((serveF c.fst c.snd.fst c.snd.snd
 (List.drop (↑(0 : Nat) : Int).toNat (List.take (min (↑es.length : Int) (101 : Int)).toNat es))).fst =
 ansTo c.fst c.snd.snd (List.drop (↑(0 : Nat) : Int).toNat (List.take (min (↑es.length : Int) (101 : Int)).toNat es))
 (List.drop (↑(0 : Nat) : Int).toNat (List.take (min (↑es.length : Int) (101 : Int)).toNat es)).length) =
 false →
 decide
 ((serveF c.fst c.snd.fst c.snd.snd
 (List.drop (↑(0 : Nat) : Int).toNat (List.take (min (↑es.length : Int) (101 : Int)).toNat es))).fst =
 ansTo c.fst c.snd.snd (List.drop (↑(0 : Nat) : Int).toNat (List.take (min (↑es.length : Int) (101 : Int)).toNat es))
 (List.drop (↑(0 : Nat) : Int).toNat (List.take (min (↑es.length : Int) (101 : Int)).toNat es)).length) =
 false ∧
 decide
 ((serveF c.fst c.snd.fst c.snd.snd
 (List.drop (↑(0 : Nat) : Int).toNat (List.take (min (↑es.length : Int) (101 : Int)).toNat es))).fst =
 ansTo c.fst c.snd.snd (List.drop (↑(0 : Nat) : Int).toNat (List.take (min (↑es.length : Int) (101 : Int)).toNat es))
 (List.drop (↑(0 : Nat) : Int).toNat (List.take (min (↑es.length : Int) (101 : Int)).toNat es)).length) =
 false ∧
 false = true))))) ∧
 ((!decide (ClosP c.fst c.snd.fst c.snd.snd)) = false →
 (!decide (ClosP c.fst c.snd.fst c.snd.snd)) = false ∧
 (∃ (x0 : Nat),
 x0 ≤ (List.take (101 : Nat) es).length ∧
 ((c.fst = c.fst ∧ c.snd.fst = c.snd.fst ∧ c.snd.snd = c.snd.snd ∧ True) ∧ True ∧ True) ∧
 (0 : Int) = (↑x0 : Int) ∧
 (0 : Int) = errTo c.fst c.snd.fst c.snd.snd (List.take (101 : Nat) es) x0 ∧
 (serveF c.fst c.snd.fst c.snd.snd (List.drop (↑(0 : Nat) : Int).toNat (List.take (min (↑es.length : Int) (101 : Int)).toNat es))).snd =
 (serveF c.fst c.snd.fst c.snd.snd (List.drop (↑(0 : Nat) : Int).toNat (List.take (min (↑es.length : Int) (101 : Int)).toNat es))).snd ∧
 (serveF c.fst c.snd.fst c.snd.snd (List.drop (↑(0 : Nat) : Int).toNat (List.take (min (↑es.length : Int) (101 : Int)).toNat es))).fst =
 (serveF c.fst c.snd.fst c.snd.snd (List.drop (↑(0 : Nat) : Int).toNat (List.take (min (↑es.length : Int) (101 : Int)).toNat es))).fst ∧
 List.drop (↑(0 : Nat) : Int).toNat (List.take (min (↑es.length : Int) (101 : Int)).toNat es) =
 List.drop (↑(0 : Nat) : Int).toNat (List.take (min (↑es.length : Int) (101 : Int)).toNat es) ∧
 c.snd.snd = c.snd.snd ∧ c.snd.fst = c.snd.fst ∧ c.fst = c.fst ∧ True) ∧
 ∀ (x : Nat),
 x ≤ (List.take (101 : Nat) es).length →
 ((↑x : Int) < (↑(List.drop (↑(0 : Nat) : Int).toNat (List.take (min (↑es.length : Int) (101 : Int)).toNat es)).length : Int) →
 (↑x : Int) < (↑(List.drop (↑(0 : Nat) : Int).toNat (List.take (min (↑es.length : Int) (101 : Int)).toNat es)).length : Int) ∧
 (↑x : Int) < (↑(List.drop (↑(0 : Nat) : Int).toNat (List.take (min (↑es.length : Int) (101 : Int)).toNat es)).length : Int) ∧
 (errTo c.fst c.snd.fst c.snd.snd (List.take (101 : Nat) es) x = (0 : Int) →
 errTo c.fst c.snd.fst c.snd.snd (List.take (101 : Nat) es) x = (0 : Int) ∧
 errTo c.fst c.snd.fst c.snd.snd (List.take (101 : Nat) es) x = (0 : Int) ∧
 ((0 : Int) ≤ (↑x : Int) ∧
 (↑x : Int) < (↑(List.drop (↑(0 : Nat) : Int).toNat (List.take (min (↑es.length : Int) (101 : Int)).toNat es)).length : Int)) ∧
 Fits IntKind.i64 (c.fst * c.snd.fst) ∧
 Fits IntKind.i64 (c.fst * c.snd.fst - (1 : Int)) ∧
 True ∧
 ((!decide
 ((0 : Int) ≤
 ((List.drop (↑(0 : Nat) : Int).toNat (List.take (min (↑es.length : Int) (101 : Int)).toNat es)).getD (↑x : Int).toNat
 ((0 : Int), (0 : Int))).fst ∧
 ((List.drop (↑(0 : Nat) : Int).toNat (List.take (min (↑es.length : Int) (101 : Int)).toNat es)).getD (↑x : Int).toNat
 ((0 : Int), (0 : Int))).fst ≤
 c.fst * c.snd.fst - (1 : Int))) =
 true →
 (!decide
 ((0 : Int) ≤
 ((List.drop (↑(0 : Nat) : Int).toNat (List.take (min (↑es.length : Int) (101 : Int)).toNat es)).getD (↑x : Int).toNat
 ((0 : Int), (0 : Int))).fst ∧
 ((List.drop (↑(0 : Nat) : Int).toNat (List.take (min (↑es.length : Int) (101 : Int)).toNat es)).getD (↑x : Int).toNat
 ((0 : Int), (0 : Int))).fst ≤
 c.fst * c.snd.fst - (1 : Int))) =
 true ∧
 (!decide
 ((0 : Int) ≤
 ((List.drop (↑(0 : Nat) : Int).toNat (List.take (min (↑es.length : Int) (101 : Int)).toNat es)).getD
 (↑x : Int).toNat ((0 : Int), (0 : Int))).fst ∧
 ((List.drop (↑(0 : Nat) : Int).toNat (List.take (min (↑es.length : Int) (101 : Int)).toNat es)).getD (↑x : Int).toNat
 ((0 : Int), (0 : Int))).fst ≤
 c.fst * c.snd.fst - (1 : Int))) =
 true ∧
 Fits IntKind.i64 ((↑x : Int) + (1 : Int)) ∧
 ∃ (x' : Nat),
 x' ≤ (List.take (101 : Nat) es).length ∧
 (List.take (101 : Nat) es).length - x' < (List.take (101 : Nat) es).length - x ∧
 ((c.fst = c.fst ∧ c.snd.fst = c.snd.fst ∧ c.snd.snd = c.snd.snd ∧ True) ∧ True ∧ True) ∧
 (↑x : Int) + (1 : Int) = (↑x' : Int) ∧
 (2 : Int) = errTo c.fst c.snd.fst c.snd.snd (List.take (101 : Nat) es) x' ∧
 (serveF c.fst c.snd.fst c.snd.snd
 (List.drop (↑(0 : Nat) : Int).toNat (List.take (min (↑es.length : Int) (101 : Int)).toNat es))).snd =
 (serveF c.fst c.snd.fst c.snd.snd
 (List.drop (↑(0 : Nat) : Int).toNat (List.take (min (↑es.length : Int) (101 : Int)).toNat es))).snd ∧
 (serveF c.fst c.snd.fst c.snd.snd
 (List.drop (↑(0 : Nat) : Int).toNat (List.take (min (↑es.length : Int) (101 : Int)).toNat es))).fst =
 (serveF c.fst c.snd.fst c.snd.snd
 (List.drop (↑(0 : Nat) : Int).toNat (List.take (min (↑es.length : Int) (101 : Int)).toNat es))).fst ∧
 List.drop (↑(0 : Nat) : Int).toNat (List.take (min (↑es.length : Int) (101 : Int)).toNat es) =
 List.drop (↑(0 : Nat) : Int).toNat (List.take (min (↑es.length : Int) (101 : Int)).toNat es) ∧
 c.snd.snd = c.snd.snd ∧ c.snd.fst = c.snd.fst ∧ c.fst = c.fst ∧ True) ∧
 ((!decide
 ((0 : Int) ≤
 ((List.drop (↑(0 : Nat) : Int).toNat (List.take (min (↑es.length : Int) (101 : Int)).toNat es)).getD (↑x : Int).toNat
 ((0 : Int), (0 : Int))).fst ∧
 ((List.drop (↑(0 : Nat) : Int).toNat (List.take (min (↑es.length : Int) (101 : Int)).toNat es)).getD (↑x : Int).toNat
 ((0 : Int), (0 : Int))).fst ≤
 c.fst * c.snd.fst - (1 : Int))) =
 false →
 (!decide
 ((0 : Int) ≤
 ((List.drop (↑(0 : Nat) : Int).toNat (List.take (min (↑es.length : Int) (101 : Int)).toNat es)).getD (↑x : Int).toNat
 ((0 : Int), (0 : Int))).fst ∧
 ((List.drop (↑(0 : Nat) : Int).toNat (List.take (min (↑es.length : Int) (101 : Int)).toNat es)).getD (↑x : Int).toNat
 ((0 : Int), (0 : Int))).fst ≤
 c.fst * c.snd.fst - (1 : Int))) =
 false ∧
 (!decide
 ((0 : Int) ≤
 ((List.drop (↑(0 : Nat) : Int).toNat (List.take (min (↑es.length : Int) (101 : Int)).toNat es)).getD
 (↑x : Int).toNat ((0 : Int), (0 : Int))).fst ∧
 ((List.drop (↑(0 : Nat) : Int).toNat (List.take (min (↑es.length : Int) (101 : Int)).toNat es)).getD (↑x : Int).toNat
 ((0 : Int), (0 : Int))).fst ≤
 c.fst * c.snd.fst - (1 : Int))) =
 false ∧
 ((0 : Int) ≤ (↑x : Int) ∧
 (↑x : Int) <
 (↑(List.drop (↑(0 : Nat) : Int).toNat (List.take (min (↑es.length : Int) (101 : Int)).toNat es)).length : Int)) ∧
 Fits IntKind.i64 (c.fst * c.snd.fst) ∧
 Fits IntKind.i64 (c.fst * c.snd.fst - (1 : Int)) ∧
 True ∧
 ((!decide
 ((-1 : Int) ≤
 ((List.drop (↑(0 : Nat) : Int).toNat (List.take (min (↑es.length : Int) (101 : Int)).toNat es)).getD
 (↑x : Int).toNat ((0 : Int), (0 : Int))).snd ∧
 ((List.drop (↑(0 : Nat) : Int).toNat (List.take (min (↑es.length : Int) (101 : Int)).toNat es)).getD
 (↑x : Int).toNat ((0 : Int), (0 : Int))).snd ≤
 c.fst * c.snd.fst - (1 : Int))) =
 true →
 (!decide
 ((-1 : Int) ≤
 ((List.drop (↑(0 : Nat) : Int).toNat (List.take (min (↑es.length : Int) (101 : Int)).toNat es)).getD
 (↑x : Int).toNat ((0 : Int), (0 : Int))).snd ∧
 ((List.drop (↑(0 : Nat) : Int).toNat (List.take (min (↑es.length : Int) (101 : Int)).toNat es)).getD
 (↑x : Int).toNat ((0 : Int), (0 : Int))).snd ≤
 c.fst * c.snd.fst - (1 : Int))) =
 true ∧
 (!decide
 ((-1 : Int) ≤
 ((List.drop (↑(0 : Nat) : Int).toNat (List.take (min (↑es.length : Int) (101 : Int)).toNat es)).getD
 (↑x : Int).toNat ((0 : Int), (0 : Int))).snd ∧
 ((List.drop (↑(0 : Nat) : Int).toNat (List.take (min (↑es.length : Int) (101 : Int)).toNat es)).getD
 (↑x : Int).toNat ((0 : Int), (0 : Int))).snd ≤
 c.fst * c.snd.fst - (1 : Int))) =
 true ∧
 Fits IntKind.i64 ((↑x : Int) + (1 : Int)) ∧
 ∃ (x' : Nat),
 x' ≤ (List.take (101 : Nat) es).length ∧
 (List.take (101 : Nat) es).length - x' < (List.take (101 : Nat) es).length - x ∧
 ((c.fst = c.fst ∧ c.snd.fst = c.snd.fst ∧ c.snd.snd = c.snd.snd ∧ True) ∧ True ∧ True) ∧
 (↑x : Int) + (1 : Int) = (↑x' : Int) ∧
 (2 : Int) = errTo c.fst c.snd.fst c.snd.snd (List.take (101 : Nat) es) x' ∧
 (serveF c.fst c.snd.fst c.snd.snd
 (List.drop (↑(0 : Nat) : Int).toNat
 (List.take (min (↑es.length : Int) (101 : Int)).toNat es))).snd =
 (serveF c.fst c.snd.fst c.snd.snd
 (List.drop (↑(0 : Nat) : Int).toNat
 (List.take (min (↑es.length : Int) (101 : Int)).toNat es))).snd ∧
 (serveF c.fst c.snd.fst c.snd.snd
 (List.drop (↑(0 : Nat) : Int).toNat
 (List.take (min (↑es.length : Int) (101 : Int)).toNat es))).fst =
 (serveF c.fst c.snd.fst c.snd.snd
 (List.drop (↑(0 : Nat) : Int).toNat
 (List.take (min (↑es.length : Int) (101 : Int)).toNat es))).fst ∧
 List.drop (↑(0 : Nat) : Int).toNat
 (List.take (min (↑es.length : Int) (101 : Int)).toNat es) =
 List.drop (↑(0 : Nat) : Int).toNat
 (List.take (min (↑es.length : Int) (101 : Int)).toNat es) ∧
 c.snd.snd = c.snd.snd ∧ c.snd.fst = c.snd.fst ∧ c.fst = c.fst ∧ True) ∧
 ((!decide
 ((-1 : Int) ≤
 ((List.drop (↑(0 : Nat) : Int).toNat (List.take (min (↑es.length : Int) (101 : Int)).toNat es)).getD
 (↑x : Int).toNat ((0 : Int), (0 : Int))).snd ∧
 ((List.drop (↑(0 : Nat) : Int).toNat (List.take (min (↑es.length : Int) (101 : Int)).toNat es)).getD
 (↑x : Int).toNat ((0 : Int), (0 : Int))).snd ≤
 c.fst * c.snd.fst - (1 : Int))) =
 false →
 (!decide
 ((-1 : Int) ≤
 ((List.drop (↑(0 : Nat) : Int).toNat (List.take (min (↑es.length : Int) (101 : Int)).toNat es)).getD
 (↑x : Int).toNat ((0 : Int), (0 : Int))).snd ∧
 ((List.drop (↑(0 : Nat) : Int).toNat (List.take (min (↑es.length : Int) (101 : Int)).toNat es)).getD
 (↑x : Int).toNat ((0 : Int), (0 : Int))).snd ≤
 c.fst * c.snd.fst - (1 : Int))) =
 false ∧
 (!decide
 ((-1 : Int) ≤
 ((List.drop (↑(0 : Nat) : Int).toNat (List.take (min (↑es.length : Int) (101 : Int)).toNat es)).getD
 (↑x : Int).toNat ((0 : Int), (0 : Int))).snd ∧
 ((List.drop (↑(0 : Nat) : Int).toNat (List.take (min (↑es.length : Int) (101 : Int)).toNat es)).getD
 (↑x : Int).toNat ((0 : Int), (0 : Int))).snd ≤
 c.fst * c.snd.fst - (1 : Int))) =
 false ∧
 Fits IntKind.i64 ((↑x : Int) + (1 : Int)) ∧
 ∃ (x' : Nat),
 x' ≤ (List.take (101 : Nat) es).length ∧
 (List.take (101 : Nat) es).length - x' < (List.take (101 : Nat) es).length - x ∧
 ((c.fst = c.fst ∧ c.snd.fst = c.snd.fst ∧ c.snd.snd = c.snd.snd ∧ True) ∧ True ∧ True) ∧
 (↑x : Int) + (1 : Int) = (↑x' : Int) ∧
 errTo c.fst c.snd.fst c.snd.snd (List.take (101 : Nat) es) x =
 errTo c.fst c.snd.fst c.snd.snd (List.take (101 : Nat) es) x' ∧
 (serveF c.fst c.snd.fst c.snd.snd
 (List.drop (↑(0 : Nat) : Int).toNat
 (List.take (min (↑es.length : Int) (101 : Int)).toNat es))).snd =
 (serveF c.fst c.snd.fst c.snd.snd
 (List.drop (↑(0 : Nat) : Int).toNat
 (List.take (min (↑es.length : Int) (101 : Int)).toNat es))).snd ∧
 (serveF c.fst c.snd.fst c.snd.snd
 (List.drop (↑(0 : Nat) : Int).toNat
 (List.take (min (↑es.length : Int) (101 : Int)).toNat es))).fst =
 (serveF c.fst c.snd.fst c.snd.snd
 (List.drop (↑(0 : Nat) : Int).toNat
 (List.take (min (↑es.length : Int) (101 : Int)).toNat es))).fst ∧
 List.drop (↑(0 : Nat) : Int).toNat
 (List.take (min (↑es.length : Int) (101 : Int)).toNat es) =
 List.drop (↑(0 : Nat) : Int).toNat
 (List.take (min (↑es.length : Int) (101 : Int)).toNat es) ∧
 c.snd.snd = c.snd.snd ∧ c.snd.fst = c.snd.fst ∧ c.fst = c.fst ∧ True))) ∧
 (¬errTo c.fst c.snd.fst c.snd.snd (List.take (101 : Nat) es) x = (0 : Int) →
 ¬errTo c.fst c.snd.fst c.snd.snd (List.take (101 : Nat) es) x = (0 : Int) ∧
 ¬errTo c.fst c.snd.fst c.snd.snd (List.take (101 : Nat) es) x = (0 : Int) ∧
 ((100 : Int) < (↑(List.drop (↑(0 : Nat) : Int).toNat (List.take (min (↑es.length : Int) (101 : Int)).toNat es)).length : Int) →
 (100 : Int) < (↑(List.drop (↑(0 : Nat) : Int).toNat (List.take (min (↑es.length : Int) (101 : Int)).toNat es)).length : Int) ∧
 (¬(3 : Int) = (0 : Int) →
 ¬(3 : Int) = (0 : Int) ∧
 ((↑(serveF c.fst c.snd.fst c.snd.snd
 (List.drop (↑(0 : Nat) : Int).toNat (List.take (min (↑es.length : Int) (101 : Int)).toNat es))).fst.length :
 Int) =
 (0 : Int) →
 (↑(serveF c.fst c.snd.fst c.snd.snd
 (List.drop (↑(0 : Nat) : Int).toNat (List.take (min (↑es.length : Int) (101 : Int)).toNat es))).fst.length :
 Int) =
 (0 : Int) ∧
 (↑(serveF c.fst c.snd.fst c.snd.snd
 (List.drop (↑(0 : Nat) : Int).toNat (List.take (min (↑es.length : Int) (101 : Int)).toNat es))).fst.length :
 Int) =
 (0 : Int) ∧
 ((serveF c.fst c.snd.fst c.snd.snd
 (List.drop (↑(0 : Nat) : Int).toNat (List.take (min (↑es.length : Int) (101 : Int)).toNat es))).snd =
 (3 : Int) →
 (serveF c.fst c.snd.fst c.snd.snd
 (List.drop (↑(0 : Nat) : Int).toNat (List.take (min (↑es.length : Int) (101 : Int)).toNat es))).snd =
 (3 : Int) ∧
 (serveF c.fst c.snd.fst c.snd.snd
 (List.drop (↑(0 : Nat) : Int).toNat (List.take (min (↑es.length : Int) (101 : Int)).toNat es))).snd =
 (3 : Int) ∧
 (serveF c.fst c.snd.fst c.snd.snd
 (List.drop (↑(0 : Nat) : Int).toNat (List.take (min (↑es.length : Int) (101 : Int)).toNat es))).snd =
 (3 : Int) ∧
 True ∧ true = true) ∧
 (¬(serveF c.fst c.snd.fst c.snd.snd
 (List.drop (↑(0 : Nat) : Int).toNat (List.take (min (↑es.length : Int) (101 : Int)).toNat es))).snd =
 (3 : Int) →
 ¬(serveF c.fst c.snd.fst c.snd.snd
 (List.drop (↑(0 : Nat) : Int).toNat (List.take (min (↑es.length : Int) (101 : Int)).toNat es))).snd =
 (3 : Int) ∧
 ¬(serveF c.fst c.snd.fst c.snd.snd
 (List.drop (↑(0 : Nat) : Int).toNat (List.take (min (↑es.length : Int) (101 : Int)).toNat es))).snd =
 (3 : Int) ∧
 ¬(serveF c.fst c.snd.fst c.snd.snd
 (List.drop (↑(0 : Nat) : Int).toNat (List.take (min (↑es.length : Int) (101 : Int)).toNat es))).snd =
 (3 : Int) ∧
 false = true)) ∧
 (¬(↑(serveF c.fst c.snd.fst c.snd.snd
 (List.drop (↑(0 : Nat) : Int).toNat (List.take (min (↑es.length : Int) (101 : Int)).toNat es))).fst.length :
 Int) =
 (0 : Int) →
 ¬(↑(serveF c.fst c.snd.fst c.snd.snd
 (List.drop (↑(0 : Nat) : Int).toNat (List.take (min (↑es.length : Int) (101 : Int)).toNat es))).fst.length :
 Int) =
 (0 : Int) ∧
 ¬(↑(serveF c.fst c.snd.fst c.snd.snd
 (List.drop (↑(0 : Nat) : Int).toNat (List.take (min (↑es.length : Int) (101 : Int)).toNat es))).fst.length :
 Int) =
 (0 : Int) ∧
 false = true)) ∧
 (¬¬(3 : Int) = (0 : Int) →
 ¬¬(3 : Int) = (0 : Int) ∧
 ((((1 : Int) ≤ c.fst ∧ c.fst ≤ (12 : Int)) ∧ (1 : Int) ≤ c.snd.snd ∧ c.snd.snd ≤ (12 : Int)) ∧
 (List.drop (↑(0 : Nat) : Int).toNat (List.take (min (↑es.length : Int) (101 : Int)).toNat es)).length ≤ (1000 : Nat) ∧
 ∀ (c : Int × Int),
 c ∈ List.drop (↑(0 : Nat) : Int).toNat (List.take (min (↑es.length : Int) (101 : Int)).toNat es) →
 ((0 : Int) ≤ c.fst ∧ c.fst < (12 : Int)) ∧ (-1 : Int) ≤ c.snd ∧ c.snd < (12 : Int)) ∧
 ((serveF c.fst c.snd.fst c.snd.snd
 (List.drop (↑(0 : Nat) : Int).toNat (List.take (min (↑es.length : Int) (101 : Int)).toNat es))).fst.length ≤
 (1000 : Nat) ∧
 (ansTo c.fst c.snd.snd (List.drop (↑(0 : Nat) : Int).toNat (List.take (min (↑es.length : Int) (101 : Int)).toNat es))
 (List.drop (↑(0 : Nat) : Int).toNat (List.take (min (↑es.length : Int) (101 : Int)).toNat es)).length).length ≤
 (1000 : Nat)) ∧
 (decide
 ((serveF c.fst c.snd.fst c.snd.snd
 (List.drop (↑(0 : Nat) : Int).toNat (List.take (min (↑es.length : Int) (101 : Int)).toNat es))).fst =
 ansTo c.fst c.snd.snd (List.drop (↑(0 : Nat) : Int).toNat (List.take (min (↑es.length : Int) (101 : Int)).toNat es))
 (List.drop (↑(0 : Nat) : Int).toNat (List.take (min (↑es.length : Int) (101 : Int)).toNat es)).length) =
 true →
 decide
 ((serveF c.fst c.snd.fst c.snd.snd
 (List.drop (↑(0 : Nat) : Int).toNat (List.take (min (↑es.length : Int) (101 : Int)).toNat es))).fst =
 ansTo c.fst c.snd.snd
 (List.drop (↑(0 : Nat) : Int).toNat (List.take (min (↑es.length : Int) (101 : Int)).toNat es))
 (List.drop (↑(0 : Nat) : Int).toNat (List.take (min (↑es.length : Int) (101 : Int)).toNat es)).length) =
 true ∧
 decide
 ((serveF c.fst c.snd.fst c.snd.snd
 (List.drop (↑(0 : Nat) : Int).toNat (List.take (min (↑es.length : Int) (101 : Int)).toNat es))).fst =
 ansTo c.fst c.snd.snd
 (List.drop (↑(0 : Nat) : Int).toNat (List.take (min (↑es.length : Int) (101 : Int)).toNat es))
 (List.drop (↑(0 : Nat) : Int).toNat (List.take (min (↑es.length : Int) (101 : Int)).toNat es)).length) =
 true ∧
 ((serveF c.fst c.snd.fst c.snd.snd
 (List.drop (↑(0 : Nat) : Int).toNat (List.take (min (↑es.length : Int) (101 : Int)).toNat es))).snd =
 (0 : Int) →
 (serveF c.fst c.snd.fst c.snd.snd
 (List.drop (↑(0 : Nat) : Int).toNat (List.take (min (↑es.length : Int) (101 : Int)).toNat es))).snd =
 (0 : Int) ∧
 (serveF c.fst c.snd.fst c.snd.snd
 (List.drop (↑(0 : Nat) : Int).toNat (List.take (min (↑es.length : Int) (101 : Int)).toNat es))).snd =
 (0 : Int) ∧
 (serveF c.fst c.snd.fst c.snd.snd
 (List.drop (↑(0 : Nat) : Int).toNat (List.take (min (↑es.length : Int) (101 : Int)).toNat es))).snd =
 (0 : Int) ∧
 True ∧ true = true) ∧
 (¬(serveF c.fst c.snd.fst c.snd.snd
 (List.drop (↑(0 : Nat) : Int).toNat (List.take (min (↑es.length : Int) (101 : Int)).toNat es))).snd =
 (0 : Int) →
 ¬(serveF c.fst c.snd.fst c.snd.snd
 (List.drop (↑(0 : Nat) : Int).toNat (List.take (min (↑es.length : Int) (101 : Int)).toNat es))).snd =
 (0 : Int) ∧
 ¬(serveF c.fst c.snd.fst c.snd.snd
 (List.drop (↑(0 : Nat) : Int).toNat (List.take (min (↑es.length : Int) (101 : Int)).toNat es))).snd =
 (0 : Int) ∧
 ¬(serveF c.fst c.snd.fst c.snd.snd
 (List.drop (↑(0 : Nat) : Int).toNat
 (List.take (min (↑es.length : Int) (101 : Int)).toNat es))).snd =
 (0 : Int) ∧
 false = true)) ∧
 (decide
 ((serveF c.fst c.snd.fst c.snd.snd
 (List.drop (↑(0 : Nat) : Int).toNat (List.take (min (↑es.length : Int) (101 : Int)).toNat es))).fst =
 ansTo c.fst c.snd.snd (List.drop (↑(0 : Nat) : Int).toNat (List.take (min (↑es.length : Int) (101 : Int)).toNat es))
 (List.drop (↑(0 : Nat) : Int).toNat (List.take (min (↑es.length : Int) (101 : Int)).toNat es)).length) =
 false →
 decide
 ((serveF c.fst c.snd.fst c.snd.snd
 (List.drop (↑(0 : Nat) : Int).toNat (List.take (min (↑es.length : Int) (101 : Int)).toNat es))).fst =
 ansTo c.fst c.snd.snd
 (List.drop (↑(0 : Nat) : Int).toNat (List.take (min (↑es.length : Int) (101 : Int)).toNat es))
 (List.drop (↑(0 : Nat) : Int).toNat (List.take (min (↑es.length : Int) (101 : Int)).toNat es)).length) =
 false ∧
 decide
 ((serveF c.fst c.snd.fst c.snd.snd
 (List.drop (↑(0 : Nat) : Int).toNat (List.take (min (↑es.length : Int) (101 : Int)).toNat es))).fst =
 ansTo c.fst c.snd.snd
 (List.drop (↑(0 : Nat) : Int).toNat (List.take (min (↑es.length : Int) (101 : Int)).toNat es))
 (List.drop (↑(0 : Nat) : Int).toNat (List.take (min (↑es.length : Int) (101 : Int)).toNat es)).length) =
 false ∧
 false = true))) ∧
 (¬(100 : Int) < (↑(List.drop (↑(0 : Nat) : Int).toNat (List.take (min (↑es.length : Int) (101 : Int)).toNat es)).length : Int) →
 ¬(100 : Int) < (↑(List.drop (↑(0 : Nat) : Int).toNat (List.take (min (↑es.length : Int) (101 : Int)).toNat es)).length : Int) ∧
 (¬errTo c.fst c.snd.fst c.snd.snd (List.take (101 : Nat) es) x = (0 : Int) →
 ¬errTo c.fst c.snd.fst c.snd.snd (List.take (101 : Nat) es) x = (0 : Int) ∧
 ((↑(serveF c.fst c.snd.fst c.snd.snd
 (List.drop (↑(0 : Nat) : Int).toNat (List.take (min (↑es.length : Int) (101 : Int)).toNat es))).fst.length :
 Int) =
 (0 : Int) →
 (↑(serveF c.fst c.snd.fst c.snd.snd
 (List.drop (↑(0 : Nat) : Int).toNat (List.take (min (↑es.length : Int) (101 : Int)).toNat es))).fst.length :
 Int) =
 (0 : Int) ∧
 (↑(serveF c.fst c.snd.fst c.snd.snd
 (List.drop (↑(0 : Nat) : Int).toNat (List.take (min (↑es.length : Int) (101 : Int)).toNat es))).fst.length :
 Int) =
 (0 : Int) ∧
 ((serveF c.fst c.snd.fst c.snd.snd
 (List.drop (↑(0 : Nat) : Int).toNat (List.take (min (↑es.length : Int) (101 : Int)).toNat es))).snd =
 errTo c.fst c.snd.fst c.snd.snd (List.take (101 : Nat) es) x →
 (serveF c.fst c.snd.fst c.snd.snd
 (List.drop (↑(0 : Nat) : Int).toNat (List.take (min (↑es.length : Int) (101 : Int)).toNat es))).snd =
 errTo c.fst c.snd.fst c.snd.snd (List.take (101 : Nat) es) x ∧
 (serveF c.fst c.snd.fst c.snd.snd
 (List.drop (↑(0 : Nat) : Int).toNat (List.take (min (↑es.length : Int) (101 : Int)).toNat es))).snd =
 errTo c.fst c.snd.fst c.snd.snd (List.take (101 : Nat) es) x ∧
 (serveF c.fst c.snd.fst c.snd.snd
 (List.drop (↑(0 : Nat) : Int).toNat (List.take (min (↑es.length : Int) (101 : Int)).toNat es))).snd =
 errTo c.fst c.snd.fst c.snd.snd (List.take (101 : Nat) es) x ∧
 True ∧ true = true) ∧
 (¬(serveF c.fst c.snd.fst c.snd.snd
 (List.drop (↑(0 : Nat) : Int).toNat (List.take (min (↑es.length : Int) (101 : Int)).toNat es))).snd =
 errTo c.fst c.snd.fst c.snd.snd (List.take (101 : Nat) es) x →
 ¬(serveF c.fst c.snd.fst c.snd.snd
 (List.drop (↑(0 : Nat) : Int).toNat (List.take (min (↑es.length : Int) (101 : Int)).toNat es))).snd =
 errTo c.fst c.snd.fst c.snd.snd (List.take (101 : Nat) es) x ∧
 ¬(serveF c.fst c.snd.fst c.snd.snd
 (List.drop (↑(0 : Nat) : Int).toNat (List.take (min (↑es.length : Int) (101 : Int)).toNat es))).snd =
 errTo c.fst c.snd.fst c.snd.snd (List.take (101 : Nat) es) x ∧
 ¬(serveF c.fst c.snd.fst c.snd.snd
 (List.drop (↑(0 : Nat) : Int).toNat (List.take (min (↑es.length : Int) (101 : Int)).toNat es))).snd =
 errTo c.fst c.snd.fst c.snd.snd (List.take (101 : Nat) es) x ∧
 false = true)) ∧
 (¬(↑(serveF c.fst c.snd.fst c.snd.snd
 (List.drop (↑(0 : Nat) : Int).toNat (List.take (min (↑es.length : Int) (101 : Int)).toNat es))).fst.length :
 Int) =
 (0 : Int) →
 ¬(↑(serveF c.fst c.snd.fst c.snd.snd
 (List.drop (↑(0 : Nat) : Int).toNat (List.take (min (↑es.length : Int) (101 : Int)).toNat es))).fst.length :
 Int) =
 (0 : Int) ∧
 ¬(↑(serveF c.fst c.snd.fst c.snd.snd
 (List.drop (↑(0 : Nat) : Int).toNat (List.take (min (↑es.length : Int) (101 : Int)).toNat es))).fst.length :
 Int) =
 (0 : Int) ∧
 false = true)) ∧
 (¬¬errTo c.fst c.snd.fst c.snd.snd (List.take (101 : Nat) es) x = (0 : Int) →
 ¬¬errTo c.fst c.snd.fst c.snd.snd (List.take (101 : Nat) es) x = (0 : Int) ∧
 ((((1 : Int) ≤ c.fst ∧ c.fst ≤ (12 : Int)) ∧ (1 : Int) ≤ c.snd.snd ∧ c.snd.snd ≤ (12 : Int)) ∧
 (List.drop (↑(0 : Nat) : Int).toNat (List.take (min (↑es.length : Int) (101 : Int)).toNat es)).length ≤ (1000 : Nat) ∧
 ∀ (c : Int × Int),
 c ∈ List.drop (↑(0 : Nat) : Int).toNat (List.take (min (↑es.length : Int) (101 : Int)).toNat es) →
 ((0 : Int) ≤ c.fst ∧ c.fst < (12 : Int)) ∧ (-1 : Int) ≤ c.snd ∧ c.snd < (12 : Int)) ∧
 ((serveF c.fst c.snd.fst c.snd.snd
 (List.drop (↑(0 : Nat) : Int).toNat (List.take (min (↑es.length : Int) (101 : Int)).toNat es))).fst.length ≤
 (1000 : Nat) ∧
 (ansTo c.fst c.snd.snd (List.drop (↑(0 : Nat) : Int).toNat (List.take (min (↑es.length : Int) (101 : Int)).toNat es))
 (List.drop (↑(0 : Nat) : Int).toNat (List.take (min (↑es.length : Int) (101 : Int)).toNat es)).length).length ≤
 (1000 : Nat)) ∧
 (decide
 ((serveF c.fst c.snd.fst c.snd.snd
 (List.drop (↑(0 : Nat) : Int).toNat (List.take (min (↑es.length : Int) (101 : Int)).toNat es))).fst =
 ansTo c.fst c.snd.snd (List.drop (↑(0 : Nat) : Int).toNat (List.take (min (↑es.length : Int) (101 : Int)).toNat es))
 (List.drop (↑(0 : Nat) : Int).toNat (List.take (min (↑es.length : Int) (101 : Int)).toNat es)).length) =
 true →
 decide
 ((serveF c.fst c.snd.fst c.snd.snd
 (List.drop (↑(0 : Nat) : Int).toNat (List.take (min (↑es.length : Int) (101 : Int)).toNat es))).fst =
 ansTo c.fst c.snd.snd
 (List.drop (↑(0 : Nat) : Int).toNat (List.take (min (↑es.length : Int) (101 : Int)).toNat es))
 (List.drop (↑(0 : Nat) : Int).toNat (List.take (min (↑es.length : Int) (101 : Int)).toNat es)).length) =
 true ∧
 decide
 ((serveF c.fst c.snd.fst c.snd.snd
 (List.drop (↑(0 : Nat) : Int).toNat (List.take (min (↑es.length : Int) (101 : Int)).toNat es))).fst =
 ansTo c.fst c.snd.snd
 (List.drop (↑(0 : Nat) : Int).toNat (List.take (min (↑es.length : Int) (101 : Int)).toNat es))
 (List.drop (↑(0 : Nat) : Int).toNat (List.take (min (↑es.length : Int) (101 : Int)).toNat es)).length) =
 true ∧
 ((serveF c.fst c.snd.fst c.snd.snd
 (List.drop (↑(0 : Nat) : Int).toNat (List.take (min (↑es.length : Int) (101 : Int)).toNat es))).snd =
 (0 : Int) →
 (serveF c.fst c.snd.fst c.snd.snd
 (List.drop (↑(0 : Nat) : Int).toNat (List.take (min (↑es.length : Int) (101 : Int)).toNat es))).snd =
 (0 : Int) ∧
 (serveF c.fst c.snd.fst c.snd.snd
 (List.drop (↑(0 : Nat) : Int).toNat (List.take (min (↑es.length : Int) (101 : Int)).toNat es))).snd =
 (0 : Int) ∧
 (serveF c.fst c.snd.fst c.snd.snd
 (List.drop (↑(0 : Nat) : Int).toNat (List.take (min (↑es.length : Int) (101 : Int)).toNat es))).snd =
 (0 : Int) ∧
 True ∧ true = true) ∧
 (¬(serveF c.fst c.snd.fst c.snd.snd
 (List.drop (↑(0 : Nat) : Int).toNat (List.take (min (↑es.length : Int) (101 : Int)).toNat es))).snd =
 (0 : Int) →
 ¬(serveF c.fst c.snd.fst c.snd.snd
 (List.drop (↑(0 : Nat) : Int).toNat (List.take (min (↑es.length : Int) (101 : Int)).toNat es))).snd =
 (0 : Int) ∧
 ¬(serveF c.fst c.snd.fst c.snd.snd
 (List.drop (↑(0 : Nat) : Int).toNat (List.take (min (↑es.length : Int) (101 : Int)).toNat es))).snd =
 (0 : Int) ∧
 ¬(serveF c.fst c.snd.fst c.snd.snd
 (List.drop (↑(0 : Nat) : Int).toNat
 (List.take (min (↑es.length : Int) (101 : Int)).toNat es))).snd =
 (0 : Int) ∧
 false = true)) ∧
 (decide
 ((serveF c.fst c.snd.fst c.snd.snd
 (List.drop (↑(0 : Nat) : Int).toNat (List.take (min (↑es.length : Int) (101 : Int)).toNat es))).fst =
 ansTo c.fst c.snd.snd (List.drop (↑(0 : Nat) : Int).toNat (List.take (min (↑es.length : Int) (101 : Int)).toNat es))
 (List.drop (↑(0 : Nat) : Int).toNat (List.take (min (↑es.length : Int) (101 : Int)).toNat es)).length) =
 false →
 decide
 ((serveF c.fst c.snd.fst c.snd.snd
 (List.drop (↑(0 : Nat) : Int).toNat (List.take (min (↑es.length : Int) (101 : Int)).toNat es))).fst =
 ansTo c.fst c.snd.snd
 (List.drop (↑(0 : Nat) : Int).toNat (List.take (min (↑es.length : Int) (101 : Int)).toNat es))
 (List.drop (↑(0 : Nat) : Int).toNat (List.take (min (↑es.length : Int) (101 : Int)).toNat es)).length) =
 false ∧
 decide
 ((serveF c.fst c.snd.fst c.snd.snd
 (List.drop (↑(0 : Nat) : Int).toNat (List.take (min (↑es.length : Int) (101 : Int)).toNat es))).fst =
 ansTo c.fst c.snd.snd
 (List.drop (↑(0 : Nat) : Int).toNat (List.take (min (↑es.length : Int) (101 : Int)).toNat es))
 (List.drop (↑(0 : Nat) : Int).toNat (List.take (min (↑es.length : Int) (101 : Int)).toNat es)).length) =
 false ∧
 false = true))))) ∧
 (¬(↑x : Int) < (↑(List.drop (↑(0 : Nat) : Int).toNat (List.take (min (↑es.length : Int) (101 : Int)).toNat es)).length : Int) →
 ¬(↑x : Int) < (↑(List.drop (↑(0 : Nat) : Int).toNat (List.take (min (↑es.length : Int) (101 : Int)).toNat es)).length : Int) ∧
 ¬(↑x : Int) < (↑(List.drop (↑(0 : Nat) : Int).toNat (List.take (min (↑es.length : Int) (101 : Int)).toNat es)).length : Int) ∧
 ((100 : Int) < (↑(List.drop (↑(0 : Nat) : Int).toNat (List.take (min (↑es.length : Int) (101 : Int)).toNat es)).length : Int) →
 (100 : Int) < (↑(List.drop (↑(0 : Nat) : Int).toNat (List.take (min (↑es.length : Int) (101 : Int)).toNat es)).length : Int) ∧
 (¬(3 : Int) = (0 : Int) →
 ¬(3 : Int) = (0 : Int) ∧
 ((↑(serveF c.fst c.snd.fst c.snd.snd
 (List.drop (↑(0 : Nat) : Int).toNat (List.take (min (↑es.length : Int) (101 : Int)).toNat es))).fst.length :
 Int) =
 (0 : Int) →
 (↑(serveF c.fst c.snd.fst c.snd.snd
 (List.drop (↑(0 : Nat) : Int).toNat (List.take (min (↑es.length : Int) (101 : Int)).toNat es))).fst.length :
 Int) =
 (0 : Int) ∧
 (↑(serveF c.fst c.snd.fst c.snd.snd
 (List.drop (↑(0 : Nat) : Int).toNat (List.take (min (↑es.length : Int) (101 : Int)).toNat es))).fst.length :
 Int) =
 (0 : Int) ∧
 ((serveF c.fst c.snd.fst c.snd.snd
 (List.drop (↑(0 : Nat) : Int).toNat (List.take (min (↑es.length : Int) (101 : Int)).toNat es))).snd =
 (3 : Int) →
 (serveF c.fst c.snd.fst c.snd.snd
 (List.drop (↑(0 : Nat) : Int).toNat (List.take (min (↑es.length : Int) (101 : Int)).toNat es))).snd =
 (3 : Int) ∧
 (serveF c.fst c.snd.fst c.snd.snd
 (List.drop (↑(0 : Nat) : Int).toNat (List.take (min (↑es.length : Int) (101 : Int)).toNat es))).snd =
 (3 : Int) ∧
 (serveF c.fst c.snd.fst c.snd.snd
 (List.drop (↑(0 : Nat) : Int).toNat (List.take (min (↑es.length : Int) (101 : Int)).toNat es))).snd =
 (3 : Int) ∧
 True ∧ true = true) ∧
 (¬(serveF c.fst c.snd.fst c.snd.snd
 (List.drop (↑(0 : Nat) : Int).toNat (List.take (min (↑es.length : Int) (101 : Int)).toNat es))).snd =
 (3 : Int) →
 ¬(serveF c.fst c.snd.fst c.snd.snd
 (List.drop (↑(0 : Nat) : Int).toNat (List.take (min (↑es.length : Int) (101 : Int)).toNat es))).snd =
 (3 : Int) ∧
 ¬(serveF c.fst c.snd.fst c.snd.snd
 (List.drop (↑(0 : Nat) : Int).toNat (List.take (min (↑es.length : Int) (101 : Int)).toNat es))).snd =
 (3 : Int) ∧
 ¬(serveF c.fst c.snd.fst c.snd.snd
 (List.drop (↑(0 : Nat) : Int).toNat (List.take (min (↑es.length : Int) (101 : Int)).toNat es))).snd =
 (3 : Int) ∧
 false = true)) ∧
 (¬(↑(serveF c.fst c.snd.fst c.snd.snd
 (List.drop (↑(0 : Nat) : Int).toNat (List.take (min (↑es.length : Int) (101 : Int)).toNat es))).fst.length :
 Int) =
 (0 : Int) →
 ¬(↑(serveF c.fst c.snd.fst c.snd.snd
 (List.drop (↑(0 : Nat) : Int).toNat (List.take (min (↑es.length : Int) (101 : Int)).toNat es))).fst.length :
 Int) =
 (0 : Int) ∧
 ¬(↑(serveF c.fst c.snd.fst c.snd.snd
 (List.drop (↑(0 : Nat) : Int).toNat (List.take (min (↑es.length : Int) (101 : Int)).toNat es))).fst.length :
 Int) =
 (0 : Int) ∧
 false = true)) ∧
 (¬¬(3 : Int) = (0 : Int) →
 ¬¬(3 : Int) = (0 : Int) ∧
 ((((1 : Int) ≤ c.fst ∧ c.fst ≤ (12 : Int)) ∧ (1 : Int) ≤ c.snd.snd ∧ c.snd.snd ≤ (12 : Int)) ∧
 (List.drop (↑(0 : Nat) : Int).toNat (List.take (min (↑es.length : Int) (101 : Int)).toNat es)).length ≤ (1000 : Nat) ∧
 ∀ (c : Int × Int),
 c ∈ List.drop (↑(0 : Nat) : Int).toNat (List.take (min (↑es.length : Int) (101 : Int)).toNat es) →
 ((0 : Int) ≤ c.fst ∧ c.fst < (12 : Int)) ∧ (-1 : Int) ≤ c.snd ∧ c.snd < (12 : Int)) ∧
 ((serveF c.fst c.snd.fst c.snd.snd
 (List.drop (↑(0 : Nat) : Int).toNat (List.take (min (↑es.length : Int) (101 : Int)).toNat es))).fst.length ≤
 (1000 : Nat) ∧
 (ansTo c.fst c.snd.snd (List.drop (↑(0 : Nat) : Int).toNat (List.take (min (↑es.length : Int) (101 : Int)).toNat es))
 (List.drop (↑(0 : Nat) : Int).toNat (List.take (min (↑es.length : Int) (101 : Int)).toNat es)).length).length ≤
 (1000 : Nat)) ∧
 (decide
 ((serveF c.fst c.snd.fst c.snd.snd
 (List.drop (↑(0 : Nat) : Int).toNat (List.take (min (↑es.length : Int) (101 : Int)).toNat es))).fst =
 ansTo c.fst c.snd.snd (List.drop (↑(0 : Nat) : Int).toNat (List.take (min (↑es.length : Int) (101 : Int)).toNat es))
 (List.drop (↑(0 : Nat) : Int).toNat (List.take (min (↑es.length : Int) (101 : Int)).toNat es)).length) =
 true →
 decide
 ((serveF c.fst c.snd.fst c.snd.snd
 (List.drop (↑(0 : Nat) : Int).toNat (List.take (min (↑es.length : Int) (101 : Int)).toNat es))).fst =
 ansTo c.fst c.snd.snd (List.drop (↑(0 : Nat) : Int).toNat (List.take (min (↑es.length : Int) (101 : Int)).toNat es))
 (List.drop (↑(0 : Nat) : Int).toNat (List.take (min (↑es.length : Int) (101 : Int)).toNat es)).length) =
 true ∧
 decide
 ((serveF c.fst c.snd.fst c.snd.snd
 (List.drop (↑(0 : Nat) : Int).toNat (List.take (min (↑es.length : Int) (101 : Int)).toNat es))).fst =
 ansTo c.fst c.snd.snd (List.drop (↑(0 : Nat) : Int).toNat (List.take (min (↑es.length : Int) (101 : Int)).toNat es))
 (List.drop (↑(0 : Nat) : Int).toNat (List.take (min (↑es.length : Int) (101 : Int)).toNat es)).length) =
 true ∧
 ((serveF c.fst c.snd.fst c.snd.snd
 (List.drop (↑(0 : Nat) : Int).toNat (List.take (min (↑es.length : Int) (101 : Int)).toNat es))).snd =
 (0 : Int) →
 (serveF c.fst c.snd.fst c.snd.snd
 (List.drop (↑(0 : Nat) : Int).toNat (List.take (min (↑es.length : Int) (101 : Int)).toNat es))).snd =
 (0 : Int) ∧
 (serveF c.fst c.snd.fst c.snd.snd
 (List.drop (↑(0 : Nat) : Int).toNat (List.take (min (↑es.length : Int) (101 : Int)).toNat es))).snd =
 (0 : Int) ∧
 (serveF c.fst c.snd.fst c.snd.snd
 (List.drop (↑(0 : Nat) : Int).toNat (List.take (min (↑es.length : Int) (101 : Int)).toNat es))).snd =
 (0 : Int) ∧
 True ∧ true = true) ∧
 (¬(serveF c.fst c.snd.fst c.snd.snd
 (List.drop (↑(0 : Nat) : Int).toNat (List.take (min (↑es.length : Int) (101 : Int)).toNat es))).snd =
 (0 : Int) →
 ¬(serveF c.fst c.snd.fst c.snd.snd
 (List.drop (↑(0 : Nat) : Int).toNat (List.take (min (↑es.length : Int) (101 : Int)).toNat es))).snd =
 (0 : Int) ∧
 ¬(serveF c.fst c.snd.fst c.snd.snd
 (List.drop (↑(0 : Nat) : Int).toNat (List.take (min (↑es.length : Int) (101 : Int)).toNat es))).snd =
 (0 : Int) ∧
 ¬(serveF c.fst c.snd.fst c.snd.snd
 (List.drop (↑(0 : Nat) : Int).toNat (List.take (min (↑es.length : Int) (101 : Int)).toNat es))).snd =
 (0 : Int) ∧
 false = true)) ∧
 (decide
 ((serveF c.fst c.snd.fst c.snd.snd
 (List.drop (↑(0 : Nat) : Int).toNat (List.take (min (↑es.length : Int) (101 : Int)).toNat es))).fst =
 ansTo c.fst c.snd.snd (List.drop (↑(0 : Nat) : Int).toNat (List.take (min (↑es.length : Int) (101 : Int)).toNat es))
 (List.drop (↑(0 : Nat) : Int).toNat (List.take (min (↑es.length : Int) (101 : Int)).toNat es)).length) =
 false →
 decide
 ((serveF c.fst c.snd.fst c.snd.snd
 (List.drop (↑(0 : Nat) : Int).toNat (List.take (min (↑es.length : Int) (101 : Int)).toNat es))).fst =
 ansTo c.fst c.snd.snd (List.drop (↑(0 : Nat) : Int).toNat (List.take (min (↑es.length : Int) (101 : Int)).toNat es))
 (List.drop (↑(0 : Nat) : Int).toNat (List.take (min (↑es.length : Int) (101 : Int)).toNat es)).length) =
 false ∧
 decide
 ((serveF c.fst c.snd.fst c.snd.snd
 (List.drop (↑(0 : Nat) : Int).toNat (List.take (min (↑es.length : Int) (101 : Int)).toNat es))).fst =
 ansTo c.fst c.snd.snd (List.drop (↑(0 : Nat) : Int).toNat (List.take (min (↑es.length : Int) (101 : Int)).toNat es))
 (List.drop (↑(0 : Nat) : Int).toNat (List.take (min (↑es.length : Int) (101 : Int)).toNat es)).length) =
 false ∧
 false = true))) ∧
 (¬(100 : Int) < (↑(List.drop (↑(0 : Nat) : Int).toNat (List.take (min (↑es.length : Int) (101 : Int)).toNat es)).length : Int) →
 ¬(100 : Int) < (↑(List.drop (↑(0 : Nat) : Int).toNat (List.take (min (↑es.length : Int) (101 : Int)).toNat es)).length : Int) ∧
 (¬errTo c.fst c.snd.fst c.snd.snd (List.take (101 : Nat) es) x = (0 : Int) →
 ¬errTo c.fst c.snd.fst c.snd.snd (List.take (101 : Nat) es) x = (0 : Int) ∧
 ((↑(serveF c.fst c.snd.fst c.snd.snd
 (List.drop (↑(0 : Nat) : Int).toNat (List.take (min (↑es.length : Int) (101 : Int)).toNat es))).fst.length :
 Int) =
 (0 : Int) →
 (↑(serveF c.fst c.snd.fst c.snd.snd
 (List.drop (↑(0 : Nat) : Int).toNat (List.take (min (↑es.length : Int) (101 : Int)).toNat es))).fst.length :
 Int) =
 (0 : Int) ∧
 (↑(serveF c.fst c.snd.fst c.snd.snd
 (List.drop (↑(0 : Nat) : Int).toNat (List.take (min (↑es.length : Int) (101 : Int)).toNat es))).fst.length :
 Int) =
 (0 : Int) ∧
 ((serveF c.fst c.snd.fst c.snd.snd
 (List.drop (↑(0 : Nat) : Int).toNat (List.take (min (↑es.length : Int) (101 : Int)).toNat es))).snd =
 errTo c.fst c.snd.fst c.snd.snd (List.take (101 : Nat) es) x →
 (serveF c.fst c.snd.fst c.snd.snd
 (List.drop (↑(0 : Nat) : Int).toNat (List.take (min (↑es.length : Int) (101 : Int)).toNat es))).snd =
 errTo c.fst c.snd.fst c.snd.snd (List.take (101 : Nat) es) x ∧
 (serveF c.fst c.snd.fst c.snd.snd
 (List.drop (↑(0 : Nat) : Int).toNat (List.take (min (↑es.length : Int) (101 : Int)).toNat es))).snd =
 errTo c.fst c.snd.fst c.snd.snd (List.take (101 : Nat) es) x ∧
 (serveF c.fst c.snd.fst c.snd.snd
 (List.drop (↑(0 : Nat) : Int).toNat (List.take (min (↑es.length : Int) (101 : Int)).toNat es))).snd =
 errTo c.fst c.snd.fst c.snd.snd (List.take (101 : Nat) es) x ∧
 True ∧ true = true) ∧
 (¬(serveF c.fst c.snd.fst c.snd.snd
 (List.drop (↑(0 : Nat) : Int).toNat (List.take (min (↑es.length : Int) (101 : Int)).toNat es))).snd =
 errTo c.fst c.snd.fst c.snd.snd (List.take (101 : Nat) es) x →
 ¬(serveF c.fst c.snd.fst c.snd.snd
 (List.drop (↑(0 : Nat) : Int).toNat (List.take (min (↑es.length : Int) (101 : Int)).toNat es))).snd =
 errTo c.fst c.snd.fst c.snd.snd (List.take (101 : Nat) es) x ∧
 ¬(serveF c.fst c.snd.fst c.snd.snd
 (List.drop (↑(0 : Nat) : Int).toNat (List.take (min (↑es.length : Int) (101 : Int)).toNat es))).snd =
 errTo c.fst c.snd.fst c.snd.snd (List.take (101 : Nat) es) x ∧
 ¬(serveF c.fst c.snd.fst c.snd.snd
 (List.drop (↑(0 : Nat) : Int).toNat (List.take (min (↑es.length : Int) (101 : Int)).toNat es))).snd =
 errTo c.fst c.snd.fst c.snd.snd (List.take (101 : Nat) es) x ∧
 false = true)) ∧
 (¬(↑(serveF c.fst c.snd.fst c.snd.snd
 (List.drop (↑(0 : Nat) : Int).toNat (List.take (min (↑es.length : Int) (101 : Int)).toNat es))).fst.length :
 Int) =
 (0 : Int) →
 ¬(↑(serveF c.fst c.snd.fst c.snd.snd
 (List.drop (↑(0 : Nat) : Int).toNat (List.take (min (↑es.length : Int) (101 : Int)).toNat es))).fst.length :
 Int) =
 (0 : Int) ∧
 ¬(↑(serveF c.fst c.snd.fst c.snd.snd
 (List.drop (↑(0 : Nat) : Int).toNat (List.take (min (↑es.length : Int) (101 : Int)).toNat es))).fst.length :
 Int) =
 (0 : Int) ∧
 false = true)) ∧
 (¬¬errTo c.fst c.snd.fst c.snd.snd (List.take (101 : Nat) es) x = (0 : Int) →
 ¬¬errTo c.fst c.snd.fst c.snd.snd (List.take (101 : Nat) es) x = (0 : Int) ∧
 ((((1 : Int) ≤ c.fst ∧ c.fst ≤ (12 : Int)) ∧ (1 : Int) ≤ c.snd.snd ∧ c.snd.snd ≤ (12 : Int)) ∧
 (List.drop (↑(0 : Nat) : Int).toNat (List.take (min (↑es.length : Int) (101 : Int)).toNat es)).length ≤ (1000 : Nat) ∧
 ∀ (c : Int × Int),
 c ∈ List.drop (↑(0 : Nat) : Int).toNat (List.take (min (↑es.length : Int) (101 : Int)).toNat es) →
 ((0 : Int) ≤ c.fst ∧ c.fst < (12 : Int)) ∧ (-1 : Int) ≤ c.snd ∧ c.snd < (12 : Int)) ∧
 ((serveF c.fst c.snd.fst c.snd.snd
 (List.drop (↑(0 : Nat) : Int).toNat (List.take (min (↑es.length : Int) (101 : Int)).toNat es))).fst.length ≤
 (1000 : Nat) ∧
 (ansTo c.fst c.snd.snd (List.drop (↑(0 : Nat) : Int).toNat (List.take (min (↑es.length : Int) (101 : Int)).toNat es))
 (List.drop (↑(0 : Nat) : Int).toNat (List.take (min (↑es.length : Int) (101 : Int)).toNat es)).length).length ≤
 (1000 : Nat)) ∧
 (decide
 ((serveF c.fst c.snd.fst c.snd.snd
 (List.drop (↑(0 : Nat) : Int).toNat (List.take (min (↑es.length : Int) (101 : Int)).toNat es))).fst =
 ansTo c.fst c.snd.snd (List.drop (↑(0 : Nat) : Int).toNat (List.take (min (↑es.length : Int) (101 : Int)).toNat es))
 (List.drop (↑(0 : Nat) : Int).toNat (List.take (min (↑es.length : Int) (101 : Int)).toNat es)).length) =
 true →
 decide
 ((serveF c.fst c.snd.fst c.snd.snd
 (List.drop (↑(0 : Nat) : Int).toNat (List.take (min (↑es.length : Int) (101 : Int)).toNat es))).fst =
 ansTo c.fst c.snd.snd (List.drop (↑(0 : Nat) : Int).toNat (List.take (min (↑es.length : Int) (101 : Int)).toNat es))
 (List.drop (↑(0 : Nat) : Int).toNat (List.take (min (↑es.length : Int) (101 : Int)).toNat es)).length) =
 true ∧
 decide
 ((serveF c.fst c.snd.fst c.snd.snd
 (List.drop (↑(0 : Nat) : Int).toNat (List.take (min (↑es.length : Int) (101 : Int)).toNat es))).fst =
 ansTo c.fst c.snd.snd (List.drop (↑(0 : Nat) : Int).toNat (List.take (min (↑es.length : Int) (101 : Int)).toNat es))
 (List.drop (↑(0 : Nat) : Int).toNat (List.take (min (↑es.length : Int) (101 : Int)).toNat es)).length) =
 true ∧
 ((serveF c.fst c.snd.fst c.snd.snd
 (List.drop (↑(0 : Nat) : Int).toNat (List.take (min (↑es.length : Int) (101 : Int)).toNat es))).snd =
 (0 : Int) →
 (serveF c.fst c.snd.fst c.snd.snd
 (List.drop (↑(0 : Nat) : Int).toNat (List.take (min (↑es.length : Int) (101 : Int)).toNat es))).snd =
 (0 : Int) ∧
 (serveF c.fst c.snd.fst c.snd.snd
 (List.drop (↑(0 : Nat) : Int).toNat (List.take (min (↑es.length : Int) (101 : Int)).toNat es))).snd =
 (0 : Int) ∧
 (serveF c.fst c.snd.fst c.snd.snd
 (List.drop (↑(0 : Nat) : Int).toNat (List.take (min (↑es.length : Int) (101 : Int)).toNat es))).snd =
 (0 : Int) ∧
 True ∧ true = true) ∧
 (¬(serveF c.fst c.snd.fst c.snd.snd
 (List.drop (↑(0 : Nat) : Int).toNat (List.take (min (↑es.length : Int) (101 : Int)).toNat es))).snd =
 (0 : Int) →
 ¬(serveF c.fst c.snd.fst c.snd.snd
 (List.drop (↑(0 : Nat) : Int).toNat (List.take (min (↑es.length : Int) (101 : Int)).toNat es))).snd =
 (0 : Int) ∧
 ¬(serveF c.fst c.snd.fst c.snd.snd
 (List.drop (↑(0 : Nat) : Int).toNat (List.take (min (↑es.length : Int) (101 : Int)).toNat es))).snd =
 (0 : Int) ∧
 ¬(serveF c.fst c.snd.fst c.snd.snd
 (List.drop (↑(0 : Nat) : Int).toNat (List.take (min (↑es.length : Int) (101 : Int)).toNat es))).snd =
 (0 : Int) ∧
 false = true)) ∧
 (decide
 ((serveF c.fst c.snd.fst c.snd.snd
 (List.drop (↑(0 : Nat) : Int).toNat (List.take (min (↑es.length : Int) (101 : Int)).toNat es))).fst =
 ansTo c.fst c.snd.snd (List.drop (↑(0 : Nat) : Int).toNat (List.take (min (↑es.length : Int) (101 : Int)).toNat es))
 (List.drop (↑(0 : Nat) : Int).toNat (List.take (min (↑es.length : Int) (101 : Int)).toNat es)).length) =
 false →
 decide
 ((serveF c.fst c.snd.fst c.snd.snd
 (List.drop (↑(0 : Nat) : Int).toNat (List.take (min (↑es.length : Int) (101 : Int)).toNat es))).fst =
 ansTo c.fst c.snd.snd (List.drop (↑(0 : Nat) : Int).toNat (List.take (min (↑es.length : Int) (101 : Int)).toNat es))
 (List.drop (↑(0 : Nat) : Int).toNat (List.take (min (↑es.length : Int) (101 : Int)).toNat es)).length) =
 false ∧
 decide
 ((serveF c.fst c.snd.fst c.snd.snd
 (List.drop (↑(0 : Nat) : Int).toNat (List.take (min (↑es.length : Int) (101 : Int)).toNat es))).fst =
 ansTo c.fst c.snd.snd (List.drop (↑(0 : Nat) : Int).toNat (List.take (min (↑es.length : Int) (101 : Int)).toNat es))
 (List.drop (↑(0 : Nat) : Int).toNat (List.take (min (↑es.length : Int) (101 : Int)).toNat es)).length) =
 false ∧
 false = true)))))) := by
 kernel_rfl

end Go.SX.Pa

/- Chapter 06, part 22: the law PatchServes: its contract. -/
namespace Go.SX.Pa
open Go Go.Proofs
theorem err_some {n r m : Int} {cs : List Ed} {k : Nat} (h0 : ¬ 100 < cs.length) (h : ¬ errTo n r m cs k = 0) : serveF n r m cs = ([], errTo n r m cs k) := by
  unfold errTo at h ⊢
  unfold serveF
  rw [if_neg h0]
  by_cases hc : ClosP n r m
  · have nc : ¬ ¬ ClosP n r m := fun c => c hc
    simp only [if_neg nc] at h ⊢
    by_cases hb : (cs.take k).any (badEv n r) = true
    · simp only [if_pos hb] at h ⊢
      obtain ⟨x, q1, q2⟩ := List.any_eq_true.1 hb
      rw [if_pos (List.any_eq_true.2 ⟨x, List.mem_of_mem_take q1, q2⟩)]
    · simp only [if_neg hb] at h
      exact absurd trivial h
  · rw [if_pos hc, if_pos hc]
theorem err_none {n r m : Int} {cs : List Ed} (h0 : ¬ 100 < cs.length) (h : errTo n r m cs cs.length = 0) : serveF n r m cs = (ansTo n m cs cs.length, 0) ∧ ClosP n r m ∧ ∀ c ∈ cs, (0 ≤ c.1 ∧ c.1 < n * r) ∧ -1 ≤ c.2 ∧ c.2 < n * r := by
  unfold errTo at h
  unfold serveF
  rw [if_neg h0]
  by_cases hc : ClosP n r m
  · rw [if_neg (fun c => c hc), List.take_length] at h
    rw [if_neg (fun c => c hc)]
    by_cases hb : cs.any (badEv n r) = true
    · rw [if_pos hb] at h; exact absurd h (by decide)
    · rw [if_neg hb]
      refine ⟨rfl, hc, fun c hcc => ?_⟩
      have := List.any_eq_false.1 (Bool.eq_false_iff.2 hb) c hcc
      simp [badEv] at this
      omega
  · rw [if_pos hc] at h; exact absurd h (by decide)
theorem err_step {n r m : Int} {cs : List Ed} {k : Nat} (hk : k < cs.length) (h : errTo n r m cs k = 0) : ClosP n r m ∧ errTo n r m cs (k + 1) = if badEv n r (cs.getD k (0, 0)) = true then 2 else 0 := by
  unfold errTo at h ⊢
  by_cases hc : ClosP n r m
  · rw [if_neg (fun c => c hc)] at h ⊢
    refine ⟨hc, ?_⟩
    by_cases hb : (cs.take k).any (badEv n r) = true
    · rw [if_pos hb] at h; exact absurd h (by decide)
    · rw [take_snoc cs (0, 0) k hk, List.any_append, Bool.eq_false_iff.2 hb, Bool.false_or]
      simp only [List.any_cons, List.any_nil, Bool.or_false]
  · rw [if_pos hc] at h; exact absurd h (by decide)

theorem ok14 : p14.OK Tryd.prog := p14.ok C14 (fun _ => cz_ok (cs := [p49.ci, p24.ci, p21.ci, p25.ci, p28.ci, p50.ci]) ⟨PC.OK.ci ok49, PC.OK.ci ok24, PC.OK.ci ok21, PC.OK.ci ok25, PC.OK.ci ok28, PC.OK.ci ok50, trivial⟩ _) (fn := Tryd.f14) rfl (by decide +kernel) rfl fun (p : Cl × List Ed) _ => by
  obtain ⟨⟨n, r, m⟩, es⟩ := p
  refine (g14_eq (n, r, m) es).mpr ?_
  simp only [pp1, eq_self, and_true, true_and, and_self, Int.toNat_natCast, List.drop_zero]
  have hcs : es.take (min (es.length : Int) 101).toNat = es.take 101 := by
    rw [List.take_eq_take_iff]; omega
  simp only [hcs]
  have hlen : (es.take 101).length ≤ 101 := by rw [List.length_take]; omega
  have tail : ∀ x, x ≤ (es.take 101).length → (x = (es.take 101).length ∨ ¬ errTo n r m (es.take 101) x = 0) → ¬ 100 < (es.take 101).length → errTo n r m (es.take 101) x = 0 → serveF n r m (es.take 101) = (ansTo n m (es.take 101) (es.take 101).length, 0) ∧ ClosP n r m ∧ ∀ c ∈ es.take 101, (0 ≤ c.1 ∧ c.1 < n * r) ∧ -1 ≤ c.2 ∧ c.2 < n * r := fun x hx h1 h2 h3 => by
    rcases h1 with h1 | h1
    · rw [h1] at h3; exact err_none h2 h3
    · exact absurd h3 h1
  refine ⟨by omega, by unfold Small; omega, by omega, fun hc => ?_, fun hc => ?_⟩
  all_goals
    refine ⟨⟨0, by omega, rfl, ?_⟩, fun x hx => ⟨fun h1 => ⟨fun h2 => ?_, fun h2 => ?_⟩, fun h1 => ?_⟩⟩
    · unfold errTo
      first
        | rw [if_pos (by simpa using hc)]
        | rw [if_neg (by simpa using hc)]; rfl
    · have hxl : x < (es.take 101).length := by omega
      obtain ⟨s1, s2⟩ := err_step hxl h2
      obtain ⟨k1, k2, k3, k4⟩ := s1
      have hnr : 0 < n * r := Int.mul_pos (by omega) (by omega)
      have fx : Fits .i64 ((x : Int) + 1) := fits_nat (by omega)
      have f1 : Fits .i64 (n * r) := fits_i64 (by omega) (by omega)
      have f2 : Fits .i64 (n * r - 1) := fits_i64 (by omega) (by omega)
      have bv : ∀ c : Ed, badEv n r c = true ↔ ¬ ((0 ≤ c.1 ∧ c.1 ≤ n * r - 1) ∧ -1 ≤ c.2 ∧ c.2 ≤ n * r - 1) := fun c => by
        unfold badEv
        simp only [Bool.or_eq_true, decide_eq_true_eq]
        omega
      rw [h2]
      refine ⟨by omega, f1, f2, fun h3 => ⟨fx, x + 1, by omega, by omega, by omega, ?_⟩, fun h3 => ⟨by omega, f1, f2, fun h4 => ⟨fx, x + 1, by omega, by omega, by omega, ?_⟩, fun h4 => ⟨fx, x + 1, by omega, by omega, by omega, ?_⟩⟩⟩
      · have h3 : ¬ (0 ≤ ((es.take 101).getD x (0, 0)).1 ∧ ((es.take 101).getD x (0, 0)).1 ≤ n * r - 1) := by simpa only [Bool.not_eq_true', decide_eq_false_iff_not] using h3
        rw [s2, if_pos ((bv _).2 fun c => h3 c.1)]
      · have h4 : ¬ (-1 ≤ ((es.take 101).getD x (0, 0)).2 ∧ ((es.take 101).getD x (0, 0)).2 ≤ n * r - 1) := by simpa only [Bool.not_eq_true', decide_eq_false_iff_not] using h4
        rw [s2, if_pos ((bv _).2 fun c => h4 c.2)]
      · have h3 : 0 ≤ ((es.take 101).getD x (0, 0)).1 ∧ ((es.take 101).getD x (0, 0)).1 ≤ n * r - 1 := by simpa only [Bool.not_eq_false', decide_eq_true_eq] using h3
        have h4 : -1 ≤ ((es.take 101).getD x (0, 0)).2 ∧ ((es.take 101).getD x (0, 0)).2 ≤ n * r - 1 := by simpa only [Bool.not_eq_false', decide_eq_true_eq] using h4
        rw [s2, if_neg fun c => (bv _).1 c ⟨h3, h4⟩]
  all_goals
    have hx1 : x = (es.take 101).length ∨ ¬ errTo n r m (es.take 101) x = 0 := by
      first
        | exact .inr h2
        | exact .inl (by omega)
    refine ⟨fun h5 => ⟨fun _ => ?_, fun h => absurd (by decide) h⟩, fun h5 => ⟨fun h6 => ?_, fun h6 => ?_⟩⟩
    · have e : serveF n r m (es.take 101) = ([], 3) := by unfold serveF; rw [if_pos (by omega)]
      simp [e]
    · have e := err_some (n := n) (r := r) (m := m) (cs := es.take 101) (k := x) (by omega) h6
      simp [e]
    · obtain ⟨e, hc1, hc2⟩ := tail x hx hx1 (by omega) (Decidable.not_not.1 h6)
      obtain ⟨k1, k2, k3, k4⟩ := hc1
      have hal := ansTo_length n m (es.take 101) (es.take 101).length
      refine ⟨⟨⟨k1, k4⟩, by omega, fun c hc => ?_⟩, ⟨by rw [e]; simp only; omega, by omega⟩, ?_⟩
      · have := hc2 c hc
        omega
      · simp [e]
end Go.SX.Pa
