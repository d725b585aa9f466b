/- Chapter 06, part 10: the reference's colourings. -/
import Derived.Test.YtfbgbdiajghnbaaDoorPa7Q
import Derived.Test.YtfbgbdiajghnbaaDoorPaC
namespace Go.SX.Pa
open Go Go.Proofs
noncomputable section
@[reducible] def p35 : PC := ⟨35, [aEds, aIs], [aB], fun p => p.1.length ≤ 1000 ∧ p.2.length ≤ p.1.length, fun p => properF p.1 p.2⟩
@[reducible] def C35 (p : List Ed × List Int) : Ctx := cx [] [(0, fun _ => upTo p.2.length 5 [0, 1] fun i => ∀ a, a < i → clashF p.1 p.2 a = false), (1, withI 5 fun i => upTo i.toNat 6 [0, 1, 5] fun j => ∀ b, b < j → touch p.1 p.2 i.toNat b = false)]
def g35 (es : List Ed) (l : List Int) : Prop := p35.VC (C35 (es, l)) Tryd.f35 (es, l)
@[reducible] def p30 : PC := ⟨30, [aEds], [aI], fun es => es.length ≤ 1000, fun es => degR es 6⟩
@[reducible] def C30 (es : List Ed) : Ctx := cx [] [(0, fun _ => upToS 6 4 [0] (fun _ => True) fun v => [(3, .c (.int .i64 (degR es v)))]),
  (1, withI 4 fun v => upToS es.length 7 [0, 3, 4] (fun _ => True) fun j => [(5, .c (.int .i64 (cntA (es.take j) v.toNat))), (6, .c (.int .i64 (cntB (es.take j) v.toNat)))])]
def g30 (es : List Ed) : Prop := p30.VC (C30 es) Tryd.f30 es
@[reducible] def p27 : PC := ⟨27, [aI, aI, aEds], [aI], fun p => p.2.2.length ≤ 1000, fun p => graphF p.1 p.2.1 p.2.2⟩
@[reducible] def C27 (p : Int × Int × List Ed) : Ctx := cx [p21.ci] [(0, fun _ => upTo p.2.2.length 7 [0, 1, 2] fun k => (p.2.2.take k).any (badEd p.1 p.2.1) = false)]
def g27 (a c : Int) (es : List Ed) : Prop := p27.VC (C27 (a, c, es)) Tryd.f27 (a, c, es)
@[reducible] def n29 : NC := ⟨29, [aEds, aI, aIs], .int .i64, fun p => (p.1.length ≤ 1000 ∧ p.2.2.length ≤ p.1.length) ∧ 0 ≤ p.2.1 ∧ p.2.1 ≤ 1000, fun p => refC p.1 p.2.1 p.2.2⟩
@[reducible] def m29 (p : List Ed × Int × List Int) : Nat := p.1.length - p.2.2.length
@[reducible] def C29 (p : List Ed × Int × List Int) : Ctx := cx [p35.ci, (n29.below m29 (m29 p)).ci] [(0, fun _ => { τ := Nat, pre := [], preC := [], keep := [0, 1, 2], slots := fun k => [(7, .c (.int .i64 k))], ents := fun _ => [], ok := fun k => (k : Int) ≤ p.2.1 ∧ noRef p.1 p.2.1 p.2.2 k, m := fun k => p.2.1.toNat - k })]
def g29 (es : List Ed) (m : Int) (l : List Int) : Prop := NilVC (C29 (es, m, l)) Tryd.f29 n29 (es, m, l)
end
end Go.SX.Pa
