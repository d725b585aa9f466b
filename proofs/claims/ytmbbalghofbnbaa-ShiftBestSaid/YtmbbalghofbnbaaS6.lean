/- Chapter 03: the laws' helpers, what is asked of each. -/
import Derived.Test.YtmbbalghofbnbaaS3
import Derived.Test.YtmbbalghofbnbaaShM
namespace Go.SX.Sh
open Go Go.Proofs
noncomputable section
@[reducible] def p29 : PC := ⟨29, [aUs, aI], [aSps], fun p => (∀ q ∈ p.1, U16 q) ∧ 0 ≤ p.2 ∧ p.2 ≤ 1000, fun p => madeF p.1 p.2⟩
@[reducible] def C29 (p : List (Int × Int) × Int) : Ctx := cx []
  [(0, fun _ => { τ := Nat, pre := [], preC := [], keep := [0, 1], slots := fun k => [(6, .c (.int .i64 k)), (5, .c (.own 0 1))], ents := fun k => [(0, .row 35 tSp 0 ((p.1.take k).filterMap (mk1 p.2)))], ok := fun k => k ≤ min p.1.length 40, m := fun k => p.1.length - k })]
def g29 (x : List (Int × Int)) (p : Int) : Prop := p29.VC (C29 (x, p)) Try.f29 (x, p)
@[reducible] def p32 : PC := ⟨32, [aIs], [aI, aI], fun p => p.length ≤ 100 ∧ ∀ x ∈ p, 0 ≤ x ∧ x ≤ 1000, mostF⟩
@[reducible] def C32 (l : List Int) : Ctx := cx [p50.ci]
  [(0, fun _ => { τ := Nat, pre := [], preC := [], keep := [0], slots := fun k => [(6, .c (.int .i64 k)), (5, .c (.int .i64 (topF (l.take k)))), (4, .c (.own 0 1))], ents := fun k => [(0, .row 3 (.int .i64) 0 (seenF (l.take k)))], ok := fun k => k ≤ l.length, m := fun k => l.length - k })]
def g32 (l : List Int) : Prop := p32.VC (C32 l) Try.f32 l
@[reducible] def p33 : PC := ⟨33, [aSps, aSps], [aB], fun p => checkF p.1 = 0 ∧ checkF p.2 = 0, fun p => decide (((deepF p.1).2.length = (deepF p.2).2.length ∧ firstF p.1 = firstF p.2) ∧ trotF p.1 = trotF p.2)⟩
def g33 (x y : List Sp) : Prop := p33.VC (cx [p16.ci, p31.ci, p26.ci, p22.ci] []) Try.f33 (x, y)
end
end Go.SX.Sh
