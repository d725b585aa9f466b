/- Chapter 03: two more laws, what is asked of each. -/
import Derived.Test.YtmbbalghofbnbaaS3
namespace Go.SX.Sh
open Go Go.Proofs
noncomputable section
@[reducible] def p21 : PC := ⟨21, [], [aSp], fun _ => True, fun _ => (0, 1000)⟩
def g21 : Prop := p21.VC (cx [] []) Try.f21 ()
@[reducible] def p3 : PC := ⟨3, [aSps], [aB], fun _ => True, fun _ => true⟩
@[reducible] def C3 (xs : List Sp) : Ctx := cx [p15.ci, p16.ci, p17.ci, p18.ci, p19.ci, p20.ci, p21.ci, p22.ci]
  [(0, fun _ => { τ := Nat, pre := [], preC := [], keep := [3, 6, 7, 8, 11], slots := fun k => [(13, .c (.int .i64 k)), (12, .c (.own 0 1))], ents := fun k => [(0, .row 3 (.int .i64) 0 (atF ((xs.take 41).take k) (depthR (xs.take 41) (0, 1000)).2))], ok := fun k => k ≤ (xs.take 41).length, m := fun k => (xs.take 41).length - k })]
def g3 (xs : List Sp) : Prop := p3.VC (C3 xs) Try.f3 xs
@[reducible] def p5 : PC := ⟨5, [aSps], [aB], fun _ => True, fun _ => true⟩
def g5 (xs : List Sp) : Prop := p5.VC (cx [p15.ci, p25.ci, p26.ci, p18.ci, p19.ci, p27.ci, p28.ci, p22.ci] []) Try.f5 xs
end
end Go.SX.Sh
