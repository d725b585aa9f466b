/- Chapter 03: the laws, what is asked of each. -/
import Derived.Test.YtmbbalghofbnbaaS2
namespace Go.SX.Sh
open Go Go.Proofs
noncomputable section
@[reducible] def p19 : PC := ⟨19, [], [aB], fun _ => True, fun _ => true⟩
def g19 : Prop := p19.VC (cx [p31.ci, p25.ci, p26.ci, p16.ci, p17.ci, p23.ci, p22.ci] []) Try.f19 ()
@[reducible] def p4 : PC := ⟨4, [aSps, aIs], [aB], fun _ => True, fun _ => true⟩
def badArg (l : List Sp) (c : List Int) (i : Nat) : Int := if checkF l = 0 then (if c.length = l.length then (if (c.take i).any (fun x => decide (x < 0)) = true then 1 else 0) else 1) else checkF l
@[reducible] def C4 (p : List Sp × List Int) : Ctx := cx [p15.ci, p23.ci, p18.ci, p24.ci, p19.ci]
  [(0, fun _ => upToS (p.2.take 41).length 10 [5, 6, 7, 8] (fun _ => True) fun k => [(9, .c (.int .i64 (badArg (p.1.take 41) (p.2.take 41) k)))])]
def g4 (xs : List Sp) (c : List Int) : Prop := p4.VC (C4 (xs, c)) Try.f4 (xs, c)
end
end Go.SX.Sh
