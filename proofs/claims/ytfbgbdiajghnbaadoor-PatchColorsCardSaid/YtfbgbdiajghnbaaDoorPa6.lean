/- Chapter 06, part 6: Ways, and what the laws call. -/
import Derived.Test.YtfbgbdiajghnbaaDoorPa5
namespace Go.SX.Pa
open Go Go.Proofs
noncomputable section
@[reducible] def p18 : PC := ⟨18, [aI, aIs], [aI, aI], fun p => p.2.length ≤ 1000, fun p => waysF p.1 p.2⟩
@[reducible] def A18a (k : Nat) (l : List Int) : Ann := upToS (2 ^ swN k) 29 [0, 1, 28] (fun _ => True) fun x => [(6, .c (.int .i64 (waysTo k l x)))]
@[reducible] def A18b (x n : Nat) : Ann where
  τ := Nat
  pre := []
  preC := []
  keep := [0, 1, 6, 7, 8, 28, 29, 36]
  slots i := [(37, .c (.int .i64 i))]
  ents i := [(0, .row 5 (.int .u8) 1 (letTo x n i))]
  ok i := i ≤ n
  m i := n - i
@[reducible] def A18c (k x : Nat) (l : List Int) : Ann := upToS (applyF k (writ x (swN k))).length 55 [0, 1, 6, 7, 28, 29, 53, 54] (fun _ => True) fun i => [(10, .c (.bool 0 (cmpTo (applyF k (writ x (swN k))) l i)))]
@[reducible] def C18 (p : Int × List Int) : Ctx := cx [p51.ci, p52.ci, p53.ci] [(0, fun _ => A18a p.1.toNat p.2), (1, withI 29 fun x => A18b x.toNat (swN p.1.toNat)), (2, withI 29 fun x => A18c p.1.toNat x.toNat p.2)]
def g18 (k : Int) (l : List Int) : Prop := p18.VC (C18 (k, l)) Tryd.f18 (k, l)
end
end Go.SX.Pa
