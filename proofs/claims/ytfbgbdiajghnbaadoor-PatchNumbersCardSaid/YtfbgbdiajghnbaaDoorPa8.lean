/- Chapter 06, part 8: the reference's Apply, and the law PatchNumbers. -/
import Derived.Test.YtfbgbdiajghnbaaDoorPa7Q
namespace Go.SX.Pa
open Go Go.Proofs
noncomputable section
def g48 (k : Int) (s : ByteArray) : Prop := p48.VC (C48 (k, s)) Tryd.f48 (k, s)
@[reducible] def p3 : PC := ⟨3, [aI, aIs, aCl], [aB], fun _ => True, fun _ => true⟩
def g3 (k : Int) (l : List Int) (c : Cl) : Prop := p3.VC (cx [p17.ci, p18.ci, p19.ci, p20.ci, p21.ci, p22.ci, p23.ci, p24.ci, p25.ci] []) Tryd.f3 (k, l, c)
end
end Go.SX.Pa
