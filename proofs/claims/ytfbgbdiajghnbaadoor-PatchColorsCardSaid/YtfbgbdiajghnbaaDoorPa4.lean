/- Chapter 06, part 4: apply, which calls itself. -/
import Derived.Test.YtfbgbdiajghnbaaDoorPa3
namespace Go.SX.Pa
open Go Go.Proofs
def g53 (k : Int) (s : ByteArray) : Prop := p53.VC (C53 (k, s)) Tryd.f53 (k, s)
end Go.SX.Pa
