/- Chapter 06, part 3: Apply. -/
import Derived.Test.YtfbgbdiajghnbaaDoorPa2Q
import Derived.Test.YtfbgbdiajghnbaaDoorPaTr
namespace Go.SX.Pa
open Go Go.Proofs
noncomputable section
@[reducible] def p53 : PC := ⟨53, [aI, aS], [aIs], fun p => (1 ≤ p.1 ∧ p.1 ≤ 3) ∧ p.2.size = swN p.1.toNat ∧ Bits p.2, fun p => applyF p.1.toNat p.2⟩
@[reducible] def A53 (k : Nat) (s : ByteArray) : Ann where
  τ := Nat
  pre := []
  preC := []
  keep := [8, 9, 10, 11, 66]
  slots x := [(67, .c (.int .i64 x))]
  ents x := [(1, .row 3 (.int .i64) 1 (applyTo k s x))]
  ok x := x ≤ 2 * hN k
  m x := 2 * hN k - x
@[reducible] def m53 (p : Int × ByteArray) : Nat := p.1.toNat
@[reducible] def C53 (p : Int × ByteArray) : Ctx := cx [p52.ci, (p53.below m53 (m53 p)).ci] [(0, fun _ => A53 p.1.toNat p.2)]
@[reducible] def p45 : PC := ⟨45, [aI, aS], [aIs, aI], fun p => p.2.size ≤ 1000, fun p => applyP p.1 p.2⟩
def g45 (k : Int) (s : ByteArray) : Prop := p45.VC (cx [p63.ci, p52.ci, p67.ci, p53.ci] []) Tryd.f45 (k, s)
@[reducible] def p60 : PC := ⟨60, [aIs, aIs], [aB], fun p => p.1.length ≤ 1000 ∧ p.2.length ≤ 1000, fun p => beforeF p.1 p.2⟩
@[reducible] def C60 (p : List Int × List Int) : Ctx := cx [] [(0, fun _ => upTo p.1.length 5 [0, 1] fun k => k ≤ p.2.length ∧ beforeF (p.1.drop k) (p.2.drop k) = beforeF p.1 p.2)]
def g60 (a b : List Int) : Prop := p60.VC (C60 (a, b)) Tryd.f60 (a, b)
@[reducible] def p28 : PC := ⟨28, [aIs, aIs], [aB], fun p => p.1.length ≤ 1000 ∧ p.2.length ≤ 1000, fun p => decide (p.1 = p.2)⟩
def g28 (a b : List Int) : Prop := p28.VC (cx [p60.ci] []) Tryd.f28 (a, b)
@[reducible] def p38 : PC := ⟨38, [aI, aI, aI, aIs], [aIs, aI], fun p => p.2.2.2.length ≤ 1000, fun p => routeF p.1 p.2.1 p.2.2.1 p.2.2.2⟩
def g38 (n r m : Int) (l : List Int) : Prop := p38.VC (cx [p61.ci, p62.ci, n58.ci] []) Tryd.f38 (n, r, m, l)
@[reducible] def C71 (a c : Int) (es : List Ed) : Ctx := cx [inl 57 Tryd.f57 (cx [] [])] [(0, fun _ => upTo es.length 8 [0, 1, 6, 7] fun k => (es.take k).any (badEd a c) = false)]
@[reducible] def C56 (a c : Int) (es : List Ed) : Ctx := cx [inl 71 Tryd.f71 (C71 a c es)] []
@[reducible] def p26 : PC := ⟨26, [aI, aI, aEds], [aIs, aI], fun p => p.2.2.length ≤ 1000, fun p => colorsF p.1 p.2.1 p.2.2⟩
@[reducible] def C26 (p : Int × Int × List Ed) : Ctx := cx [inl 56 Tryd.f56 (C56 p.1 p.2.1 p.2.2), p59.ci, n58.ci] []
def g26 (a c : Int) (es : List Ed) : Prop := p26.VC (C26 (a, c, es)) Tryd.f26 (a, c, es)
end
end Go.SX.Pa
