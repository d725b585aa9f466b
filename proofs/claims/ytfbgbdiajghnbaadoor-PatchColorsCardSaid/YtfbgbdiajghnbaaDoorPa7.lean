/- Chapter 06, part 7: what all laws call. -/
import Derived.Test.YtfbgbdiajghnbaaDoorPa6Q
namespace Go.SX.Pa
open Go Go.Proofs
noncomputable section
@[reducible] def p25 : PC := ⟨25, [], [aB], fun _ => True, fun _ => true⟩
def g25 : Prop := p25.VC (cx [p38.ci, p20.ci, p45.ci, p18.ci, p19.ci, p26.ci, p28.ci] []) Tryd.f25 ()
@[reducible] def p17 : PC := ⟨17, [aIs], [aIs], fun _ => True, fun l => l.take 13⟩
def g17 (l : List Int) : Prop := p17.VC (cx [] []) Tryd.f17 l
@[reducible] def p21 : PC := ⟨21, [aI, aI, aI], [aB], fun _ => True, fun p => decide (p.2.1 ≤ p.1 ∧ p.1 ≤ p.2.2)⟩
def g21 (a b c : Int) : Prop := p21.VC (cx [] []) Tryd.f21 (a, b, c)
@[reducible] def p24 : PC := ⟨24, [aI, aI, aI], [aB], fun _ => True, fun p => decide (ClosP p.1 p.2.1 p.2.2)⟩
def g24 (n r m : Int) : Prop := p24.VC (cx [p21.ci] []) Tryd.f24 (n, r, m)
@[reducible] def p34 : PC := ⟨34, [aIs, aI], [aB], fun p => p.1.length ≤ 1000, fun p => decide (p.2 ∈ p.1)⟩
@[reducible] def C34 (p : List Int × Int) : Ctx := cx [] [(0, fun _ => upTo p.1.length 5 [0, 1] fun k => p.2 ∉ p.1.take k)]
def g34 (l : List Int) (x : Int) : Prop := p34.VC (C34 (l, x)) Tryd.f34 (l, x)
@[reducible] def p22 : PC := ⟨22, [aI, aIs], [aB], fun p => p.2.length ≤ 1000 ∧ 0 ≤ p.1 ∧ p.1 ≤ 1000000, fun p => decide (PermP p.2 p.1)⟩
@[reducible] def C22 (p : Int × List Int) : Ctx := cx [p21.ci, p34.ci] [(0, fun _ => upTo p.2.length 5 [0, 1] fun k => (∀ x ∈ p.2.take k, 0 ≤ x ∧ x < p.1) ∧ (p.2.take k).Nodup)]
def g22 (n : Int) (l : List Int) : Prop := p22.VC (C22 (n, l)) Tryd.f22 (n, l)
@[reducible] def p32 : PC := ⟨32, [aI], [aI], fun k => 1 ≤ k ∧ k ≤ 3, switchesF⟩
@[reducible] def C32 (k : Int) : Ctx := cx [(p32.below (fun k : Int => k.toNat) k.toNat).ci] []
def g32 (k : Int) : Prop := p32.VC (C32 k) Tryd.f32 k
@[reducible] def p55 : PC := ⟨55, [aI, aI], [aS], fun p => 0 ≤ p.1 ∧ p.1 < 64 ∧ 0 ≤ p.2 ∧ p.2 ≤ 6, fun p => writ p.1.toNat p.2.toNat⟩
@[reducible] def C55 (p : Int × Int) : Ctx := cx [] [(0, fun _ => upToS p.2.toNat 6 [0, 1] (fun _ => True) fun i => [(5, .c (.str (writ p.1.toNat i)))])]
def g55 (x n : Int) : Prop := p55.VC (C55 (x, n)) Tryd.f55 (x, n)
@[reducible] def p48 : PC := ⟨48, [aI, aS], [aIs], fun p => (1 ≤ p.1 ∧ p.1 ≤ 3) ∧ p.2.size = swN p.1.toNat ∧ Bits p.2, fun p => applyF p.1.toNat p.2⟩
@[reducible] def A48 (k : Nat) (s : ByteArray) : Ann where
  τ := Nat
  pre := []
  preC := []
  keep := [5, 7, 8, 9]
  slots x := [(11, .c (.int .i64 x)), (10, .c (.own 1 1))]
  ents x := [(1, .row 3 (.int .i64) 0 ((List.range x).map (applyEl k s)))]
  ok x := x ≤ 2 * hN k
  m x := 2 * hN k - x
@[reducible] def C48 (p : Int × ByteArray) : Ctx := cx [p32.ci, (p48.below m53 (m53 p)).ci] [(0, fun _ => A48 p.1.toNat p.2)]
@[reducible] def p23 : PC := ⟨23, [aI, aIs], [aI], fun p => 1 ≤ p.1 ∧ p.1 ≤ 2 ∧ p.2.length ≤ 1000, fun p => (waysTo p.1.toNat p.2 (2 ^ swN p.1.toNat) : Nat)⟩
@[reducible] def C23 (p : Int × List Int) : Ctx := cx [p32.ci, p55.ci, p48.ci, p28.ci] [(0, fun _ => upToS (2 ^ swN p.1.toNat) 7 [0, 1, 6] (fun _ => True) fun x => [(5, .c (.int .i64 (waysTo p.1.toNat p.2 x)))])]
def g23 (k : Int) (l : List Int) : Prop := p23.VC (C23 (k, l)) Tryd.f23 (k, l)
end
end Go.SX.Pa
