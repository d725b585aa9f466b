/- Chapter 03: Best, its reference, the laws C1 and C2: what is asked of each. -/
import Derived.Test.YtmbbalghofbnbaaS9
import Derived.Test.YtmbbalghofbnbaaShU
namespace Go.SX.Sh
open Go Go.Proofs
noncomputable section
@[reducible] def C52i (n : Int) (r : Nat) : Ctx := cx [] [(0, fun _ => { τ := Nat, pre := [], preC := [], keep := [0, 8], slots := fun k => [(9, .c (.int .i64 k)), (3, .c (.own r 1)), (7, .c (.own r 1))], ents := fun k => [(r, .row 3 tI 0 (belowTo n k))], ok := fun k => k ≤ n.toNat, m := fun k => n.toNat - k })]
@[reducible] def p35 : PC := ⟨35, [aSps], [aIs, aI], fun p => p.length ≤ 1000, fun p => guardF p bestF⟩
@[reducible] def C35 (xs : List Sp) : Ctx := cx [p38.ci, inl 52 Try.f52 (C52i xs.length 1), inl 53 Try.f53 (cx [c63.ci pick63] []), p49.ci]
  [(0, fun _ => { τ := Nat, pre := [(6, 35, tSp)], preC := [], keep := [1, 5, 23, 24], slots := fun k => [(25, .c (.int .i64 k)), (6, .c (.own 2 1))], ents := fun k => [(2, .row 35 tSp 0 (srtF xs ((ordF xs).take k)))], ok := fun k => k ≤ xs.length, m := fun k => xs.length - k }),
   (1, fun _ => { τ := Nat, pre := [], preC := [], keep := [1, 5, 9, 41, 42], slots := fun k => [(43, .c (.int .i64 k))], ents := fun k => [(3, .row 3 tI 1 (scatTo (ordF xs) (firstF (srtF xs (ordF xs))) xs.length k))], ok := fun k => k ≤ xs.length, m := fun k => xs.length - k })]
def g35 (xs : List Sp) : Prop := p35.VC (C35 xs) Try.f35 xs
@[reducible] def p37 : PC := ⟨37, [aSps], [aIs], fun p => checkF p = 0, bestR⟩
@[reducible] def C37 (xs : List Sp) : Ctx := cx [p36.ci]
  [(0, fun _ => { τ := Nat, pre := [], preC := [], keep := [0], slots := fun f => [(5, .c (.int .i64 f)), (3, .c (.own 0 1)), (4, .c (.own 1 1))], ents := fun f => [(0, .row 3 tI 0 (ordR xs f)), (1, .row 35 tSp 0 (srtF xs (ordR xs f)))], ok := fun f => f ≤ 1000, m := fun f => 1000 - f }),
   (1, withI 5 fun f => { τ := Nat, pre := [], preC := [], keep := [0, 5], slots := fun j => [(6, .c (.int .i64 j)), (3, .c (.own 0 2)), (4, .c (.own 1 2))], ents := fun j => [(0, .row 3 tI 0 (ordR xs f.toNat ++ rowR xs f j)), (1, .row 35 tSp 0 (srtF xs (ordR xs f.toNat ++ rowR xs f j)))], ok := fun j => j ≤ xs.length, m := fun j => xs.length - j }),
   (2, fun _ => { τ := Nat, pre := [], preC := [], keep := [0, 3, 7, 8], slots := fun k => [(9, .c (.int .i64 k))], ents := fun k => [(2, .row 3 tI 1 (scatTo (ordR xs 1000) (firstF (srtF xs (ordR xs 1000))) xs.length k))], ok := fun k => k ≤ (ordR xs 1000).length, m := fun k => (ordR xs 1000).length - k })]
def g37 (xs : List Sp) : Prop := p37.VC (C37 xs) Try.f37 xs
@[reducible] def p12 : PC := ⟨12, [aSps], [aB], fun _ => True, fun _ => true⟩
def g12 (xs : List Sp) : Prop := p12.VC (cx [p15.ci, p31.ci, p35.ci, p18.ci, p19.ci, p36.ci, p37.ci, p22.ci] []) Try.f12 xs
@[reducible] def p13 : PC := ⟨13, [aUs], [aB], fun x => ∀ q ∈ x, U16 q, fun _ => true⟩
@[reducible] def C13 : Ctx := cx [p29.ci, p31.ci, p26.ci, p35.ci, p19.ci, p23.ci, p24.ci] [(0, fun _ => upTo 3 71 [3, 69, 70] fun _ => True)]
def g13 (x : List (Int × Int)) : Prop := p13.VC C13 Try.f13 x
@[reducible] def p14 : PC := ⟨14, [aUs, aBs], [aB], fun p => (∀ q ∈ p.1, U16 q) ∧ ∀ b ∈ p.2, 0 ≤ b ∧ b ≤ 255, fun _ => true⟩
def othTo (y : List Int) (i : Nat) : List Int := (List.range i).map fun k => if k < y.length then y.getD k 0 % 6 else (k : Int)
@[reducible] def C14 (p : List (Int × Int) × List Int) : Ctx := cx [p29.ci, p35.ci, p16.ci, p32.ci, p19.ci, p23.ci]
  [(0, fun _ => { τ := Nat, pre := [], preC := [], keep := [1, 5, 8], slots := fun i => [(13, .c (.int .i64 i)), (12, .c (.own 0 1))], ents := fun i => [(0, .row 3 tI 0 (othTo p.2 i))], ok := fun i => i ≤ (madeF p.1 40).length, m := fun i => (madeF p.1 40).length - i })]
def g14 (x : List (Int × Int)) (y : List Int) : Prop := p14.VC (C14 (x, y)) Try.f14 (x, y)
end
end Go.SX.Sh
