/- Chapter 03: the laws C3 to C8, what is asked of each. -/
import Derived.Test.YtmbbalghofbnbaaS6
import Derived.Test.YtmbbalghofbnbaaShE
namespace Go.SX.Sh
open Go Go.Proofs
noncomputable section
def nearTo (l : List Sp) (v : List Int) (i k : Nat) : Nat := cR (nearB l v i) k
@[reducible] def p6 : PC := ⟨6, [aUs], [aB], fun x => ∀ q ∈ x, U16 q, fun _ => true⟩
@[reducible] def C6 (x : List (Int × Int)) : Ctx := cx [p29.ci, p26.ci, p25.ci, p16.ci, p19.ci, p30.ci]
  [(0, fun _ => upTo (madeF x 60).length 10 [3, 4, 6, 8] fun _ => True),
   (1, withI 10 fun i => upToS (madeF x 60).length 12 [3, 4, 6, 8, 10] (fun _ => True) fun k => [(11, .c (.int .i64 (nearTo (madeF x 60) (levelsF (madeF x 60)) i.toNat k)))])]
def g6 (x : List (Int × Int)) : Prop := p6.VC (C6 x) Try.f6 x
@[reducible] def p7 : PC := ⟨7, [aUs], [aB], fun x => ∀ q ∈ x, U16 q, fun _ => true⟩
def g7 (x : List (Int × Int)) : Prop := p7.VC (cx [p29.ci, p31.ci, p16.ci, p32.ci, p19.ci] []) Try.f7 x
@[reducible] def p8 : PC := ⟨8, [aUs, aU8], [aB], fun p => (∀ q ∈ p.1, U16 q) ∧ 0 ≤ p.2 ∧ p.2 ≤ 255, fun _ => true⟩
def g8 (x : List (Int × Int)) (m : Int) : Prop := p8.VC (cx [p29.ci, p31.ci, p26.ci, p25.ci, p22.ci, p19.ci] []) Try.f8 (x, m)
@[reducible] def p9 : PC := ⟨9, [aUs], [aB], fun x => ∀ q ∈ x, U16 q, fun _ => true⟩
@[reducible] def C9 (x : List (Int × Int)) : Ctx := cx [p29.ci, p33.ci, p19.ci]
  [(0, fun _ => { τ := Nat, pre := [], preC := [], keep := [3], slots := fun k => [(5, .c (.int .i64 k)), (4, .c (.own 0 1))], ents := fun k => [(0, .row 35 tSp 0 (((madeF x 1000).take k).map mir))], ok := fun k => k ≤ (madeF x 1000).length, m := fun k => (madeF x 1000).length - k })]
def g9 (x : List (Int × Int)) : Prop := p9.VC (C9 x) Try.f9 x
@[reducible] def p10 : PC := ⟨10, [aUs, aU8], [aB], fun p => (∀ q ∈ p.1, U16 q) ∧ 0 ≤ p.2 ∧ p.2 ≤ 255, fun _ => true⟩
@[reducible] def C10 (p : List (Int × Int) × Int) : Ctx := cx [p29.ci, p33.ci, p19.ci]
  [(0, fun _ => { τ := Nat, pre := [], preC := [], keep := [3, 5, 7], slots := fun k => [(8, .c (.int .i64 k)), (6, .c (.own 0 1))], ents := fun k => [(0, .row 35 tSp 0 (((madeF p.1 50).take k).map (str (p.2 % 20 + 1))))], ok := fun k => k ≤ (madeF p.1 50).length, m := fun k => (madeF p.1 50).length - k })]
def g10 (x : List (Int × Int)) (m : Int) : Prop := p10.VC (C10 (x, m)) Try.f10 (x, m)
@[reducible] def p11 : PC := ⟨11, [aUs], [aB], fun x => ∀ q ∈ x, U16 q, fun _ => true⟩
@[reducible] def C11 (x : List (Int × Int)) : Ctx := cx [p29.ci, p16.ci, p17.ci, p19.ci, p34.ci, p30.ci]
  [(0, fun _ => upTo (deepF (madeF x 60)).2.length 9 [3, 6, 7] fun _ => True),
   (1, withI 9 fun i => upTo i.toNat 10 [3, 6, 7, 9] fun _ => True)]
def g11 (x : List (Int × Int)) : Prop := p11.VC (C11 x) Try.f11 x
end
end Go.SX.Sh
