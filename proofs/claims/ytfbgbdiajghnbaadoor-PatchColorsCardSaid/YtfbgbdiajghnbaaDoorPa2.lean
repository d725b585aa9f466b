/- Chapter 06, part 2: colourings. -/
import Derived.Test.YtfbgbdiajghnbaaDoorPa1Q
namespace Go.SX.Pa
open Go Go.Proofs
noncomputable section
@[reducible] def p59 : PC := ⟨59, [aEds], [aI], fun es => es.length ≤ 1000, degF⟩
@[reducible] def A59 (es : List Ed) : Ann where
  τ := Nat
  pre := []
  preC := []
  keep := [3, 4, 10, 11]
  slots k := [(12, .c (.int .i64 k)), (5, .c (.int .i64 (degTo es k).2.2))]
  ents k := [(0, .tab false (.int .i64) (degTo es k).1), (1, .tab false (.int .i64) (degTo es k).2.1)]
  ok k := k ≤ es.length
  m k := es.length - k
@[reducible] def C59 (es : List Ed) : Ctx := cx [] [(0, fun _ => A59 es)]
def g59 (es : List Ed) : Prop := p59.VC (C59 es) Tryd.f59 es

@[reducible] def H72 : HC where
  f := 72
  X := List Ed × Int × List Int
  Hs x := [.blk 22 [.own 4 0], .blk 36 [.ro tEd x.1], .blk 3 [.int .i64 x.2.1], .blk 34 [.fn 72 [0, 1, 2, 3]], .row 3 (.int .i64) 0 x.2.2]
  ags _ := [.c (.ptr 0 0), .c (.ptr 1 0), .c (.ptr 2 0), .c (.ptr 3 0)]
  Pre x := x.2.2.length ≤ x.1.length ∧ x.1.length ≤ 1000 ∧ 0 ≤ x.2.1 ∧ x.2.1 ≤ 1000
  res x := .c (.bool 0 (extR x.1 x.2.1 x.2.2).isSome)
  out x := [.blk 22 [.own 4 1], .blk 36 [.ro tEd x.1], .blk 3 [.int .i64 x.2.1], .blk 34 [.fn 72 [0, 1, 2, 3]], .row 3 (.int .i64) 1 ((extR x.1 x.2.1 x.2.2).getD x.2.2)]
  fr i := Nat.beq i 4
@[reducible] def pick72 (es : List Ed) (m : Int) (j : Nat) (js : List Nat) : Pick H72.X := fun _ H K => match H[j]? with
  | some (.row _ t _ xs) => if h : t = .int .i64 then K (es, m, (h ▸ xs : List (Ty.int .i64).den)) js else False
  | _ => False
@[reducible] def m72 (x : H72.X) : Nat := x.1.length - x.2.2.length
@[reducible] def A72 (es : List Ed) (m : Int) (out : List Int) : Ann where
  τ := Nat
  pre := []
  preC := []
  keep := [0, 1, 2, 3, 5, 13]
  slots k := [(14, .c (.int .i64 k))]
  ents k := [(0, .blk 22 [.own 4 1]), (4, .row 3 (.int .i64) 0 (loopOut out k))]
  ok k := (k : Int) ≤ m ∧ noExt es m out k
  m k := m.toNat - k
@[reducible] def C72 (x : H72.X) : Ctx := cx [p66.ci, (H72.below m72 (m72 x)).ci (pick72 x.1 x.2.1 4 [0, 1, 2, 3, 4])] [(0, fun _ => A72 x.1 x.2.1 x.2.2)]
def g72 (es : List Ed) (m : Int) (out : List Int) : Prop := HVC (C72 (es, m, out)) Tryd.f72 H72 (es, m, out)

@[reducible] def n58 : NC := ⟨58, [aEds, aI], .int .i64, fun p => p.1.length ≤ 1000 ∧ 0 ≤ p.2 ∧ p.2 ≤ 1000, fun p => colF p.1 p.2⟩
@[reducible] def C58 (p : List Ed × Int) : Ctx := cx [p59.ci, H72.ci (pick72 p.1 p.2 2 [3, 0, 1, 4, 2])] []
def g58 (es : List Ed) (m : Int) : Prop := NilVC (C58 (es, m)) Tryd.f58 n58 (es, m)
end
end Go.SX.Pa
