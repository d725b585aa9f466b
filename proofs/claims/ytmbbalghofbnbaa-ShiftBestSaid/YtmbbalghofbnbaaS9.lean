/- Chapter 03: merging in place, the stable sort: what is asked of each. -/
import Derived.Test.YtmbbalghofbnbaaS8
namespace Go.SX.Sh
open Go Go.Proofs
noncomputable section
@[reducible] def X6 : Type := List Int × Int × Int × Int × List Sp
@[reducible] def c66 : HC := { f := 66, X := X6, Hs := fun x => hBoth x.1 x.2.2.2.2, ags := fun x => [.c (.own 0 0), iSV x.2.1, iSV x.2.2.1, iSV x.2.2.2.1, cmpSV], Pre := fun x => (0 ≤ x.2.1 ∧ x.2.1 < x.2.2.1 ∧ x.2.2.1 < x.2.2.2.1 ∧ x.2.2.2.1 ≤ x.1.length ∧ x.1.length ≤ 1000) ∧ Keys x.2.2.2.2 x.1 ∧ Stab x.2.2.2.2 x.1 x.2.1.toNat x.2.2.2.1.toNat ∧ SortedOn x.2.2.2.2 x.1 x.2.1.toNat x.2.2.1.toNat ∧ SortedOn x.2.2.2.2 x.1 x.2.2.1.toNat x.2.2.2.1.toNat, res := fun _ => .tup [], out := fun x => hBoth (sortSeg x.2.2.2.2 x.1 x.2.1.toNat x.2.2.2.1.toNat) x.2.2.2.2, fr := fun _ => false }
@[reducible] def pick66 : Pick X6 := fun args H K => match args with
  | [.c (.own i _), .c (.int _ a), .c (.int _ m), .c (.int _ b), .c (.fn _ [j])] => rowI H i fun xs => boxSp H j fun sp => K (xs, a, m, b, sp) [i, j]
  | _ => False
@[reducible] def m66 : X6 → Nat := fun x => x.2.2.2.1.toNat - x.2.1.toNat
def midF (a b : Nat) : Nat := (a + b) / 2
def loF (a m b : Nat) : Nat := if midF a b < m then midF a b + m - b else a
def hiF (a m b : Nat) : Nat := if midF a b < m then midF a b else m
@[reducible] def C66 (x : X6) : Ctx := cx [cmpCI, c67.ci pick68, (c66.below m66 (m66 x)).ci pick66]
  [(0, fun _ => { τ := Nat × Nat, pre := [], preC := [], keep := [0, 1, 2, 3, 4], slots := fun k => [(10, .c (.int .i64 k.1)), (11, .c (.int .i64 k.2))], ents := fun _ => [], ok := fun k => (x.2.2.1.toNat ≤ k.1 ∧ k.1 ≤ k.2 ∧ k.2 ≤ x.2.2.2.1.toNat) ∧ (k.1 = x.2.2.1.toNat ∨ kf x.2.2.2.2 (x.1.getD (k.1 - 1) 0) < kf x.2.2.2.2 (x.1.getD x.2.1.toNat 0)) ∧ (k.2 = x.2.2.2.1.toNat ∨ ¬ kf x.2.2.2.2 (x.1.getD k.2 0) < kf x.2.2.2.2 (x.1.getD x.2.1.toNat 0)), m := fun k => k.2 - k.1 }),
   (1, withI 10 fun i => { τ := Nat, pre := [], preC := [], keep := [0, 1, 2, 3, 4, 10], slots := fun t => [(13, .c (.int .i64 (x.2.1.toNat + t : Nat)))], ents := fun t => [(0, .row 3 tI 1 (rotF x.1 x.2.1.toNat (x.2.1.toNat + 1) (x.2.1.toNat + 1 + t)))], ok := fun t => x.2.1.toNat + 1 + t ≤ i.toNat, m := fun t => i.toNat - t }),
   (2, fun _ => { τ := Nat × Nat, pre := [], preC := [], keep := [0, 1, 2, 3, 4], slots := fun k => [(14, .c (.int .i64 k.1)), (15, .c (.int .i64 k.2))], ents := fun _ => [], ok := fun k => (x.2.1.toNat ≤ k.1 ∧ k.1 ≤ k.2 ∧ k.2 ≤ x.2.2.1.toNat) ∧ (k.1 = x.2.1.toNat ∨ ¬ kf x.2.2.2.2 (x.1.getD x.2.2.1.toNat 0) < kf x.2.2.2.2 (x.1.getD (k.1 - 1) 0)) ∧ (k.2 = x.2.2.1.toNat ∨ kf x.2.2.2.2 (x.1.getD x.2.2.1.toNat 0) < kf x.2.2.2.2 (x.1.getD k.2 0)), m := fun k => k.2 - k.1 }),
   (3, withI 14 fun i => { τ := Nat, pre := [], preC := [], keep := [0, 1, 2, 3, 4, 14], slots := fun k => [(17, .c (.int .i64 k))], ents := fun k => [(0, .row 3 tI 1 (rotF x.1 k x.2.2.1.toNat (x.2.2.1.toNat + 1)))], ok := fun k => i.toNat ≤ k ∧ k ≤ x.2.2.1.toNat, m := fun k => k }),
   (4, fun _ => { τ := Nat × Nat, pre := [], preC := [], keep := [0, 1, 2, 3, 4, 18, 19, 22], slots := fun k => [(20, .c (.int .i64 k.1)), (21, .c (.int .i64 k.2))], ents := fun _ => [], ok := fun k => (loF x.2.1.toNat x.2.2.1.toNat x.2.2.2.1.toNat ≤ k.1 ∧ k.1 ≤ k.2 ∧ k.2 ≤ hiF x.2.1.toNat x.2.2.1.toNat x.2.2.2.1.toNat) ∧ (k.1 = loF x.2.1.toNat x.2.2.1.toNat x.2.2.2.1.toNat ∨ ¬ kf x.2.2.2.2 (x.1.getD (midF x.2.1.toNat x.2.2.2.1.toNat + x.2.2.1.toNat - k.1) 0) < kf x.2.2.2.2 (x.1.getD (k.1 - 1) 0)) ∧ (k.2 = hiF x.2.1.toNat x.2.2.1.toNat x.2.2.2.1.toNat ∨ kf x.2.2.2.2 (x.1.getD (midF x.2.1.toNat x.2.2.2.1.toNat + x.2.2.1.toNat - 1 - k.2) 0) < kf x.2.2.2.2 (x.1.getD k.2 0)), m := fun k => k.2 - k.1 })]
def g66 (xs : List Int) (a m b : Int) (sp : List Sp) : Prop := HVC (C66 (xs, a, m, b, sp)) Try.f66 c66 (xs, a, m, b, sp)

@[reducible] def X3 : Type := List Int × Int × List Sp
@[reducible] def c63 : HC := { f := 63, X := X3, Hs := fun x => hBoth x.1 x.2.2, ags := fun x => [.c (.own 0 0), iSV x.2.1, cmpSV], Pre := fun x => (x.2.1 = x.1.length ∧ x.1.length ≤ 40) ∧ Keys x.2.2 x.1 ∧ Stab x.2.2 x.1 0 x.1.length, res := fun _ => .tup [], out := fun x => hBoth (sortSeg x.2.2 x.1 0 x.1.length) x.2.2, fr := fun _ => false }
@[reducible] def pick63 : Pick X3 := fun args H K => match args with
  | [.c (.own i _), .c (.int _ n), .c (.fn _ [j])] => rowI H i fun xs => boxSp H j fun sp => K (xs, n, sp) [i, j]
  | _ => False
/-- Sorted in blocks of 20, or as a whole. -/
def Blk (sp : List Sp) (ys : List Int) (n B : Nat) : Prop := (B = 20 ∧ SortedOn sp ys 0 (min 20 n) ∧ SortedOn sp ys 20 n) ∨ (B = 40 ∧ SortedOn sp ys 0 n)
@[reducible] def C63 (x : X3) : Ctx := cx [c65.ci pick65, c66.ci pick66]
  [(0, fun _ => { τ := Nat × List Int, pre := [], preC := [], keep := [0, 1, 2, 6], slots := fun k => [(7, .c (.int .i64 (20 * k.1 : Nat))), (8, .c (.int .i64 (20 * k.1 + 20 : Nat)))], ents := fun k => [(0, .row 3 tI 1 k.2)], ok := fun k => (k.1 ≤ 2 ∧ 20 * k.1 ≤ x.1.length) ∧ SegOK x.1 k.2 0 x.1.length ∧ Stab x.2.2 k.2 0 x.1.length ∧ (1 ≤ k.1 → SortedOn x.2.2 k.2 0 20) ∧ (2 ≤ k.1 → SortedOn x.2.2 k.2 20 40), m := fun k => 2 - k.1 }),
   (1, fun _ => { τ := Nat × List Int, pre := [], preC := [], keep := [0, 1, 2], slots := fun k => [(6, .c (.int .i64 k.1))], ents := fun k => [(0, .row 3 tI 1 k.2)], ok := fun k => SegOK x.1 k.2 0 x.1.length ∧ Stab x.2.2 k.2 0 x.1.length ∧ Blk x.2.2 k.2 x.1.length k.1, m := fun k => 40 - k.1 }),
   (2, withI 6 fun B => { τ := Nat × List Int, pre := [], preC := [], keep := [0, 1, 2, 6], slots := fun k => [(7, .c (.int .i64 (40 * k.1 : Nat))), (8, .c (.int .i64 (40 * k.1 + 40 : Nat)))], ents := fun k => [(0, .row 3 tI 1 k.2)], ok := fun k => (B = 20 ∧ k.1 ≤ 1 ∧ 40 * k.1 ≤ x.1.length) ∧ SegOK x.1 k.2 0 x.1.length ∧ Stab x.2.2 k.2 0 x.1.length ∧ (k.1 = 0 → SortedOn x.2.2 k.2 0 (min 20 x.1.length) ∧ SortedOn x.2.2 k.2 20 x.1.length) ∧ (k.1 = 1 → SortedOn x.2.2 k.2 0 x.1.length), m := fun k => 1 - k.1 })]
def g63 (xs : List Int) (n : Int) (sp : List Sp) : Prop := HVC (C63 (xs, n, sp)) Try.f63 c63 (xs, n, sp)
end
end Go.SX.Sh
