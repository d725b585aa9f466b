/- Chapter 03: the library's stable sort, what is asked of each. -/
import Derived.Test.YtmbbalghofbnbaaSxR
import Derived.Test.YtmbbalghofbnbaaS6
import Derived.Test.YtmbbalghofbnbaaShT
namespace Go.SX.Sh
open Go Go.Proofs
noncomputable section
abbrev tI : Ty := .int .i64
/-- A row of integers among the entries; the variable that holds the intervals. -/
def rowI (H : List Ent) (i : Nat) (K : List Int → Prop) : Prop := match H[i]? with
  | some (.row _ t _ xs) => if h : t = tI then K (h ▸ xs : List tI.den) else False
  | _ => False
def boxSp (H : List Ent) (j : Nat) (K : List Sp → Prop) : Prop := match H[j]? with
  | some (.blk _ [.ro t sp]) => if h : t = tSp then K (h ▸ sp : List tSp.den) else False
  | _ => False
theorem rowI_ex {H : List Ent} {i : Nat} {K : List Int → Prop} (h : rowI H i K) : ∃ xs, K xs := by
  unfold rowI at h
  split at h
  · split at h
    · exact ⟨_, h⟩
    · exact h.elim
  · exact h.elim
theorem boxSp_ex {H : List Ent} {i : Nat} {K : List Sp → Prop} (h : boxSp H i K) : ∃ xs, K xs := by
  unfold boxSp at h
  split at h
  · split at h
    · exact ⟨_, h⟩
    · exact h.elim
  · exact h.elim
/-- The keys: the intervals are valid, the elements are their indices. -/
def Keys (sp : List Sp) (xs : List Int) : Prop := (∀ e ∈ xs, 0 ≤ e ∧ e < sp.length) ∧ ∀ s ∈ sp, 0 ≤ s.1 ∧ s.1 ≤ 1000
@[reducible] def hRow (xs : List Int) : List Ent := [.row 3 tI 0 xs]
@[reducible] def hBoth (xs : List Int) (sp : List Sp) : List Ent := [.row 3 tI 0 xs, .blk 22 [.ro tSp sp]]
@[reducible] def cmpSV : SV := .c (.fn 54 [1])
@[reducible] def iSV (n : Int) : SV := .c (.int .i64 n)

@[reducible] def X4 : Type := List Int × Int × Int × Int
@[reducible] def c68 : HC := { f := 68, X := X4, Hs := fun x => hRow x.1, ags := fun x => [.c (.own 0 0), iSV x.2.1, iSV x.2.2.1, iSV x.2.2.2, .c .any], Pre := fun x => (0 ≤ x.2.1 ∧ 0 ≤ x.2.2.2 ∧ x.2.1 + x.2.2.2 ≤ x.2.2.1) ∧ x.2.2.1 + x.2.2.2 ≤ x.1.length ∧ x.1.length ≤ 1000, res := fun _ => .tup [], out := fun x => hRow (swapR x.1 x.2.1.toNat x.2.2.1.toNat x.2.2.2.toNat), fr := fun _ => false }
@[reducible] def pick68 : Pick X4 := fun args H K => match args with
  | [.c (.own i _), .c (.int _ a), .c (.int _ b), .c (.int _ n), _] => rowI H i fun xs => K (xs, a, b, n) [i]
  | _ => False
@[reducible] def C68 (x : X4) : Ctx := cx [] [(0, fun _ => { τ := Nat, pre := [], preC := [], keep := [0, 1, 2, 3], slots := fun k => [(10, .c (.int .i64 k))], ents := fun k => [(0, .row 3 tI 1 (swapR x.1 x.2.1.toNat x.2.2.1.toNat k))], ok := fun k => k ≤ x.2.2.2.toNat, m := fun k => x.2.2.2.toNat - k })]
def g68 (xs : List Int) (a b n : Int) : Prop := HVC (C68 (xs, a, b, n)) Try.f68 c68 (xs, a, b, n)

@[reducible] def c67 : HC := { f := 67, X := X4, Hs := fun x => hRow x.1, ags := fun x => [.c (.own 0 0), iSV x.2.1, iSV x.2.2.1, iSV x.2.2.2, .c .any], Pre := fun x => (0 ≤ x.2.1 ∧ x.2.1 < x.2.2.1 ∧ x.2.2.1 < x.2.2.2) ∧ x.2.2.2 ≤ x.1.length ∧ x.1.length ≤ 1000, res := fun _ => .tup [], out := fun x => hRow (rotF x.1 x.2.1.toNat x.2.2.1.toNat x.2.2.2.toNat), fr := fun _ => false }
@[reducible] def C67 (x : X4) : Ctx := cx [c68.ci pick68] [(0, fun _ => { τ := Nat × Nat × List Int, pre := [], preC := [], keep := [0, 1, 2, 3, 4], slots := fun k => [(10, .c (.int .i64 k.1)), (11, .c (.int .i64 k.2.1))], ents := fun k => [(0, .row 3 tI 1 k.2.2)], ok := fun k => (0 < k.1 ∧ 0 < k.2.1 ∧ k.1 ≤ x.2.2.1.toNat - x.2.1.toNat ∧ k.2.1 ≤ x.2.2.2.toNat - x.2.2.1.toNat) ∧ k.2.2.length = x.1.length ∧ rotF k.2.2 (x.2.2.1.toNat - k.1) x.2.2.1.toNat (x.2.2.1.toNat + k.2.1) = rotF x.1 x.2.1.toNat x.2.2.1.toNat x.2.2.2.toNat, m := fun k => k.1 + k.2.1 })]
def g67 (xs : List Int) (a m b : Int) : Prop := HVC (C67 (xs, a, m, b)) Try.f67 c67 (xs, a, m, b)

@[reducible] def X5 : Type := List Int × Int × Int × List Sp
@[reducible] def c65 : HC := { f := 65, X := X5, Hs := fun x => hBoth x.1 x.2.2.2, ags := fun x => [.c (.own 0 0), iSV x.2.1, iSV x.2.2.1, cmpSV], Pre := fun x => (0 ≤ x.2.1 ∧ x.2.1 ≤ x.2.2.1 ∧ x.2.2.1 ≤ x.1.length ∧ x.1.length ≤ 1000) ∧ Keys x.2.2.2 x.1 ∧ Stab x.2.2.2 x.1 x.2.1.toNat x.2.2.1.toNat, res := fun _ => .tup [], out := fun x => hBoth (sortSeg x.2.2.2 x.1 x.2.1.toNat x.2.2.1.toNat) x.2.2.2, fr := fun _ => false }
@[reducible] def pick65 : Pick X5 := fun args H K => match args with
  | [.c (.own i _), .c (.int _ a), .c (.int _ b), .c (.fn _ [j])] => rowI H i fun xs => boxSp H j fun sp => K (xs, a, b, sp) [i, j]
  | _ => False
/-- Sorted but for one place. -/
def ExOn (sp : List Sp) (ys : List Int) (a i j : Nat) : Prop := ∀ p q, a ≤ p → p < q → q ≤ i → q ≠ j → leB sp (ys.getD p 0) (ys.getD q 0) = true
@[reducible] def cmpCI : CI := inl 54 Try.f54 (cx [] [])
@[reducible] def C65 (x : X5) : Ctx := cx [cmpCI]
  [(0, fun _ => { τ := Nat × List Int, pre := [], preC := [], keep := [0, 1, 2, 3], slots := fun k => [(8, .c (.int .i64 k.1))], ents := fun k => [(0, .row 3 tI 1 k.2)], ok := fun k => (x.2.1.toNat + 1 ≤ k.1 ∧ k.1 ≤ max x.2.2.1.toNat (x.2.1.toNat + 1)) ∧ SegOK x.1 k.2 x.2.1.toNat x.2.2.1.toNat ∧ Stab x.2.2.2 k.2 x.2.1.toNat x.2.2.1.toNat ∧ SortedOn x.2.2.2 k.2 x.2.1.toNat k.1, m := fun k => x.2.2.1.toNat + 1 - k.1 }),
   (1, withI 8 fun i => { τ := Nat × List Int, pre := [], preC := [], keep := [0, 1, 2, 3, 8], slots := fun k => [(9, .c (.int .i64 k.1))], ents := fun k => [(0, .row 3 tI 1 k.2)], ok := fun k => (x.2.1.toNat ≤ k.1 ∧ k.1 ≤ i.toNat) ∧ SegOK x.1 k.2 x.2.1.toNat x.2.2.1.toNat ∧ Stab x.2.2.2 k.2 x.2.1.toNat x.2.2.1.toNat ∧ ExOn x.2.2.2 k.2 x.2.1.toNat i.toNat k.1, m := fun k => k.1 })]
def g65 (xs : List Int) (a b : Int) (sp : List Sp) : Prop := HVC (C65 (xs, a, b, sp)) Try.f65 c65 (xs, a, b, sp)
end
end Go.SX.Sh
