/- Parts of the proof, one after the other: WzY5 WzY5E WzY5Q. -/
import Derived.Test.YtgbnkmhabhgigaaGreatM15
import Derived.Test.YtgbnkmhabhgigaaGreatM17
import Derived.Test.YtgbnkmhabhgigaaGreatM18
/- Chapter 08: the law of Ryavec, what is asked. -/
namespace Go.SX.We
open Go Go.Proofs
noncomputable section
abbrev aWs : ATy := (false, .slice (.int .u16))
abbrev aU8 : ATy := (false, .int .u8)
@[reducible] def p32 : PC := ⟨11, [aWs, aI], [aIs], fun p => (∀ v ∈ p.1, 0 ≤ v ∧ v ≤ 65535) ∧ 1 ≤ p.2 ∧ p.2 ≤ 12, fun p => madeF p.1 p.2.toNat⟩
@[reducible] def A32 (x : List Int) (m : Nat) : Ann where
  τ := Nat
  pre := []
  preC := []
  keep := [0, 1]
  slots k := [(5, .c (.own 0 1)), (6, .c (.int .i64 (madeS x k))), (7, .c (.int .i64 k))]
  ents k := [(0, .row 3 (.int .i64) 0 (madeL x k))]
  ok k := k ≤ min x.length m
  m k := min x.length m - k
@[reducible] def C32 (p : List Int × Int) : Ctx := cx [] [(0, fun _ => A32 p.1 p.2.toNat)]
def g32 (x : List Int) (m : Int) : Prop := p32.VC (C32 (x, m)) Tryz.f11 (x, m)
@[reducible] def p37 : PC := ⟨12, [aWs, aB], [aIs], fun p => ∀ v ∈ p.1, 0 ≤ v ∧ v ≤ 65535, fun p => dblF p.1 p.2⟩
@[reducible] def A37a (b : Int) (l : List Int) : Ann where
  τ := Nat
  pre := []
  preC := []
  keep := [6]
  slots k := [(7, .c (.int .i64 k)), (5, .c (.int .i64 b))]
  ents k := [(0, .row 3 (.int .i64) 1 (mulTo b l k))]
  ok k := k ≤ l.length
  m k := l.length - k
@[reducible] def A37b (x : List Int) : Ann where
  τ := Nat
  pre := []
  preC := []
  keep := [0]
  slots k := [(8, .c (.own 0 1)), (9, .c (.int .i64 (dbS x k))), (10, .c (.int .i64 k))]
  ents k := [(0, .row 3 (.int .i64) 0 (dbL x k))]
  ok k := k ≤ min x.length 12
  m k := min x.length 12 - k
@[reducible] def C37 (p : List Int × Bool) : Ctx := cx [inl 36 Tryz.f36 (C31 ((min p.1.length 11 + 1 : Nat) : Int))] [(0, fun _ => A37a (byF p.1) (setF (min p.1.length 11 + 1))), (1, fun _ => A37b p.1)]
def g37 (x : List Int) (g : Bool) : Prop := p37.VC (C37 (x, g)) Tryz.f12 (x, g)
@[reducible] def p4 : PC := ⟨4, [aWs, aU8], [aB], fun p => (∀ v ∈ p.1, 0 ≤ v ∧ v ≤ 65535) ∧ 0 ≤ p.2 ∧ p.2 ≤ 255, fun _ => true⟩
def g4 (x : List Int) (k : Int) : Prop := p4.VC (cx [p32.ci, p37.ci, p18.ci, p16.ci, p19.ci, Nm.p6r.ci, Nm.r14.ci, Nm.r15.ci, Nm.r16.ci, Nm.r17.ci, Nm.r18.ci] []) Tryz.f4 (x, k)
end
end Go.SX.We

/- Printed by VC.lean: what the executor asks. -/
namespace Go.SX.We
open Go Go.Proofs IntKind List
theorem g32_eq (x : List Int) (m : Int) : g32 x m = ((∃ (x0 : Nat), x0 ≤ min x.length m.toNat ∧ (nilT Int = madeL x x0 ∧ True) ∧ True ∧ 0 = madeS x x0 ∧ 0 = (x0 : Int) ∧ x = x ∧ m = m ∧ True) ∧ ∀ (x_1 : Nat), x_1 ≤ min x.length m.toNat → ((x_1 : Int) < (x.length : Int) → (x_1 : Int) < (x.length : Int) ∧ (x_1 : Int) < (x.length : Int) ∧ ((x_1 : Int) < m → (x_1 : Int) < m ∧ (x_1 : Int) < m ∧ (0 ≤ (x_1 : Int) ∧ (x_1 : Int) < (x.length : Int)) ∧ Fits .i64 (x.getD (x_1 : Int).toNat 0) ∧ (0 ≤ x.getD (x_1 : Int).toNat 0 ∧ (0 : Int) < 8000) ∧ Fits .i64 (x.getD (x_1 : Int).toNat 0 % 8000 + 1) ∧ Fits .i64 (madeS x x_1 + (x.getD (x_1 : Int).toNat 0 % 8000 + 1)) ∧ Small ((madeL x x_1).length + ((0 : Nat) + 1)) ∧ Fits .i64 ((x_1 : Int) + 1) ∧ ∃ (x' : Nat), x' ≤ min x.length m.toNat ∧ min x.length m.toNat - x' < min x.length m.toNat - x_1 ∧ (madeL x x_1 ++ [madeS x x_1 + (x.getD (x_1 : Int).toNat 0 % 8000 + 1)] = madeL x x' ∧ True) ∧ True ∧ madeS x x_1 + (x.getD (x_1 : Int).toNat 0 % 8000 + 1) = madeS x x' ∧ (x_1 : Int) + 1 = (x' : Int) ∧ x = x ∧ m = m ∧ True) ∧ (¬(x_1 : Int) < m → ¬(x_1 : Int) < m ∧ ¬(x_1 : Int) < m ∧ ((↑(madeL x x_1).length : Int) = 0 → (↑(madeL x x_1).length : Int) = 0 ∧ [1] = madeF x m.toNat) ∧ (¬(↑(madeL x x_1).length : Int) = 0 → ¬(↑(madeL x x_1).length : Int) = 0 ∧ madeL x x_1 = madeF x m.toNat))) ∧ (¬(x_1 : Int) < (x.length : Int) → ¬(x_1 : Int) < (x.length : Int) ∧ ¬(x_1 : Int) < (x.length : Int) ∧ ((↑(madeL x x_1).length : Int) = 0 → (↑(madeL x x_1).length : Int) = 0 ∧ [1] = madeF x m.toNat) ∧ (¬(↑(madeL x x_1).length : Int) = 0 → ¬(↑(madeL x x_1).length : Int) = 0 ∧ madeL x x_1 = madeF x m.toNat))) := by kernel_rfl
theorem g37_eq (x : List Int) (g : Bool) : g37 x g = ((g = true → g = true ∧ (0 < (x.length : Int) → 0 < (x.length : Int) ∧ ((0 : Int) ≤ 0 ∧ 0 < (x.length : Int)) ∧ Fits .i64 (x.getD (Int.toNat 0) 0) ∧ (0 ≤ x.getD (Int.toNat 0) 0 ∧ (0 : Int) < 40) ∧ Fits .i64 (x.getD (Int.toNat 0) 0 % 40 + 1) ∧ Fits .i64 (min (x.length : Int) 11 + 1) ∧ min (x.length : Int) 11 + (1 : Int) ≤ 60 ∧ Fits .i64 (min (x.length : Int) 11 + 1 - 1) ∧ (∃ (x0 : Nat), x0 ≤ (↑(min x.length (11 : Nat) + 1) : Int).toNat ∧ (nilT Int = List.map (fun (j : Nat) => guyF (↑(min x.length (11 : Nat) + 1) : Int).toNat - guyF ((↑(min x.length (11 : Nat) + 1) : Int).toNat - 1 - j)) (List.range x0) ∧ True) ∧ True ∧ min (x.length : Int) 11 + 1 - 1 = (↑(↑(min x.length (11 : Nat) + 1) : Int).toNat : Int) - 1 - (x0 : Int) ∧ uL ((min (x.length : Int) 11 + 1).toNat - 1) = uL ((min (x.length : Int) 11 + 1).toNat - 1) ∧ min (x.length : Int) 11 + 1 = min (x.length : Int) 11 + 1 ∧ True) ∧ ∀ (x_1 : Nat), x_1 ≤ (↑(min x.length (11 : Nat) + 1) : Int).toNat → (0 ≤ (↑(↑(min x.length (11 : Nat) + 1) : Int).toNat : Int) - 1 - (x_1 : Int) → 0 ≤ (↑(↑(min x.length (11 : Nat) + 1) : Int).toNat : Int) - 1 - (x_1 : Int) ∧ (0 ≤ min (x.length : Int) 11 + 1 ∧ min (x.length : Int) 11 + 1 < (↑(uL ((min (x.length : Int) 11 + 1).toNat - 1)).length : Int)) ∧ (0 ≤ (↑(↑(min x.length (11 : Nat) + 1) : Int).toNat : Int) - 1 - (x_1 : Int) ∧ (↑(↑(min x.length (11 : Nat) + 1) : Int).toNat : Int) - 1 - (x_1 : Int) < (↑(uL ((min (x.length : Int) 11 + 1).toNat - 1)).length : Int)) ∧ Fits .i64 ((uL ((min (x.length : Int) 11 + 1).toNat - 1)).getD (min (x.length : Int) 11 + 1).toNat 0 - (uL ((min (x.length : Int) 11 + 1).toNat - 1)).getD ((↑(↑(min x.length (11 : Nat) + 1) : Int).toNat : Int) - 1 - (x_1 : Int)).toNat 0) ∧ Small ((List.map (fun (j : Nat) => guyF (↑(min x.length (11 : Nat) + 1) : Int).toNat - guyF ((↑(min x.length (11 : Nat) + 1) : Int).toNat - 1 - j)) (List.range x_1)).length + ((0 : Nat) + 1)) ∧ Fits .i64 ((↑(↑(min x.length (11 : Nat) + 1) : Int).toNat : Int) - 1 - (x_1 : Int) - 1) ∧ ∃ (x' : Nat), x' ≤ (↑(min x.length (11 : Nat) + 1) : Int).toNat ∧ (↑(min x.length (11 : Nat) + 1) : Int).toNat - x' < (↑(min x.length (11 : Nat) + 1) : Int).toNat - x_1 ∧ (List.map (fun (j : Nat) => guyF (↑(min x.length (11 : Nat) + 1) : Int).toNat - guyF ((↑(min x.length (11 : Nat) + 1) : Int).toNat - 1 - j)) (List.range x_1) ++ [(uL ((min (x.length : Int) 11 + 1).toNat - 1)).getD (min (x.length : Int) 11 + 1).toNat 0 - (uL ((min (x.length : Int) 11 + 1).toNat - 1)).getD ((↑(↑(min x.length (11 : Nat) + 1) : Int).toNat : Int) - 1 - (x_1 : Int)).toNat 0] = List.map (fun (j : Nat) => guyF (↑(min x.length (11 : Nat) + 1) : Int).toNat - guyF ((↑(min x.length (11 : Nat) + 1) : Int).toNat - 1 - j)) (List.range x') ∧ True) ∧ True ∧ (↑(↑(min x.length (11 : Nat) + 1) : Int).toNat : Int) - 1 - (x_1 : Int) - 1 = (↑(↑(min x.length (11 : Nat) + 1) : Int).toNat : Int) - 1 - (x' : Int) ∧ uL ((min (x.length : Int) 11 + 1).toNat - 1) = uL ((min (x.length : Int) 11 + 1).toNat - 1) ∧ min (x.length : Int) 11 + 1 = min (x.length : Int) 11 + 1 ∧ True) ∧ (¬0 ≤ (↑(↑(min x.length (11 : Nat) + 1) : Int).toNat : Int) - 1 - (x_1 : Int) → ¬0 ≤ (↑(↑(min x.length (11 : Nat) + 1) : Int).toNat : Int) - 1 - (x_1 : Int) ∧ (∃ (x0 : Nat), x0 ≤ (setF (min x.length (11 : Nat) + 1)).length ∧ (List.map (fun (j : Nat) => guyF (↑(min x.length (11 : Nat) + 1) : Int).toNat - guyF ((↑(min x.length (11 : Nat) + 1) : Int).toNat - 1 - j)) (List.range x_1) = mulTo (byF x) (setF (min x.length (11 : Nat) + 1)) x0 ∧ True) ∧ 0 = (x0 : Int) ∧ x.getD (Int.toNat 0) 0 % 40 + 1 = byF x ∧ True ∧ True) ∧ ∀ (x_2 : Nat), x_2 ≤ (setF (min x.length (11 : Nat) + 1)).length → ((x_2 : Int) < (↑(mulTo (byF x) (setF (min x.length (11 : Nat) + 1)) x_2).length : Int) → (x_2 : Int) < (↑(mulTo (byF x) (setF (min x.length (11 : Nat) + 1)) x_2).length : Int) ∧ (0 ≤ (x_2 : Int) ∧ (x_2 : Int) < (↑(mulTo (byF x) (setF (min x.length (11 : Nat) + 1)) x_2).length : Int)) ∧ Fits .i64 ((mulTo (byF x) (setF (min x.length (11 : Nat) + 1)) x_2).getD (x_2 : Int).toNat 0 * byF x) ∧ (0 ≤ (x_2 : Int) ∧ (x_2 : Int) < (↑(mulTo (byF x) (setF (min x.length (11 : Nat) + 1)) x_2).length : Int)) ∧ Fits .i64 ((x_2 : Int) + 1) ∧ ∃ (x' : Nat), x' ≤ (setF (min x.length (11 : Nat) + 1)).length ∧ (setF (min x.length (11 : Nat) + 1)).length - x' < (setF (min x.length (11 : Nat) + 1)).length - x_2 ∧ ((mulTo (byF x) (setF (min x.length (11 : Nat) + 1)) x_2).set (x_2 : Int).toNat ((mulTo (byF x) (setF (min x.length (11 : Nat) + 1)) x_2).getD (x_2 : Int).toNat 0 * byF x) = mulTo (byF x) (setF (min x.length (11 : Nat) + 1)) x' ∧ True) ∧ (x_2 : Int) + 1 = (x' : Int) ∧ byF x = byF x ∧ True ∧ True) ∧ (¬(x_2 : Int) < (↑(mulTo (byF x) (setF (min x.length (11 : Nat) + 1)) x_2).length : Int) → ¬(x_2 : Int) < (↑(mulTo (byF x) (setF (min x.length (11 : Nat) + 1)) x_2).length : Int) ∧ mulTo (byF x) (setF (min x.length (11 : Nat) + 1)) x_2 = dblF x g))) ∧ (¬0 < (x.length : Int) → ¬0 < (x.length : Int) ∧ Fits .i64 (min (x.length : Int) 11 + 1) ∧ min (x.length : Int) 11 + (1 : Int) ≤ 60 ∧ Fits .i64 (min (x.length : Int) 11 + 1 - 1) ∧ (∃ (x0 : Nat), x0 ≤ (↑(min x.length (11 : Nat) + 1) : Int).toNat ∧ (nilT Int = List.map (fun (j : Nat) => guyF (↑(min x.length (11 : Nat) + 1) : Int).toNat - guyF ((↑(min x.length (11 : Nat) + 1) : Int).toNat - 1 - j)) (List.range x0) ∧ True) ∧ True ∧ min (x.length : Int) 11 + 1 - 1 = (↑(↑(min x.length (11 : Nat) + 1) : Int).toNat : Int) - 1 - (x0 : Int) ∧ uL ((min (x.length : Int) 11 + 1).toNat - 1) = uL ((min (x.length : Int) 11 + 1).toNat - 1) ∧ min (x.length : Int) 11 + 1 = min (x.length : Int) 11 + 1 ∧ True) ∧ ∀ (x_1 : Nat), x_1 ≤ (↑(min x.length (11 : Nat) + 1) : Int).toNat → (0 ≤ (↑(↑(min x.length (11 : Nat) + 1) : Int).toNat : Int) - 1 - (x_1 : Int) → 0 ≤ (↑(↑(min x.length (11 : Nat) + 1) : Int).toNat : Int) - 1 - (x_1 : Int) ∧ (0 ≤ min (x.length : Int) 11 + 1 ∧ min (x.length : Int) 11 + 1 < (↑(uL ((min (x.length : Int) 11 + 1).toNat - 1)).length : Int)) ∧ (0 ≤ (↑(↑(min x.length (11 : Nat) + 1) : Int).toNat : Int) - 1 - (x_1 : Int) ∧ (↑(↑(min x.length (11 : Nat) + 1) : Int).toNat : Int) - 1 - (x_1 : Int) < (↑(uL ((min (x.length : Int) 11 + 1).toNat - 1)).length : Int)) ∧ Fits .i64 ((uL ((min (x.length : Int) 11 + 1).toNat - 1)).getD (min (x.length : Int) 11 + 1).toNat 0 - (uL ((min (x.length : Int) 11 + 1).toNat - 1)).getD ((↑(↑(min x.length (11 : Nat) + 1) : Int).toNat : Int) - 1 - (x_1 : Int)).toNat 0) ∧ Small ((List.map (fun (j : Nat) => guyF (↑(min x.length (11 : Nat) + 1) : Int).toNat - guyF ((↑(min x.length (11 : Nat) + 1) : Int).toNat - 1 - j)) (List.range x_1)).length + ((0 : Nat) + 1)) ∧ Fits .i64 ((↑(↑(min x.length (11 : Nat) + 1) : Int).toNat : Int) - 1 - (x_1 : Int) - 1) ∧ ∃ (x' : Nat), x' ≤ (↑(min x.length (11 : Nat) + 1) : Int).toNat ∧ (↑(min x.length (11 : Nat) + 1) : Int).toNat - x' < (↑(min x.length (11 : Nat) + 1) : Int).toNat - x_1 ∧ (List.map (fun (j : Nat) => guyF (↑(min x.length (11 : Nat) + 1) : Int).toNat - guyF ((↑(min x.length (11 : Nat) + 1) : Int).toNat - 1 - j)) (List.range x_1) ++ [(uL ((min (x.length : Int) 11 + 1).toNat - 1)).getD (min (x.length : Int) 11 + 1).toNat 0 - (uL ((min (x.length : Int) 11 + 1).toNat - 1)).getD ((↑(↑(min x.length (11 : Nat) + 1) : Int).toNat : Int) - 1 - (x_1 : Int)).toNat 0] = List.map (fun (j : Nat) => guyF (↑(min x.length (11 : Nat) + 1) : Int).toNat - guyF ((↑(min x.length (11 : Nat) + 1) : Int).toNat - 1 - j)) (List.range x') ∧ True) ∧ True ∧ (↑(↑(min x.length (11 : Nat) + 1) : Int).toNat : Int) - 1 - (x_1 : Int) - 1 = (↑(↑(min x.length (11 : Nat) + 1) : Int).toNat : Int) - 1 - (x' : Int) ∧ uL ((min (x.length : Int) 11 + 1).toNat - 1) = uL ((min (x.length : Int) 11 + 1).toNat - 1) ∧ min (x.length : Int) 11 + 1 = min (x.length : Int) 11 + 1 ∧ True) ∧ (¬0 ≤ (↑(↑(min x.length (11 : Nat) + 1) : Int).toNat : Int) - 1 - (x_1 : Int) → ¬0 ≤ (↑(↑(min x.length (11 : Nat) + 1) : Int).toNat : Int) - 1 - (x_1 : Int) ∧ (∃ (x0 : Nat), x0 ≤ (setF (min x.length (11 : Nat) + 1)).length ∧ (List.map (fun (j : Nat) => guyF (↑(min x.length (11 : Nat) + 1) : Int).toNat - guyF ((↑(min x.length (11 : Nat) + 1) : Int).toNat - 1 - j)) (List.range x_1) = mulTo (byF x) (setF (min x.length (11 : Nat) + 1)) x0 ∧ True) ∧ 0 = (x0 : Int) ∧ 1 = byF x ∧ True ∧ True) ∧ ∀ (x_2 : Nat), x_2 ≤ (setF (min x.length (11 : Nat) + 1)).length → ((x_2 : Int) < (↑(mulTo (byF x) (setF (min x.length (11 : Nat) + 1)) x_2).length : Int) → (x_2 : Int) < (↑(mulTo (byF x) (setF (min x.length (11 : Nat) + 1)) x_2).length : Int) ∧ (0 ≤ (x_2 : Int) ∧ (x_2 : Int) < (↑(mulTo (byF x) (setF (min x.length (11 : Nat) + 1)) x_2).length : Int)) ∧ Fits .i64 ((mulTo (byF x) (setF (min x.length (11 : Nat) + 1)) x_2).getD (x_2 : Int).toNat 0 * byF x) ∧ (0 ≤ (x_2 : Int) ∧ (x_2 : Int) < (↑(mulTo (byF x) (setF (min x.length (11 : Nat) + 1)) x_2).length : Int)) ∧ Fits .i64 ((x_2 : Int) + 1) ∧ ∃ (x' : Nat), x' ≤ (setF (min x.length (11 : Nat) + 1)).length ∧ (setF (min x.length (11 : Nat) + 1)).length - x' < (setF (min x.length (11 : Nat) + 1)).length - x_2 ∧ ((mulTo (byF x) (setF (min x.length (11 : Nat) + 1)) x_2).set (x_2 : Int).toNat ((mulTo (byF x) (setF (min x.length (11 : Nat) + 1)) x_2).getD (x_2 : Int).toNat 0 * byF x) = mulTo (byF x) (setF (min x.length (11 : Nat) + 1)) x' ∧ True) ∧ (x_2 : Int) + 1 = (x' : Int) ∧ byF x = byF x ∧ True ∧ True) ∧ (¬(x_2 : Int) < (↑(mulTo (byF x) (setF (min x.length (11 : Nat) + 1)) x_2).length : Int) → ¬(x_2 : Int) < (↑(mulTo (byF x) (setF (min x.length (11 : Nat) + 1)) x_2).length : Int) ∧ mulTo (byF x) (setF (min x.length (11 : Nat) + 1)) x_2 = dblF x g)))) ∧ (g = false → g = false ∧ (∃ (x0 : Nat), x0 ≤ min x.length (12 : Nat) ∧ (nilT Int = dbL x x0 ∧ True) ∧ True ∧ 0 = dbS x x0 ∧ 0 = (x0 : Int) ∧ x = x ∧ True) ∧ ∀ (x_1 : Nat), x_1 ≤ min x.length (12 : Nat) → ((x_1 : Int) < (x.length : Int) → (x_1 : Int) < (x.length : Int) ∧ (x_1 : Int) < (x.length : Int) ∧ ((x_1 : Int) < 12 → (x_1 : Int) < 12 ∧ (x_1 : Int) < 12 ∧ Fits .i64 (dbS x x_1 + 1) ∧ (0 ≤ (x_1 : Int) ∧ (x_1 : Int) < (x.length : Int)) ∧ Fits .i64 (x.getD (x_1 : Int).toNat 0) ∧ (0 ≤ x.getD (x_1 : Int).toNat 0 ∧ (0 : Int) < 12) ∧ Fits .i64 (dbS x x_1 + 1 + x.getD (x_1 : Int).toNat 0 % 12) ∧ Small ((dbL x x_1).length + ((0 : Nat) + 1)) ∧ (0 ≤ (x_1 : Int) ∧ (x_1 : Int) < (↑(dbL x x_1 ++ [dbS x x_1 + 1 + x.getD (x_1 : Int).toNat 0 % 12]).length : Int)) ∧ Fits .i64 (dbS x x_1 + (dbL x x_1 ++ [dbS x x_1 + 1 + x.getD (x_1 : Int).toNat 0 % 12]).getD (x_1 : Int).toNat 0) ∧ Fits .i64 ((x_1 : Int) + 1) ∧ ∃ (x' : Nat), x' ≤ min x.length (12 : Nat) ∧ min x.length (12 : Nat) - x' < min x.length (12 : Nat) - x_1 ∧ (dbL x x_1 ++ [dbS x x_1 + 1 + x.getD (x_1 : Int).toNat 0 % 12] = dbL x x' ∧ True) ∧ True ∧ dbS x x_1 + (dbL x x_1 ++ [dbS x x_1 + 1 + x.getD (x_1 : Int).toNat 0 % 12]).getD (x_1 : Int).toNat 0 = dbS x x' ∧ (x_1 : Int) + 1 = (x' : Int) ∧ x = x ∧ True) ∧ (¬(x_1 : Int) < 12 → ¬(x_1 : Int) < 12 ∧ ¬(x_1 : Int) < 12 ∧ ((↑(dbL x x_1).length : Int) = 0 → (↑(dbL x x_1).length : Int) = 0 ∧ [1] = dblF x g) ∧ (¬(↑(dbL x x_1).length : Int) = 0 → ¬(↑(dbL x x_1).length : Int) = 0 ∧ dbL x x_1 = dblF x g))) ∧ (¬(x_1 : Int) < (x.length : Int) → ¬(x_1 : Int) < (x.length : Int) ∧ ¬(x_1 : Int) < (x.length : Int) ∧ ((↑(dbL x x_1).length : Int) = 0 → (↑(dbL x x_1).length : Int) = 0 ∧ [1] = dblF x g) ∧ (¬(↑(dbL x x_1).length : Int) = 0 → ¬(↑(dbL x x_1).length : Int) = 0 ∧ dbL x x_1 = dblF x g)))) := by kernel_rfl
abbrev pQ (L : List Int) : Nm.DN × Nm.DN := Nm.ratZ (Nm.parF (Nm.bytesL (Nm.recF L).fst))
def Qg4 (L : List Int) : Prop := L.length ≤ 1000 ∧ (¬checkF L (12 : Int) = 0 → ¬checkF L (12 : Int) = 0 ∧ True ∧ true = true) ∧ (¬¬checkF L (12 : Int) = 0 → ¬¬checkF L (12 : Int) = 0 ∧ L.length ≤ 1000 ∧ L.length ≤ 1000 ∧ ((distinctF L).snd = 0 → (distinctF L).snd = 0 ∧ (distinctF L).snd = 0 ∧ ((Nm.recF L).snd = 0 → (Nm.recF L).snd = 0 ∧ (Nm.recF L).snd = 0 ∧ (Nm.recF L).snd = 0 ∧ ((0 : Nat) + 1 ≤ 1000 ∧ ∀ (s : ByteArray), s ∈ [(Nm.recF L).fst] → Nm.ParP (Nm.bytesL s)) ∧ ((0 : Int) = 0 → (0 : Int) = 0 ∧ (0 : Int) = 0 ∧ (0 : Int) = 0 ∧ ((!(distinctF L).fst) = true → (!(distinctF L).fst) = true ∧ (!(distinctF L).fst) = true ∧ Nm.ParP (Nm.bytesL (Nm.recF L).fst) ∧ (∃ (z : Int), ((pQ L).fst.fst, (pQ L).fst.snd) = Nm.intB 10000 z ∧ Nm.absI z < 10000 ^ 500) ∧ (0 < Nm.sgnF (Nm.vZ ((pQ L).fst.fst, (pQ L).fst.snd)) → 0 < Nm.sgnF (Nm.vZ ((pQ L).fst.fst, (pQ L).fst.snd)) ∧ 0 < Nm.sgnF (Nm.vZ ((pQ L).fst.fst, (pQ L).fst.snd)) ∧ 0 < Nm.sgnF (Nm.vZ ((pQ L).fst.fst, (pQ L).fst.snd)) ∧ True ∧ true = true) ∧ (¬0 < Nm.sgnF (Nm.vZ ((pQ L).fst.fst, (pQ L).fst.snd)) → ¬0 < Nm.sgnF (Nm.vZ ((pQ L).fst.fst, (pQ L).fst.snd)) ∧ ¬0 < Nm.sgnF (Nm.vZ ((pQ L).fst.fst, (pQ L).fst.snd)) ∧ ¬0 < Nm.sgnF (Nm.vZ ((pQ L).fst.fst, (pQ L).fst.snd)) ∧ false = true)) ∧ ((!(distinctF L).fst) = false → (!(distinctF L).fst) = false ∧ (!(distinctF L).fst) = false ∧ Nm.ParP (Nm.bytesL (Nm.recF L).fst) ∧ ((0 : Int) ≤ 2 ∧ (2 : Int) ≤ 1000000) ∧ ((∃ (n : Int), ∃ (d : Int), (((pQ L).fst.fst, (pQ L).fst.snd), (pQ L).snd.fst, (pQ L).snd.snd) = Nm.ratZ (n, d) ∧ 0 ≤ n ∧ 0 < d ∧ n < 10000 ^ 200 ∧ d < 10000 ^ 200) ∧ ∃ (n : Int), ∃ (d : Int), (((Nm.ratZ (2, (1 : Int))).fst.fst, (Nm.ratZ (2, (1 : Int))).fst.snd), (Nm.ratZ (2, (1 : Int))).snd.fst, (Nm.ratZ (2, (1 : Int))).snd.snd) = Nm.ratZ (n, d) ∧ 0 ≤ n ∧ 0 < d ∧ n < 10000 ^ 200 ∧ d < 10000 ^ 200) ∧ (Nm.sgnF (Nm.vZ ((pQ L).fst.fst, (pQ L).fst.snd) * Nm.vZ ((Nm.ratZ (2, (1 : Int))).snd.fst, (Nm.ratZ (2, (1 : Int))).snd.snd) - Nm.vZ ((Nm.ratZ (2, (1 : Int))).fst.fst, (Nm.ratZ (2, (1 : Int))).fst.snd) * Nm.vZ ((pQ L).snd.fst, (pQ L).snd.snd)) < 0 → Nm.sgnF (Nm.vZ ((pQ L).fst.fst, (pQ L).fst.snd) * Nm.vZ ((Nm.ratZ (2, (1 : Int))).snd.fst, (Nm.ratZ (2, (1 : Int))).snd.snd) - Nm.vZ ((Nm.ratZ (2, (1 : Int))).fst.fst, (Nm.ratZ (2, (1 : Int))).fst.snd) * Nm.vZ ((pQ L).snd.fst, (pQ L).snd.snd)) < 0 ∧ Nm.sgnF (Nm.vZ ((pQ L).fst.fst, (pQ L).fst.snd) * Nm.vZ ((Nm.ratZ (2, (1 : Int))).snd.fst, (Nm.ratZ (2, (1 : Int))).snd.snd) - Nm.vZ ((Nm.ratZ (2, (1 : Int))).fst.fst, (Nm.ratZ (2, (1 : Int))).fst.snd) * Nm.vZ ((pQ L).snd.fst, (pQ L).snd.snd)) < 0 ∧ Nm.sgnF (Nm.vZ ((pQ L).fst.fst, (pQ L).fst.snd) * Nm.vZ ((Nm.ratZ (2, (1 : Int))).snd.fst, (Nm.ratZ (2, (1 : Int))).snd.snd) - Nm.vZ ((Nm.ratZ (2, (1 : Int))).fst.fst, (Nm.ratZ (2, (1 : Int))).fst.snd) * Nm.vZ ((pQ L).snd.fst, (pQ L).snd.snd)) < 0 ∧ Nm.sgnF (Nm.vZ ((pQ L).fst.fst, (pQ L).fst.snd) * Nm.vZ ((Nm.ratZ (2, (1 : Int))).snd.fst, (Nm.ratZ (2, (1 : Int))).snd.snd) - Nm.vZ ((Nm.ratZ (2, (1 : Int))).fst.fst, (Nm.ratZ (2, (1 : Int))).fst.snd) * Nm.vZ ((pQ L).snd.fst, (pQ L).snd.snd)) < 0 ∧ Nm.ParP (Nm.bytesL (Nm.recF L).fst) ∧ (∃ (z : Int), ((pQ L).fst.fst, (pQ L).fst.snd) = Nm.intB 10000 z ∧ Nm.absI z < 10000 ^ 500) ∧ (0 < Nm.sgnF (Nm.vZ ((pQ L).fst.fst, (pQ L).fst.snd)) → 0 < Nm.sgnF (Nm.vZ ((pQ L).fst.fst, (pQ L).fst.snd)) ∧ 0 < Nm.sgnF (Nm.vZ ((pQ L).fst.fst, (pQ L).fst.snd)) ∧ 0 < Nm.sgnF (Nm.vZ ((pQ L).fst.fst, (pQ L).fst.snd)) ∧ True ∧ true = true) ∧ (¬0 < Nm.sgnF (Nm.vZ ((pQ L).fst.fst, (pQ L).fst.snd)) → ¬0 < Nm.sgnF (Nm.vZ ((pQ L).fst.fst, (pQ L).fst.snd)) ∧ ¬0 < Nm.sgnF (Nm.vZ ((pQ L).fst.fst, (pQ L).fst.snd)) ∧ ¬0 < Nm.sgnF (Nm.vZ ((pQ L).fst.fst, (pQ L).fst.snd)) ∧ false = true)) ∧ (¬Nm.sgnF (Nm.vZ ((pQ L).fst.fst, (pQ L).fst.snd) * Nm.vZ ((Nm.ratZ (2, (1 : Int))).snd.fst, (Nm.ratZ (2, (1 : Int))).snd.snd) - Nm.vZ ((Nm.ratZ (2, (1 : Int))).fst.fst, (Nm.ratZ (2, (1 : Int))).fst.snd) * Nm.vZ ((pQ L).snd.fst, (pQ L).snd.snd)) < 0 → ¬Nm.sgnF (Nm.vZ ((pQ L).fst.fst, (pQ L).fst.snd) * Nm.vZ ((Nm.ratZ (2, (1 : Int))).snd.fst, (Nm.ratZ (2, (1 : Int))).snd.snd) - Nm.vZ ((Nm.ratZ (2, (1 : Int))).fst.fst, (Nm.ratZ (2, (1 : Int))).fst.snd) * Nm.vZ ((pQ L).snd.fst, (pQ L).snd.snd)) < 0 ∧ ¬Nm.sgnF (Nm.vZ ((pQ L).fst.fst, (pQ L).fst.snd) * Nm.vZ ((Nm.ratZ (2, (1 : Int))).snd.fst, (Nm.ratZ (2, (1 : Int))).snd.snd) - Nm.vZ ((Nm.ratZ (2, (1 : Int))).fst.fst, (Nm.ratZ (2, (1 : Int))).fst.snd) * Nm.vZ ((pQ L).snd.fst, (pQ L).snd.snd)) < 0 ∧ ¬Nm.sgnF (Nm.vZ ((pQ L).fst.fst, (pQ L).fst.snd) * Nm.vZ ((Nm.ratZ (2, (1 : Int))).snd.fst, (Nm.ratZ (2, (1 : Int))).snd.snd) - Nm.vZ ((Nm.ratZ (2, (1 : Int))).fst.fst, (Nm.ratZ (2, (1 : Int))).fst.snd) * Nm.vZ ((pQ L).snd.fst, (pQ L).snd.snd)) < 0 ∧ ¬Nm.sgnF (Nm.vZ ((pQ L).fst.fst, (pQ L).fst.snd) * Nm.vZ ((Nm.ratZ (2, (1 : Int))).snd.fst, (Nm.ratZ (2, (1 : Int))).snd.snd) - Nm.vZ ((Nm.ratZ (2, (1 : Int))).fst.fst, (Nm.ratZ (2, (1 : Int))).fst.snd) * Nm.vZ ((pQ L).snd.fst, (pQ L).snd.snd)) < 0 ∧ false = true))) ∧ (¬(0 : Int) = 0 → ¬(0 : Int) = 0 ∧ ¬(0 : Int) = 0 ∧ ¬(0 : Int) = 0 ∧ false = true)) ∧ (¬(Nm.recF L).snd = 0 → ¬(Nm.recF L).snd = 0 ∧ ¬(Nm.recF L).snd = 0 ∧ ¬(Nm.recF L).snd = 0 ∧ false = true)) ∧ (¬(distinctF L).snd = 0 → ¬(distinctF L).snd = 0 ∧ ¬(distinctF L).snd = 0 ∧ false = true))
theorem g4_eq (x : List Int) (k : Int) : g4 x k = (((∀ (v : Int), v ∈ x → 0 ≤ v ∧ v ≤ 65535) ∧ (1 : Int) ≤ 8 ∧ (8 : Int) ≤ 12) ∧ (0 ≤ k ∧ (0 : Int) < 3) ∧ (0 < k % 3 → 0 < k % 3 ∧ ((0 : Int) ≤ 0 ∧ (↑(0 : Nat) : Int) ≤ min (x.length : Int) 8 ∧ min (x.length : Int) 8 ≤ (x.length : Int)) ∧ (0 ≤ k ∧ (0 : Int) < 3) ∧ (∀ (v : Int), v ∈ drop (↑(0 : Nat) : Int).toNat (take (min (x.length : Int) 8).toNat x) → 0 ≤ v ∧ v ≤ 65535) ∧ Qg4 (dblF (drop (↑(0 : Nat) : Int).toNat (take (min (x.length : Int) 8).toNat x)) (decide (k % (3 : Int) = 1)))) ∧ (¬0 < k % 3 → ¬0 < k % 3 ∧ Qg4 (madeF x (Int.toNat 8)))) := by kernel_rfl
end Go.SX.We

/- Chapter 08: the law of Ryavec, proved. -/
namespace Go.SX.We
open Go Go.Proofs
theorem ok32 : p32.OK Tryz.prog := p32.ok (fn := Tryz.f11) C32 (fun _ => cx_ok (cs := []) trivial _) (by kernel_rfl) (by kernel_rfl) (by kernel_rfl) fun p hp => by
  have key : ∀ (x : List Int) (m : Int), (∀ v ∈ x, 0 ≤ v ∧ v ≤ 65535) → 1 ≤ m → m ≤ 12 → g32 x m := fun x m hx h1 h2 => by
    refine (g32_eq x m).mpr ?_
    simp only [pp1, eq_self, and_true, true_and, Int.toNat_natCast, madeL_length]
    have fin : ∀ k : Nat, k = min x.length m.toNat → ((k : Int) = 0 → [1] = madeF x m.toNat) ∧ (¬ (k : Int) = 0 → madeL x k = madeF x m.toNat) := fun k hk => by
      unfold madeF
      rw [← hk]
      exact ⟨fun h => by rw [decide_eq_true (show k = 0 by omega)]; rfl, fun h => by rw [decide_eq_false (show ¬ k = 0 by omega)]; rfl⟩
    refine ⟨⟨0, by omega, rfl, rfl, rfl⟩, fun k hk => ⟨fun h3 => ⟨fun h4 => ?_, fun h4 => fin k (by omega)⟩, fun h3 => fin k (by omega)⟩⟩
    have hv := hx _ (getD_mem x 0 (k := k) (by omega))
    have hs := madeS_small x k
    exact ⟨by omega, fi (by omega) (by omega), by omega, fi (by omega) (by omega), fi (by omega) (by omega), by unfold Small; omega, fi (by omega) (by omega), k + 1, by omega, by omega, (madeL_snoc x k).symm, rfl, by omega⟩
  exact key p.1 p.2 hp.1 hp.2.1 hp.2.2
theorem c31_ok (n : Int) : (inl 36 Tryz.f36 (C31 n)).OK Tryz.prog := inl_ok (cx_ok (cs := [p30.ci]) ⟨PC.OK.ci ok30, trivial⟩ _) (by kernel_rfl) (by kernel_rfl) (by kernel_rfl)
theorem mul_fit {a b : Int} (h1 : -100000 ≤ a) (h2 : a ≤ 100000) (h3 : 0 ≤ b) (h4 : b ≤ 100000) : Fits .i64 (a * b) := by
  have h5 : a * b ≤ 100000 * 100000 := Int.le_trans (Int.mul_le_mul_of_nonneg_right h2 h3) (Int.mul_le_mul_of_nonneg_left h4 (by decide))
  have h6 : -(100000 * 100000) ≤ a * b := by
    have : -100000 * b ≤ a * b := Int.mul_le_mul_of_nonneg_right h1 h3
    omega
  exact fi (by omega) (by omega)
theorem ok37 : p37.OK Tryz.prog := p37.ok (fn := Tryz.f12) C37 (fun p => cx_ok (cs := [inl 36 Tryz.f36 (C31 ((min p.1.length 11 + 1 : Nat) : Int))]) ⟨c31_ok _, trivial⟩ _) (by kernel_rfl) (by kernel_rfl) (by kernel_rfl) fun p hp => by
  have key : ∀ (x : List Int) (g : Bool), (∀ v ∈ x, 0 ≤ v ∧ v ≤ 65535) → g37 x g := fun x g hx => by
    refine (g37_eq x g).mpr ?_
    have e0 : Int.toNat 0 = 0 := rfl
    simp only [pp1, eq_self, and_true, true_and, Int.toNat_natCast, e0, setF_length, mulTo_length, nilT]
    refine ⟨fun hg => ?_, fun hg => ?_⟩
    · subst hg
      obtain ⟨n, hn⟩ : ∃ n, min x.length 11 + 1 = n := ⟨_, rfl⟩
      have en : min (x.length : Int) 11 + 1 = (n : Int) := by omega
      rw [hn, en, Int.toNat_natCast]
      have hn1 : 1 ≤ n := by omega
      have hn2 : n ≤ 12 := by omega
      have hs := setF_small (n := n) hn2
      have hb := byF_pos x
      refine ⟨fun hl => ⟨by omega, ?_, ?_, ?_, ?_⟩, fun hl => ?_⟩
      · have := hx _ (getD_mem x 0 (k := 0) (by omega)); exact fi (by omega) (by omega)
      · have := hx _ (getD_mem x 0 (k := 0) (by omega)); omega
      · exact fi (by omega) (by omega)
      · have eb : x.getD 0 0 % 40 + 1 = byF x := by unfold byF; rw [if_neg (by intro e; rw [e] at hl; simp at hl)]
        rw [eb]
        refine ⟨fi (by omega) (by omega), by omega, fi (by omega) (by omega), ⟨0, by omega, rfl, by omega⟩, fun k hk => ⟨fun h3 => ?_, fun h3 => ?_⟩⟩
        · have e1 : ((n : Int) - 1 - (k : Int)).toNat = n - 1 - k := by omega
          have g1 := uL_get (m := n - 1) (i := n) (by omega)
          have g2 := uL_get (m := n - 1) (i := n - 1 - k) (by omega)
          rw [e1, g1, g2, uL_length]
          exact ⟨by omega, by omega, (guy_fits (by omega) (by omega)).2.2, by unfold Small; simp; omega, fi (by omega) (by omega), k + 1, by omega, by omega, by rw [List.range_succ, List.map_append]; rfl, by push_cast; omega⟩
        · have ek : k = n := by omega
          subst ek
          refine ⟨⟨0, by omega, by simp [mulTo, setF], rfl, rfl⟩, fun j hj => ⟨fun h4 => ?_, fun h4 => ?_⟩⟩
          · have hlen : j < (setF k).length := by rw [setF_length]; omega
            have hv := hs _ (getD_mem (setF k) 0 hlen)
            rw [mulTo_get _ hlen]
            exact ⟨by omega, mul_fit (by omega) (by omega) (by omega) (by omega), by omega, fi (by omega) (by omega), j + 1, by omega, by omega, mulTo_set _ hlen, by omega⟩
          · have ej : j = k := by omega
            subst ej
            unfold dblF
            rw [hn]
            simp only [cond_true]
            unfold mulTo
            have hlen := setF_length j
            rw [List.take_of_length_le (by omega), List.drop_of_length_le (by omega), List.append_nil]
      · have eb : (1 : Int) = byF x := by unfold byF; rw [if_pos (List.eq_nil_of_length_eq_zero (by omega))]
        refine ⟨fi (by omega) (by omega), by omega, fi (by omega) (by omega), ⟨0, by omega, rfl, by omega⟩, fun k hk => ⟨fun h3 => ?_, fun h3 => ?_⟩⟩
        · have e1 : ((n : Int) - 1 - (k : Int)).toNat = n - 1 - k := by omega
          have g1 := uL_get (m := n - 1) (i := n) (by omega)
          have g2 := uL_get (m := n - 1) (i := n - 1 - k) (by omega)
          rw [e1, g1, g2, uL_length]
          exact ⟨by omega, by omega, (guy_fits (by omega) (by omega)).2.2, by unfold Small; simp; omega, fi (by omega) (by omega), k + 1, by omega, by omega, by rw [List.range_succ, List.map_append]; rfl, by push_cast; omega⟩
        · have ek : k = n := by omega
          subst ek
          refine ⟨⟨0, by omega, by simp [mulTo, setF], rfl, eb⟩, fun j hj => ⟨fun h4 => ?_, fun h4 => ?_⟩⟩
          · have hlen : j < (setF k).length := by rw [setF_length]; omega
            have hv := hs _ (getD_mem (setF k) 0 hlen)
            rw [mulTo_get _ hlen]
            exact ⟨by omega, mul_fit (by omega) (by omega) (by omega) (by omega), by omega, fi (by omega) (by omega), j + 1, by omega, by omega, mulTo_set _ hlen, by omega⟩
          · have ej : j = k := by omega
            subst ej
            unfold dblF
            rw [hn]
            simp only [cond_true]
            unfold mulTo
            have hlen := setF_length j
            rw [List.take_of_length_le (by omega), List.drop_of_length_le (by omega), List.append_nil]
    · subst hg
      have fin : ∀ k : Nat, k = min x.length 12 → ((k : Int) = 0 → [1] = dblF x false) ∧ (¬ (k : Int) = 0 → dbL x k = dblF x false) := fun k hk => by
        unfold dblF
        rw [← hk]
        exact ⟨fun h => by rw [decide_eq_true (show k = 0 by omega)]; rfl, fun h => by rw [decide_eq_false (show ¬ k = 0 by omega)]; rfl⟩
      refine ⟨⟨0, by omega, rfl, rfl, rfl⟩, fun k hk => ?_⟩
      rw [dbL_length]
      refine ⟨fun h3 => ⟨fun h4 => ?_, fun h4 => fin k (by omega)⟩, fun h3 => fin k (by omega)⟩
      have hv := hx _ (getD_mem x 0 (k := k) (by omega))
      have hs := dbS_small x k
      have hp := pow2_12 k (by omega)
      have hg : (dbL x k ++ [dbS x k + 1 + x.getD k 0 % 12]).getD k 0 = dbS x k + 1 + x.getD k 0 % 12 := by
        have : (dbL x k).length = k := dbL_length x k
        simp [List.getD, this]
      rw [hg]
      refine ⟨fi (by omega) (by omega), by omega, fi (by omega) (by omega), by omega, fi (by omega) (by omega), by unfold Small; omega, ⟨by omega, by rw [List.length_append, dbL_length]; simp; omega⟩, fi (by omega) (by omega), fi (by omega) (by omega), k + 1, by omega, by omega, (dbL_snoc x k).symm, rfl, by omega⟩
  exact key p.1 p.2 hp
theorem dist_of {w : List Int} (hw : Wts w) : distinctF w = (distF w, 0) := by
  unfold distinctF
  rw [decide_eq_true (check_ok.2 hw)]; rfl
theorem rya_fst (q : Int × Int) : Nm.vZ (Nm.ratZ q).fst = q.1 := Nm.iZ_vZ _
theorem rya_snd (q : Int × Int) : Nm.vZ (Nm.ratZ q).snd = q.2 := Nm.iZ_vZ _
theorem sgn_pos' (z : Int) : 0 < Nm.sgnF z ↔ 0 < z := by unfold Nm.sgnF; split <;> (try split) <;> omega
theorem sgn_neg' (z : Int) : Nm.sgnF z < 0 ↔ z < 0 := by unfold Nm.sgnF; split <;> (try split) <;> omega
theorem q4_ok (L : List Int) (hl : L.length ≤ 1000) : Qg4 L := by
  unfold Qg4
  simp only [pQ, pp1, eq_self, and_true, true_and, and_self, peta, rya_fst, rya_snd]
  refine ⟨hl, fun h => h, fun h => ⟨hl, hl, ?_⟩⟩
  have hc : checkF L 12 = 0 := Decidable.not_not.1 h
  have hW := check_ok.1 hc
  have hw : ∀ v ∈ L, 1 ≤ v ∧ v ≤ 100000 := fun v hv => ⟨hW.lo v hv, hW.hi v hv⟩
  have e : Nm.recF L = (Nm.numF (Nm.recN L L.length), 0) := by rw [Nm.recF, if_pos hc]
  have ed := dist_of hW
  obtain ⟨r1, r2, r3, r4⟩ := Nm.rec_bound hw L.length (Nat.le_refl _)
  have hg := Nm.rec_gcd hW
  have hp := Nm.rec_pos hW
  have hry := fun hd => Nm.ryavec hW hd
  have h12 := hW.len
  rw [e, ed]
  generalize Nm.recN L L.length = q at *
  obtain ⟨n, d⟩ := q
  have r1 : 0 ≤ n := r1
  have r2 : 0 < d := r2
  have hp : 0 < n := hp
  have b2 : (2 : Int) ≤ 4294967296 := by decide
  have e25 : (4294967296 : Int) ^ 25 ≤ 10000 ^ 200 := by decide +kernel
  have n3 : n < 4294967296 ^ 25 := Nm.pow_le_pow' b2 r3 (by omega)
  have d3 : d < 4294967296 ^ 25 := Nm.pow_le_pow' b2 r4 (by omega)
  obtain ⟨hP, hF⟩ := Nm.num_par r1 r2 (Nm.pow_le_pow' b2 n3 (by decide)) (Nm.pow_le_pow' b2 d3 (by decide)) hg
  have hn : n < 10000 ^ 200 := Int.lt_of_lt_of_le n3 e25
  have hd : d < 10000 ^ 200 := Int.lt_of_lt_of_le d3 e25
  have ht : (2 : Int) < 10000 ^ 200 := Nm.bigz 200 (by decide) 2 (by decide)
  have ho : (1 : Int) < 10000 ^ 200 := Nm.bigz 200 (by decide) 1 (by decide)
  have hZ : ∃ z, (Nm.ratZ (n, d)).fst = Nm.intB 10000 z ∧ Nm.absI z < 10000 ^ 500 := Nm.okz_pos r1 (Nm.pow_le_pow' Nm.dw2 hn (by decide))
  clear e25 r3 r4 n3 d3
  simp only [hF, sgn_pos', sgn_neg']
  refine ⟨fun _ => ⟨fun _ => ⟨⟨by decide, fun s hs => ?_⟩, fun _ => ⟨fun _ => ⟨hP, hZ, fun h => h, fun h => absurd hp h⟩, fun hdf => ⟨hP, by decide, ⟨⟨n, d, rfl, r1, r2, hn, hd⟩, 2, 1, rfl, by decide, by decide, ht, ho⟩, fun _ => ⟨hP, hZ, fun h => h, fun h => absurd hp h⟩, fun h => ?_⟩⟩, fun h => absurd trivial h⟩, fun h => absurd trivial h⟩, fun h => absurd trivial h⟩
  · rw [List.mem_singleton.1 hs]; exact hP
  · exfalso
    have hdt : distF L = true := by simpa using hdf
    have hr : n < 2 * d := hry hdt
    clear hn hd ht ho
    omega
theorem vc4 {x : List Int} {k : Int} (hx : ∀ v ∈ x, 0 ≤ v ∧ v ≤ 65535) (hk : 0 ≤ k) : g4 x k := by
  refine (g4_eq x k).mpr ?_
  have e8 : Int.toNat 8 = 8 := rfl
  simp only [pp1, eq_self, and_true, true_and, and_self, peta, e8, Int.toNat_natCast, List.drop_zero]
  refine ⟨⟨hx, by decide⟩, by omega, fun h => ⟨by omega, by omega, fun v hv => hx v (List.mem_of_mem_take hv), q4_ok _ ?_⟩, fun h => q4_ok _ ?_⟩
  · unfold dblF
    cases decide (k % 3 = 1) with
    | true => simp [setF]; omega
    | false =>
      simp only [cond_false]
      cases decide (min (List.take (min (x.length : Int) 8).toNat x).length 12 = 0) with
      | true => simp
      | false => simp only [cond_false]; rw [dbL_length]; omega
  · have := (made_wts x (m := 8) (by decide) (by decide)).len; omega
theorem ok4r : p4.OK Tryz.prog := p4.ok (fn := Tryz.f4) (fun _ => cx [p32.ci, p37.ci, p18.ci, p16.ci, p19.ci, Nm.p6r.ci, Nm.r14.ci, Nm.r15.ci, Nm.r16.ci, Nm.r17.ci, Nm.r18.ci] [])
    (fun _ => cx_ok (cs := [p32.ci, p37.ci, p18.ci, p16.ci, p19.ci, Nm.p6r.ci, Nm.r14.ci, Nm.r15.ci, Nm.r16.ci, Nm.r17.ci, Nm.r18.ci]) ⟨PC.OK.ci ok32, PC.OK.ci ok37, PC.OK.ci ok18, PC.OK.ci ok16, PC.OK.ci ok19, PC.OK.ci Nm.ok6r, PC.OK.ci Nm.ok14, PC.OK.ci Nm.ok15n, PC.OK.ci Nm.ok16n, PC.OK.ci Nm.ok17z, PC.OK.ci Nm.ok18z, trivial⟩ _) (by kernel_rfl) (by kernel_rfl) (by kernel_rfl) fun p hp => vc4 hp.1 hp.2.1
end Go.SX.We
