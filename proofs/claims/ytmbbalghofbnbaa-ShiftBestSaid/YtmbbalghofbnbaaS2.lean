/- Chapter 03: First Fit, the levels, their references: what is asked of each. -/
import Derived.Test.YtmbbalghofbnbaaS1
namespace Go.SX.Sh
open Go Go.Proofs
noncomputable section
@[reducible] def p61 : PC := ⟨61, [aI], [aI], fun _ => True, fun _ => 0⟩
def g61 (x : Int) : Prop := p61.VC (cx [] []) Try.f61 x
@[reducible] def p62 : PC := ⟨62, [aI, aI], [aB], fun _ => True, fun _ => true⟩
def g62 (x y : Int) : Prop := p62.VC (cx [] []) Try.f62 (x, y)
@[reducible] def C60 (m : CI) : Ctx := cx [m, p43.ci] []
@[reducible] def C58f (m : CI) (start : Nat → Int) (conf : Nat → Nat → Bool) : Ctx := cx [inl 60 Try.f60 (C60 m)]
  [(0, fun st => withCaps 1 (fun caps => match caps with
    | [_, cc, _, ci, _, _] => withBI ci (fun i => withBI cc (fun c => upTo i.toNat 8 [0, 1, 6, 7] fun k => ∀ j, j < k → (decide ((fitTo start conf i.toNat).getD j 0 = c) && conf i.toNat j) = false) st) st
    | _ => noAnn) st)]
@[reducible] def C41f (m : CI) (start : Nat → Int) (conf : Nat → Nat → Bool) : Ctx := cx [inl 58 Try.f58 (C58f m start conf)] []
@[reducible] def C45 (f m : CI) (n b : Nat) (start : Nat → Int) (conf : Nat → Nat → Bool) : Ctx := cx [f, p52.ci, inl 41 Try.f41 (C41f m start conf)]
  [(0, fun _ => { τ := Nat, pre := [], preC := [(b + 2, 0, 3, .int .i64)], keep := [1, 3, 5, 7, 11, 12], slots := fun k => [(13, .c (.int .i64 k))], ents := fun k => [(b + 2, .blk 27 [.own (b + 3) 1]), (b + 3, .row 3 (.int .i64) 0 (fitTo start conf k))], ok := fun k => k ≤ n, m := fun k => n - k }),
   (1, withI 13 fun i => { τ := Nat, pre := [], preC := [], keep := [1, 3, 5, 7, 8, 9, 10, 11, 12, 13], slots := fun _ => [], ents := fun k => [(b + 6, .blk 3 [.int .i64 (start i.toNat + k)])], ok := fun k => k ≤ i.toNat ∧ ∀ j : Nat, j < k → start i.toNat + j ∈ taken conf (fitTo start conf i.toNat) i.toNat i.toNat, m := fun k => i.toNat - k })]
@[reducible] def p49 : PC := ⟨49, [aSps], [aIs], fun p => p.length ≤ 100, firstF⟩
@[reducible] def C49 (xs : List Sp) : Ctx := cx [inl 45 Try.f45 (C45 p61.ci p62.ci xs.length 0 zeroF (confF xs))] []
def g49 (xs : List Sp) : Prop := p49.VC (C49 xs) Try.f49 xs
@[reducible] def p44 : PC := ⟨44, [aSps], [aIs], fun p => p.length ≤ 100, levelsF⟩
@[reducible] def C44 (xs : List Sp) : Ctx := cx [p39.ci, p43.ci, p59.ci]
  [(0, fun _ => { τ := Nat, pre := [(3, 3, .int .i64)], preC := [], keep := [0, 12, 13], slots := fun i => [(14, .c (.int .i64 i)), (3, .c (.own 0 1))], ents := fun i => [(0, .row 3 (.int .i64) 0 (levelsTo xs i))], ok := fun i => i ≤ xs.length, m := fun i => xs.length - i }),
   (1, withI 14 fun i => { τ := Nat, pre := [], preC := [], keep := [0, 3, 4, 5, 12, 13, 14], slots := fun k => [(6, .c (.int .i64 (1 + k)))], ents := fun _ => [], ok := fun k => k ≤ i.toNat ∧ ∀ j : Nat, j < k → ¬ ((deepF (lowTo xs (levelsTo xs i.toNat) i.toNat (1 + j) i.toNat)).2.length : Int) ≤ 1 + j, m := fun k => i.toNat - k }),
   (2, fun st => withI 14 (fun i => withI 6 (fun k => { τ := Nat, pre := [], preC := [], keep := [0, 3, 4, 5, 6, 12, 13, 14, 25, 26], slots := fun j => [(27, .c (.int .i64 j)), (7, .c (.own 2 1))], ents := fun j => [(2, .row 35 tSp 0 (lowTo xs (levelsTo xs i.toNat) i.toNat k j))], ok := fun j => j ≤ i.toNat, m := fun j => i.toNat - j }) st) st)]
def g44 (xs : List Sp) : Prop := p44.VC (C44 xs) Try.f44 xs
@[reducible] def p31 : PC := ⟨31, [aSps], [aIs, aI], fun p => p.length ≤ 1000, fun p => guardF p firstF⟩
def g31 (xs : List Sp) : Prop := p31.VC (cx [p38.ci, p49.ci] []) Try.f31 xs
@[reducible] def p25 : PC := ⟨25, [aSps], [aIs, aI], fun p => p.length ≤ 1000, fun p => guardF p levelsF⟩
def g25 (xs : List Sp) : Prop := p25.VC (cx [p38.ci, p44.ci] []) Try.f25 xs
@[reducible] def p26 : PC := ⟨26, [aSps], [aIs, aI], fun p => p.length ≤ 1000, fun p => guardF p trotF⟩
@[reducible] def C26 (xs : List Sp) : Ctx := cx [p38.ci, p44.ci, inl 45 Try.f45 (C45 (inl 46 Try.f46 (cx [] [])) (inl 47 Try.f47 (cx [] [])) xs.length 1 (startT (levelsF xs)) (confT xs (levelsF xs)))] []
def g26 (xs : List Sp) : Prop := p26.VC (C26 xs) Try.f26 xs
@[reducible] def p27 : PC := ⟨27, [aSps], [aIs], fun p => checkF p = 0, levelsR⟩
@[reducible] def C27 (xs : List Sp) : Ctx := cx [p20.ci]
  [(0, fun _ => { τ := Nat, pre := [], preC := [], keep := [0], slots := fun i => [(4, .c (.int .i64 i)), (3, .c (.own 0 1))], ents := fun i => [(0, .row 3 (.int .i64) 0 (levelsTR xs i))], ok := fun i => i ≤ xs.length, m := fun i => xs.length - i }),
   (1, withI 4 fun i => { τ := Nat, pre := [], preC := [], keep := [0, 3, 4], slots := fun k => [(5, .c (.int .i64 (1 + k)))], ents := fun _ => [], ok := fun k => k ≤ i.toNat ∧ ∀ j : Nat, j < k → ¬ (depthR (lowR xs (levelsTR xs i.toNat) i.toNat (1 + j) i.toNat) (at_ xs i.toNat)).1 ≤ 1 + j, m := fun k => i.toNat - k }),
   (2, fun st => withI 4 (fun i => withI 5 (fun k => { τ := Nat, pre := [], preC := [], keep := [0, 3, 4, 5], slots := fun j => [(7, .c (.int .i64 j)), (6, .c (.own 1 1))], ents := fun j => [(1, .row 35 tSp 0 (lowR xs (levelsTR xs i.toNat) i.toNat k j))], ok := fun j => j ≤ i.toNat, m := fun j => i.toNat - j }) st) st)]
def g27 (xs : List Sp) : Prop := p27.VC (C27 xs) Try.f27 xs
@[reducible] def p28 : PC := ⟨28, [aSps], [aIs], fun p => checkF p = 0, trotR⟩
@[reducible] def C28 (xs : List Sp) : Ctx := cx [p27.ci, p30.ci, p48.ci]
  [(0, fun _ => { τ := Nat, pre := [], preC := [], keep := [0, 3], slots := fun i => [(5, .c (.int .i64 i)), (4, .c (.own 0 1))], ents := fun i => [(0, .row 3 (.int .i64) 0 (fitTo (startT (levelsR xs)) (confT xs (levelsR xs)) i))], ok := fun i => i ≤ xs.length, m := fun i => xs.length - i }),
   (1, withI 5 fun i => { τ := Nat, pre := [], preC := [], keep := [0, 3, 4, 5], slots := fun j => [(7, .c (.int .i64 j)), (6, .c (.own 1 1))], ents := fun j => [(1, .row 3 (.int .i64) 0 (taken (confT xs (levelsR xs)) (fitTo (startT (levelsR xs)) (confT xs (levelsR xs)) i.toNat) i.toNat j))], ok := fun j => j ≤ i.toNat, m := fun j => i.toNat - j })]
def g28 (xs : List Sp) : Prop := p28.VC (C28 xs) Try.f28 xs
@[reducible] def p36 : PC := ⟨36, [aSps], [aIs], fun p => p.length ≤ 100, firstF⟩
@[reducible] def C36 (xs : List Sp) : Ctx := cx [p30.ci, p48.ci]
  [(0, fun _ => { τ := Nat, pre := [], preC := [], keep := [0], slots := fun i => [(4, .c (.int .i64 i)), (3, .c (.own 0 1))], ents := fun i => [(0, .row 3 (.int .i64) 0 (fitTo zeroF (confF xs) i))], ok := fun i => i ≤ xs.length, m := fun i => xs.length - i }),
   (1, withI 4 fun i => { τ := Nat, pre := [], preC := [], keep := [0, 3, 4], slots := fun j => [(6, .c (.int .i64 j)), (5, .c (.own 1 1))], ents := fun j => [(1, .row 3 (.int .i64) 0 (taken (confF xs) (fitTo zeroF (confF xs) i.toNat) i.toNat j))], ok := fun j => j ≤ i.toNat, m := fun j => i.toNat - j })]
def g36 (xs : List Sp) : Prop := p36.VC (C36 xs) Try.f36 xs
end
end Go.SX.Sh
