/- Parts of the proof, one after the other: WzN8 WzN8E WzN8Q WzN9 WzN9E WzN9Q WzN10 WzN10E WzN10Q. -/
import Derived.Test.YtgbnkmhabhgigaaGreatM6
import Derived.Test.YtgbnkmhabhgigaaGreatM8
import Derived.Test.YtgbnkmhabhgigaaGreatM10
/- Chapter 08: num's fractions, what is asked of each. -/
namespace Go.SX.We.Nm
open Go Go.Proofs
abbrev DN : Type := Bool × List Int
def ratN (q : Int × Int) : DN × DN := (iN q.1, iN q.2)
def FrN (k : Nat) (p : DN × DN) : Prop := ∃ n d : Int, p = ratN (n, d) ∧ 0 ≤ n ∧ 0 < d ∧ n < 4294967296 ^ k ∧ d < 4294967296 ^ k
noncomputable section
@[reducible] def p20 : PC := ⟨20, [aI], [aR], fun n => 0 ≤ n ∧ n ≤ 1000000, fun n => ratN (n, 1)⟩
def g20 (n : Int) : Prop := p20.VC (cx [p43.ci] []) Tryz.f20 n
@[reducible] def p45 : PC := ⟨45, [aN], [aR], fun _ => True, fun p => (p, iN 1)⟩
def g45 (n : Bool) (m : List Int) : Prop := p45.VC (cx [p43.ci] []) Tryz.f45 (n, m)
@[reducible] def p44 : PC := ⟨44, [aR], [aB], FrN 500, fun p => decide (vN p.2 = 1)⟩
def g44r (n1 : Bool) (m1 : List Int) (n2 : Bool) (m2 : List Int) : Prop := p44.VC (cx [] []) Tryz.f44 ((n1, m1), (n2, m2))
@[reducible] def p47 : PC := ⟨47, [aN, aN], [aR], fun p => (OkN 400 p.1 ∧ OkN 400 p.2) ∧ 0 ≤ vN p.1 ∧ 0 < vN p.2, fun p => ratN (lowI (vN p.1) (vN p.2))⟩
def g47r (n1 : Bool) (m1 : List Int) (n2 : Bool) (m2 : List Int) : Prop := p47.VC (cx [p86.ci, p87.ci, p88.ci, p43.ci, p89.ci] []) Tryz.f47 ((n1, m1), (n2, m2))
@[reducible] def p21r : PC := ⟨21, [aR, aR], [aR], fun p => FrN 100 p.1 ∧ FrN 100 p.2, fun p => ratN (lowI (vN p.1.1 * vN p.2.2 + vN p.2.1 * vN p.1.2) (vN p.1.2 * vN p.2.2))⟩
def g21r (n1 : Bool) (m1 : List Int) (n2 : Bool) (m2 : List Int) (n3 : Bool) (m3 : List Int) (n4 : Bool) (m4 : List Int) : Prop := p21r.VC (cx [p44.ci, p45.ci, p46.ci, p47.ci, p48.ci] []) Tryz.f21 (((n1, m1), (n2, m2)), ((n3, m3), (n4, m4)))
@[reducible] def p22r : PC := ⟨22, [aR, aR], [aR], fun p => (FrN 100 p.1 ∧ FrN 100 p.2) ∧ 0 < vN p.2.1, fun p => ratN (lowI (vN p.1.1 * vN p.2.2) (vN p.1.2 * vN p.2.1))⟩
def g22r (n1 : Bool) (m1 : List Int) (n2 : Bool) (m2 : List Int) (n3 : Bool) (m3 : List Int) (n4 : Bool) (m4 : List Int) : Prop := p22r.VC (cx [p47.ci, p48.ci] []) Tryz.f22 (((n1, m1), (n2, m2)), ((n3, m3), (n4, m4)))
end
end Go.SX.We.Nm

/- Printed by VC.lean: what the executor asks. -/
namespace Go.SX.We.Nm
open Go Go.Proofs IntKind List
theorem g20_eq (n : Int) : g20 n = ((0 ≤ n ∧ n ≤ 1000000) ∧ ((0 : Int) ≤ 1 ∧ (1 : Int) ≤ 1000000) ∧ (((iN n).fst, (iN n).snd), (iN 1).fst, (iN 1).snd) = ratN (n, (1 : Int))) := by kernel_rfl
theorem g45_eq (n : Bool) (m : List Int) : g45 n m = (((0 : Int) ≤ 1 ∧ (1 : Int) ≤ 1000000) ∧ ((n, m), (iN 1).fst, (iN 1).snd) = ((n, m), iN 1)) := by kernel_rfl
theorem g44r_eq (n1 : Bool) (m1 : List Int) (n2 : Bool) (m2 : List Int) : g44r n1 m1 n2 m2 = (((m2.length : Int) = 1 → (m2.length : Int) = 1 ∧ (m2.length : Int) = 1 ∧ ((0 : Int) ≤ 0 ∧ 0 < (m2.length : Int)) ∧ decide (m2.getD (Int.toNat 0) (0 : Int) = 1) = decide (vN (n2, m2) = 1)) ∧ (¬(m2.length : Int) = 1 → ¬(m2.length : Int) = 1 ∧ ¬(m2.length : Int) = 1 ∧ false = decide (vN (n2, m2) = 1))) := by kernel_rfl
theorem g47r_eq (n1 : Bool) (m1 : List Int) (n2 : Bool) (m2 : List Int) : g47r n1 m1 n2 m2 = ((n2 = true → n2 = true ∧ (∃ (z : Int), (n1, m1) = intB 4294967296 z ∧ absI z < 4294967296 ^ 500) ∧ (∃ (z : Int), (n2, m2) = intB 4294967296 z ∧ absI z < 4294967296 ^ 500) ∧ (((∃ (z : Int), ((iN (-vN (n1, m1))).fst, (iN (-vN (n1, m1))).snd) = intB 4294967296 z ∧ absI z < 4294967296 ^ 500) ∧ ∃ (z : Int), ((iN (-vN (n2, m2))).fst, (iN (-vN (n2, m2))).snd) = intB 4294967296 z ∧ absI z < 4294967296 ^ 500) ∧ 0 ≤ vN ((iN (-vN (n1, m1))).fst, (iN (-vN (n1, m1))).snd) ∧ 0 ≤ vN ((iN (-vN (n2, m2))).fst, (iN (-vN (n2, m2))).snd)) ∧ ((0 : Int) ≤ 1 ∧ (1 : Int) ≤ 1000000) ∧ ((∃ (z : Int), ((iN (gcdI (vN ((iN (-vN (n1, m1))).fst, (iN (-vN (n1, m1))).snd)) (vN ((iN (-vN (n2, m2))).fst, (iN (-vN (n2, m2))).snd)))).fst, (iN (gcdI (vN ((iN (-vN (n1, m1))).fst, (iN (-vN (n1, m1))).snd)) (vN ((iN (-vN (n2, m2))).fst, (iN (-vN (n2, m2))).snd)))).snd) = intB 4294967296 z ∧ absI z < 4294967296 ^ 400) ∧ ∃ (z : Int), ((iN 1).fst, (iN 1).snd) = intB 4294967296 z ∧ absI z < 4294967296 ^ 400) ∧ (sgnF (vN ((iN (gcdI (vN ((iN (-vN (n1, m1))).fst, (iN (-vN (n1, m1))).snd)) (vN ((iN (-vN (n2, m2))).fst, (iN (-vN (n2, m2))).snd)))).fst, (iN (gcdI (vN ((iN (-vN (n1, m1))).fst, (iN (-vN (n1, m1))).snd)) (vN ((iN (-vN (n2, m2))).fst, (iN (-vN (n2, m2))).snd)))).snd) - vN ((iN 1).fst, (iN 1).snd)) = 0 → sgnF (vN ((iN (gcdI (vN ((iN (-vN (n1, m1))).fst, (iN (-vN (n1, m1))).snd)) (vN ((iN (-vN (n2, m2))).fst, (iN (-vN (n2, m2))).snd)))).fst, (iN (gcdI (vN ((iN (-vN (n1, m1))).fst, (iN (-vN (n1, m1))).snd)) (vN ((iN (-vN (n2, m2))).fst, (iN (-vN (n2, m2))).snd)))).snd) - vN ((iN 1).fst, (iN 1).snd)) = 0 ∧ (((iN (-vN (n1, m1))).fst, (iN (-vN (n1, m1))).snd), (iN (-vN (n2, m2))).fst, (iN (-vN (n2, m2))).snd) = ratN (lowI (vN (n1, m1)) (vN (n2, m2)))) ∧ (¬sgnF (vN ((iN (gcdI (vN ((iN (-vN (n1, m1))).fst, (iN (-vN (n1, m1))).snd)) (vN ((iN (-vN (n2, m2))).fst, (iN (-vN (n2, m2))).snd)))).fst, (iN (gcdI (vN ((iN (-vN (n1, m1))).fst, (iN (-vN (n1, m1))).snd)) (vN ((iN (-vN (n2, m2))).fst, (iN (-vN (n2, m2))).snd)))).snd) - vN ((iN 1).fst, (iN 1).snd)) = 0 → ¬sgnF (vN ((iN (gcdI (vN ((iN (-vN (n1, m1))).fst, (iN (-vN (n1, m1))).snd)) (vN ((iN (-vN (n2, m2))).fst, (iN (-vN (n2, m2))).snd)))).fst, (iN (gcdI (vN ((iN (-vN (n1, m1))).fst, (iN (-vN (n1, m1))).snd)) (vN ((iN (-vN (n2, m2))).fst, (iN (-vN (n2, m2))).snd)))).snd) - vN ((iN 1).fst, (iN 1).snd)) = 0 ∧ (((∃ (z : Int), ((iN (-vN (n1, m1))).fst, (iN (-vN (n1, m1))).snd) = intB 4294967296 z ∧ absI z < 4294967296 ^ 500) ∧ ∃ (z : Int), ((iN (gcdI (vN ((iN (-vN (n1, m1))).fst, (iN (-vN (n1, m1))).snd)) (vN ((iN (-vN (n2, m2))).fst, (iN (-vN (n2, m2))).snd)))).fst, (iN (gcdI (vN ((iN (-vN (n1, m1))).fst, (iN (-vN (n1, m1))).snd)) (vN ((iN (-vN (n2, m2))).fst, (iN (-vN (n2, m2))).snd)))).snd) = intB 4294967296 z ∧ absI z < 4294967296 ^ 500) ∧ 0 ≤ vN ((iN (-vN (n1, m1))).fst, (iN (-vN (n1, m1))).snd) ∧ 0 < vN ((iN (gcdI (vN ((iN (-vN (n1, m1))).fst, (iN (-vN (n1, m1))).snd)) (vN ((iN (-vN (n2, m2))).fst, (iN (-vN (n2, m2))).snd)))).fst, (iN (gcdI (vN ((iN (-vN (n1, m1))).fst, (iN (-vN (n1, m1))).snd)) (vN ((iN (-vN (n2, m2))).fst, (iN (-vN (n2, m2))).snd)))).snd)) ∧ (((∃ (z : Int), ((iN (-vN (n2, m2))).fst, (iN (-vN (n2, m2))).snd) = intB 4294967296 z ∧ absI z < 4294967296 ^ 500) ∧ ∃ (z : Int), ((iN (gcdI (vN ((iN (-vN (n1, m1))).fst, (iN (-vN (n1, m1))).snd)) (vN ((iN (-vN (n2, m2))).fst, (iN (-vN (n2, m2))).snd)))).fst, (iN (gcdI (vN ((iN (-vN (n1, m1))).fst, (iN (-vN (n1, m1))).snd)) (vN ((iN (-vN (n2, m2))).fst, (iN (-vN (n2, m2))).snd)))).snd) = intB 4294967296 z ∧ absI z < 4294967296 ^ 500) ∧ 0 ≤ vN ((iN (-vN (n2, m2))).fst, (iN (-vN (n2, m2))).snd) ∧ 0 < vN ((iN (gcdI (vN ((iN (-vN (n1, m1))).fst, (iN (-vN (n1, m1))).snd)) (vN ((iN (-vN (n2, m2))).fst, (iN (-vN (n2, m2))).snd)))).fst, (iN (gcdI (vN ((iN (-vN (n1, m1))).fst, (iN (-vN (n1, m1))).snd)) (vN ((iN (-vN (n2, m2))).fst, (iN (-vN (n2, m2))).snd)))).snd)) ∧ (((iN (vN ((iN (-vN (n1, m1))).fst, (iN (-vN (n1, m1))).snd) / vN ((iN (gcdI (vN ((iN (-vN (n1, m1))).fst, (iN (-vN (n1, m1))).snd)) (vN ((iN (-vN (n2, m2))).fst, (iN (-vN (n2, m2))).snd)))).fst, (iN (gcdI (vN ((iN (-vN (n1, m1))).fst, (iN (-vN (n1, m1))).snd)) (vN ((iN (-vN (n2, m2))).fst, (iN (-vN (n2, m2))).snd)))).snd))).fst, (iN (vN ((iN (-vN (n1, m1))).fst, (iN (-vN (n1, m1))).snd) / vN ((iN (gcdI (vN ((iN (-vN (n1, m1))).fst, (iN (-vN (n1, m1))).snd)) (vN ((iN (-vN (n2, m2))).fst, (iN (-vN (n2, m2))).snd)))).fst, (iN (gcdI (vN ((iN (-vN (n1, m1))).fst, (iN (-vN (n1, m1))).snd)) (vN ((iN (-vN (n2, m2))).fst, (iN (-vN (n2, m2))).snd)))).snd))).snd), (iN (vN ((iN (-vN (n2, m2))).fst, (iN (-vN (n2, m2))).snd) / vN ((iN (gcdI (vN ((iN (-vN (n1, m1))).fst, (iN (-vN (n1, m1))).snd)) (vN ((iN (-vN (n2, m2))).fst, (iN (-vN (n2, m2))).snd)))).fst, (iN (gcdI (vN ((iN (-vN (n1, m1))).fst, (iN (-vN (n1, m1))).snd)) (vN ((iN (-vN (n2, m2))).fst, (iN (-vN (n2, m2))).snd)))).snd))).fst, (iN (vN ((iN (-vN (n2, m2))).fst, (iN (-vN (n2, m2))).snd) / vN ((iN (gcdI (vN ((iN (-vN (n1, m1))).fst, (iN (-vN (n1, m1))).snd)) (vN ((iN (-vN (n2, m2))).fst, (iN (-vN (n2, m2))).snd)))).fst, (iN (gcdI (vN ((iN (-vN (n1, m1))).fst, (iN (-vN (n1, m1))).snd)) (vN ((iN (-vN (n2, m2))).fst, (iN (-vN (n2, m2))).snd)))).snd))).snd) = ratN (lowI (vN (n1, m1)) (vN (n2, m2))))) ∧ (n2 = false → n2 = false ∧ (((∃ (z : Int), (n1, m1) = intB 4294967296 z ∧ absI z < 4294967296 ^ 500) ∧ ∃ (z : Int), (n2, m2) = intB 4294967296 z ∧ absI z < 4294967296 ^ 500) ∧ 0 ≤ vN (n1, m1) ∧ 0 ≤ vN (n2, m2)) ∧ ((0 : Int) ≤ 1 ∧ (1 : Int) ≤ 1000000) ∧ ((∃ (z : Int), ((iN (gcdI (vN (n1, m1)) (vN (n2, m2)))).fst, (iN (gcdI (vN (n1, m1)) (vN (n2, m2)))).snd) = intB 4294967296 z ∧ absI z < 4294967296 ^ 400) ∧ ∃ (z : Int), ((iN 1).fst, (iN 1).snd) = intB 4294967296 z ∧ absI z < 4294967296 ^ 400) ∧ (sgnF (vN ((iN (gcdI (vN (n1, m1)) (vN (n2, m2)))).fst, (iN (gcdI (vN (n1, m1)) (vN (n2, m2)))).snd) - vN ((iN 1).fst, (iN 1).snd)) = 0 → sgnF (vN ((iN (gcdI (vN (n1, m1)) (vN (n2, m2)))).fst, (iN (gcdI (vN (n1, m1)) (vN (n2, m2)))).snd) - vN ((iN 1).fst, (iN 1).snd)) = 0 ∧ ((n1, m1), n2, m2) = ratN (lowI (vN (n1, m1)) (vN (n2, m2)))) ∧ (¬sgnF (vN ((iN (gcdI (vN (n1, m1)) (vN (n2, m2)))).fst, (iN (gcdI (vN (n1, m1)) (vN (n2, m2)))).snd) - vN ((iN 1).fst, (iN 1).snd)) = 0 → ¬sgnF (vN ((iN (gcdI (vN (n1, m1)) (vN (n2, m2)))).fst, (iN (gcdI (vN (n1, m1)) (vN (n2, m2)))).snd) - vN ((iN 1).fst, (iN 1).snd)) = 0 ∧ (((∃ (z : Int), (n1, m1) = intB 4294967296 z ∧ absI z < 4294967296 ^ 500) ∧ ∃ (z : Int), ((iN (gcdI (vN (n1, m1)) (vN (n2, m2)))).fst, (iN (gcdI (vN (n1, m1)) (vN (n2, m2)))).snd) = intB 4294967296 z ∧ absI z < 4294967296 ^ 500) ∧ 0 ≤ vN (n1, m1) ∧ 0 < vN ((iN (gcdI (vN (n1, m1)) (vN (n2, m2)))).fst, (iN (gcdI (vN (n1, m1)) (vN (n2, m2)))).snd)) ∧ (((∃ (z : Int), (n2, m2) = intB 4294967296 z ∧ absI z < 4294967296 ^ 500) ∧ ∃ (z : Int), ((iN (gcdI (vN (n1, m1)) (vN (n2, m2)))).fst, (iN (gcdI (vN (n1, m1)) (vN (n2, m2)))).snd) = intB 4294967296 z ∧ absI z < 4294967296 ^ 500) ∧ 0 ≤ vN (n2, m2) ∧ 0 < vN ((iN (gcdI (vN (n1, m1)) (vN (n2, m2)))).fst, (iN (gcdI (vN (n1, m1)) (vN (n2, m2)))).snd)) ∧ (((iN (vN (n1, m1) / vN ((iN (gcdI (vN (n1, m1)) (vN (n2, m2)))).fst, (iN (gcdI (vN (n1, m1)) (vN (n2, m2)))).snd))).fst, (iN (vN (n1, m1) / vN ((iN (gcdI (vN (n1, m1)) (vN (n2, m2)))).fst, (iN (gcdI (vN (n1, m1)) (vN (n2, m2)))).snd))).snd), (iN (vN (n2, m2) / vN ((iN (gcdI (vN (n1, m1)) (vN (n2, m2)))).fst, (iN (gcdI (vN (n1, m1)) (vN (n2, m2)))).snd))).fst, (iN (vN (n2, m2) / vN ((iN (gcdI (vN (n1, m1)) (vN (n2, m2)))).fst, (iN (gcdI (vN (n1, m1)) (vN (n2, m2)))).snd))).snd) = ratN (lowI (vN (n1, m1)) (vN (n2, m2)))))) := by kernel_rfl
theorem g21r_eq (n1 : Bool) (m1 : List Int) (n2 : Bool) (m2 : List Int) (n3 : Bool) (m3 : List Int) (n4 : Bool) (m4 : List Int) : g21r n1 m1 n2 m2 n3 m3 n4 m4 = ((∃ (n : Int), ∃ (d : Int), ((n1, m1), n2, m2) = ratN (n, d) ∧ 0 ≤ n ∧ 0 < d ∧ n < 4294967296 ^ 500 ∧ d < 4294967296 ^ 500) ∧ (decide (vN (n2, m2) = 1) = true → decide (vN (n2, m2) = 1) = true ∧ decide (vN (n2, m2) = 1) = true ∧ (∃ (n : Int), ∃ (d : Int), ((n3, m3), n4, m4) = ratN (n, d) ∧ 0 ≤ n ∧ 0 < d ∧ n < 4294967296 ^ 500 ∧ d < 4294967296 ^ 500) ∧ (decide (vN (n4, m4) = 1) = true → decide (vN (n4, m4) = 1) = true ∧ decide (vN (n4, m4) = 1) = true ∧ ((∃ (z : Int), (n1, m1) = intB 4294967296 z ∧ absI z < 4294967296 ^ 500) ∧ ∃ (z : Int), (n3, m3) = intB 4294967296 z ∧ absI z < 4294967296 ^ 500) ∧ True ∧ (((iN (vN (n1, m1) + vN (n3, m3))).fst, (iN (vN (n1, m1) + vN (n3, m3))).snd), (iN 1).fst, (iN 1).snd) = ratN (lowI (vN (n1, m1) * vN (n4, m4) + vN (n3, m3) * vN (n2, m2)) (vN (n2, m2) * vN (n4, m4)))) ∧ (decide (vN (n4, m4) = 1) = false → decide (vN (n4, m4) = 1) = false ∧ decide (vN (n4, m4) = 1) = false ∧ ((∃ (z : Int), (n1, m1) = intB 4294967296 z ∧ absI z < 4294967296 ^ 500) ∧ ∃ (z : Int), (n4, m4) = intB 4294967296 z ∧ absI z < 4294967296 ^ 500) ∧ ((∃ (z : Int), (n3, m3) = intB 4294967296 z ∧ absI z < 4294967296 ^ 500) ∧ ∃ (z : Int), (n2, m2) = intB 4294967296 z ∧ absI z < 4294967296 ^ 500) ∧ ((∃ (z : Int), ((iN (vN (n1, m1) * vN (n4, m4))).fst, (iN (vN (n1, m1) * vN (n4, m4))).snd) = intB 4294967296 z ∧ absI z < 4294967296 ^ 500) ∧ ∃ (z : Int), ((iN (vN (n3, m3) * vN (n2, m2))).fst, (iN (vN (n3, m3) * vN (n2, m2))).snd) = intB 4294967296 z ∧ absI z < 4294967296 ^ 500) ∧ ((∃ (z : Int), (n2, m2) = intB 4294967296 z ∧ absI z < 4294967296 ^ 500) ∧ ∃ (z : Int), (n4, m4) = intB 4294967296 z ∧ absI z < 4294967296 ^ 500) ∧ (((∃ (z : Int), ((iN (vN ((iN (vN (n1, m1) * vN (n4, m4))).fst, (iN (vN (n1, m1) * vN (n4, m4))).snd) + vN ((iN (vN (n3, m3) * vN (n2, m2))).fst, (iN (vN (n3, m3) * vN (n2, m2))).snd))).fst, (iN (vN ((iN (vN (n1, m1) * vN (n4, m4))).fst, (iN (vN (n1, m1) * vN (n4, m4))).snd) + vN ((iN (vN (n3, m3) * vN (n2, m2))).fst, (iN (vN (n3, m3) * vN (n2, m2))).snd))).snd) = intB 4294967296 z ∧ absI z < 4294967296 ^ 400) ∧ ∃ (z : Int), ((iN (vN (n2, m2) * vN (n4, m4))).fst, (iN (vN (n2, m2) * vN (n4, m4))).snd) = intB 4294967296 z ∧ absI z < 4294967296 ^ 400) ∧ 0 ≤ vN ((iN (vN ((iN (vN (n1, m1) * vN (n4, m4))).fst, (iN (vN (n1, m1) * vN (n4, m4))).snd) + vN ((iN (vN (n3, m3) * vN (n2, m2))).fst, (iN (vN (n3, m3) * vN (n2, m2))).snd))).fst, (iN (vN ((iN (vN (n1, m1) * vN (n4, m4))).fst, (iN (vN (n1, m1) * vN (n4, m4))).snd) + vN ((iN (vN (n3, m3) * vN (n2, m2))).fst, (iN (vN (n3, m3) * vN (n2, m2))).snd))).snd) ∧ 0 < vN ((iN (vN (n2, m2) * vN (n4, m4))).fst, (iN (vN (n2, m2) * vN (n4, m4))).snd)) ∧ (((ratN (lowI (vN ((iN (vN ((iN (vN (n1, m1) * vN (n4, m4))).fst, (iN (vN (n1, m1) * vN (n4, m4))).snd) + vN ((iN (vN (n3, m3) * vN (n2, m2))).fst, (iN (vN (n3, m3) * vN (n2, m2))).snd))).fst, (iN (vN ((iN (vN (n1, m1) * vN (n4, m4))).fst, (iN (vN (n1, m1) * vN (n4, m4))).snd) + vN ((iN (vN (n3, m3) * vN (n2, m2))).fst, (iN (vN (n3, m3) * vN (n2, m2))).snd))).snd)) (vN ((iN (vN (n2, m2) * vN (n4, m4))).fst, (iN (vN (n2, m2) * vN (n4, m4))).snd)))).fst.fst, (ratN (lowI (vN ((iN (vN ((iN (vN (n1, m1) * vN (n4, m4))).fst, (iN (vN (n1, m1) * vN (n4, m4))).snd) + vN ((iN (vN (n3, m3) * vN (n2, m2))).fst, (iN (vN (n3, m3) * vN (n2, m2))).snd))).fst, (iN (vN ((iN (vN (n1, m1) * vN (n4, m4))).fst, (iN (vN (n1, m1) * vN (n4, m4))).snd) + vN ((iN (vN (n3, m3) * vN (n2, m2))).fst, (iN (vN (n3, m3) * vN (n2, m2))).snd))).snd)) (vN ((iN (vN (n2, m2) * vN (n4, m4))).fst, (iN (vN (n2, m2) * vN (n4, m4))).snd)))).fst.snd), (ratN (lowI (vN ((iN (vN ((iN (vN (n1, m1) * vN (n4, m4))).fst, (iN (vN (n1, m1) * vN (n4, m4))).snd) + vN ((iN (vN (n3, m3) * vN (n2, m2))).fst, (iN (vN (n3, m3) * vN (n2, m2))).snd))).fst, (iN (vN ((iN (vN (n1, m1) * vN (n4, m4))).fst, (iN (vN (n1, m1) * vN (n4, m4))).snd) + vN ((iN (vN (n3, m3) * vN (n2, m2))).fst, (iN (vN (n3, m3) * vN (n2, m2))).snd))).snd)) (vN ((iN (vN (n2, m2) * vN (n4, m4))).fst, (iN (vN (n2, m2) * vN (n4, m4))).snd)))).snd.fst, (ratN (lowI (vN ((iN (vN ((iN (vN (n1, m1) * vN (n4, m4))).fst, (iN (vN (n1, m1) * vN (n4, m4))).snd) + vN ((iN (vN (n3, m3) * vN (n2, m2))).fst, (iN (vN (n3, m3) * vN (n2, m2))).snd))).fst, (iN (vN ((iN (vN (n1, m1) * vN (n4, m4))).fst, (iN (vN (n1, m1) * vN (n4, m4))).snd) + vN ((iN (vN (n3, m3) * vN (n2, m2))).fst, (iN (vN (n3, m3) * vN (n2, m2))).snd))).snd)) (vN ((iN (vN (n2, m2) * vN (n4, m4))).fst, (iN (vN (n2, m2) * vN (n4, m4))).snd)))).snd.snd) = ratN (lowI (vN (n1, m1) * vN (n4, m4) + vN (n3, m3) * vN (n2, m2)) (vN (n2, m2) * vN (n4, m4))))) ∧ (decide (vN (n2, m2) = 1) = false → decide (vN (n2, m2) = 1) = false ∧ decide (vN (n2, m2) = 1) = false ∧ ((∃ (z : Int), (n1, m1) = intB 4294967296 z ∧ absI z < 4294967296 ^ 500) ∧ ∃ (z : Int), (n4, m4) = intB 4294967296 z ∧ absI z < 4294967296 ^ 500) ∧ ((∃ (z : Int), (n3, m3) = intB 4294967296 z ∧ absI z < 4294967296 ^ 500) ∧ ∃ (z : Int), (n2, m2) = intB 4294967296 z ∧ absI z < 4294967296 ^ 500) ∧ ((∃ (z : Int), ((iN (vN (n1, m1) * vN (n4, m4))).fst, (iN (vN (n1, m1) * vN (n4, m4))).snd) = intB 4294967296 z ∧ absI z < 4294967296 ^ 500) ∧ ∃ (z : Int), ((iN (vN (n3, m3) * vN (n2, m2))).fst, (iN (vN (n3, m3) * vN (n2, m2))).snd) = intB 4294967296 z ∧ absI z < 4294967296 ^ 500) ∧ ((∃ (z : Int), (n2, m2) = intB 4294967296 z ∧ absI z < 4294967296 ^ 500) ∧ ∃ (z : Int), (n4, m4) = intB 4294967296 z ∧ absI z < 4294967296 ^ 500) ∧ (((∃ (z : Int), ((iN (vN ((iN (vN (n1, m1) * vN (n4, m4))).fst, (iN (vN (n1, m1) * vN (n4, m4))).snd) + vN ((iN (vN (n3, m3) * vN (n2, m2))).fst, (iN (vN (n3, m3) * vN (n2, m2))).snd))).fst, (iN (vN ((iN (vN (n1, m1) * vN (n4, m4))).fst, (iN (vN (n1, m1) * vN (n4, m4))).snd) + vN ((iN (vN (n3, m3) * vN (n2, m2))).fst, (iN (vN (n3, m3) * vN (n2, m2))).snd))).snd) = intB 4294967296 z ∧ absI z < 4294967296 ^ 400) ∧ ∃ (z : Int), ((iN (vN (n2, m2) * vN (n4, m4))).fst, (iN (vN (n2, m2) * vN (n4, m4))).snd) = intB 4294967296 z ∧ absI z < 4294967296 ^ 400) ∧ 0 ≤ vN ((iN (vN ((iN (vN (n1, m1) * vN (n4, m4))).fst, (iN (vN (n1, m1) * vN (n4, m4))).snd) + vN ((iN (vN (n3, m3) * vN (n2, m2))).fst, (iN (vN (n3, m3) * vN (n2, m2))).snd))).fst, (iN (vN ((iN (vN (n1, m1) * vN (n4, m4))).fst, (iN (vN (n1, m1) * vN (n4, m4))).snd) + vN ((iN (vN (n3, m3) * vN (n2, m2))).fst, (iN (vN (n3, m3) * vN (n2, m2))).snd))).snd) ∧ 0 < vN ((iN (vN (n2, m2) * vN (n4, m4))).fst, (iN (vN (n2, m2) * vN (n4, m4))).snd)) ∧ (((ratN (lowI (vN ((iN (vN ((iN (vN (n1, m1) * vN (n4, m4))).fst, (iN (vN (n1, m1) * vN (n4, m4))).snd) + vN ((iN (vN (n3, m3) * vN (n2, m2))).fst, (iN (vN (n3, m3) * vN (n2, m2))).snd))).fst, (iN (vN ((iN (vN (n1, m1) * vN (n4, m4))).fst, (iN (vN (n1, m1) * vN (n4, m4))).snd) + vN ((iN (vN (n3, m3) * vN (n2, m2))).fst, (iN (vN (n3, m3) * vN (n2, m2))).snd))).snd)) (vN ((iN (vN (n2, m2) * vN (n4, m4))).fst, (iN (vN (n2, m2) * vN (n4, m4))).snd)))).fst.fst, (ratN (lowI (vN ((iN (vN ((iN (vN (n1, m1) * vN (n4, m4))).fst, (iN (vN (n1, m1) * vN (n4, m4))).snd) + vN ((iN (vN (n3, m3) * vN (n2, m2))).fst, (iN (vN (n3, m3) * vN (n2, m2))).snd))).fst, (iN (vN ((iN (vN (n1, m1) * vN (n4, m4))).fst, (iN (vN (n1, m1) * vN (n4, m4))).snd) + vN ((iN (vN (n3, m3) * vN (n2, m2))).fst, (iN (vN (n3, m3) * vN (n2, m2))).snd))).snd)) (vN ((iN (vN (n2, m2) * vN (n4, m4))).fst, (iN (vN (n2, m2) * vN (n4, m4))).snd)))).fst.snd), (ratN (lowI (vN ((iN (vN ((iN (vN (n1, m1) * vN (n4, m4))).fst, (iN (vN (n1, m1) * vN (n4, m4))).snd) + vN ((iN (vN (n3, m3) * vN (n2, m2))).fst, (iN (vN (n3, m3) * vN (n2, m2))).snd))).fst, (iN (vN ((iN (vN (n1, m1) * vN (n4, m4))).fst, (iN (vN (n1, m1) * vN (n4, m4))).snd) + vN ((iN (vN (n3, m3) * vN (n2, m2))).fst, (iN (vN (n3, m3) * vN (n2, m2))).snd))).snd)) (vN ((iN (vN (n2, m2) * vN (n4, m4))).fst, (iN (vN (n2, m2) * vN (n4, m4))).snd)))).snd.fst, (ratN (lowI (vN ((iN (vN ((iN (vN (n1, m1) * vN (n4, m4))).fst, (iN (vN (n1, m1) * vN (n4, m4))).snd) + vN ((iN (vN (n3, m3) * vN (n2, m2))).fst, (iN (vN (n3, m3) * vN (n2, m2))).snd))).fst, (iN (vN ((iN (vN (n1, m1) * vN (n4, m4))).fst, (iN (vN (n1, m1) * vN (n4, m4))).snd) + vN ((iN (vN (n3, m3) * vN (n2, m2))).fst, (iN (vN (n3, m3) * vN (n2, m2))).snd))).snd)) (vN ((iN (vN (n2, m2) * vN (n4, m4))).fst, (iN (vN (n2, m2) * vN (n4, m4))).snd)))).snd.snd) = ratN (lowI (vN (n1, m1) * vN (n4, m4) + vN (n3, m3) * vN (n2, m2)) (vN (n2, m2) * vN (n4, m4))))) := by kernel_rfl
theorem g22r_eq (n1 : Bool) (m1 : List Int) (n2 : Bool) (m2 : List Int) (n3 : Bool) (m3 : List Int) (n4 : Bool) (m4 : List Int) : g22r n1 m1 n2 m2 n3 m3 n4 m4 = (((∃ (z : Int), (n1, m1) = intB 4294967296 z ∧ absI z < 4294967296 ^ 500) ∧ ∃ (z : Int), (n4, m4) = intB 4294967296 z ∧ absI z < 4294967296 ^ 500) ∧ ((∃ (z : Int), (n2, m2) = intB 4294967296 z ∧ absI z < 4294967296 ^ 500) ∧ ∃ (z : Int), (n3, m3) = intB 4294967296 z ∧ absI z < 4294967296 ^ 500) ∧ (((∃ (z : Int), ((iN (vN (n1, m1) * vN (n4, m4))).fst, (iN (vN (n1, m1) * vN (n4, m4))).snd) = intB 4294967296 z ∧ absI z < 4294967296 ^ 400) ∧ ∃ (z : Int), ((iN (vN (n2, m2) * vN (n3, m3))).fst, (iN (vN (n2, m2) * vN (n3, m3))).snd) = intB 4294967296 z ∧ absI z < 4294967296 ^ 400) ∧ 0 ≤ vN ((iN (vN (n1, m1) * vN (n4, m4))).fst, (iN (vN (n1, m1) * vN (n4, m4))).snd) ∧ 0 < vN ((iN (vN (n2, m2) * vN (n3, m3))).fst, (iN (vN (n2, m2) * vN (n3, m3))).snd)) ∧ (((ratN (lowI (vN ((iN (vN (n1, m1) * vN (n4, m4))).fst, (iN (vN (n1, m1) * vN (n4, m4))).snd)) (vN ((iN (vN (n2, m2) * vN (n3, m3))).fst, (iN (vN (n2, m2) * vN (n3, m3))).snd)))).fst.fst, (ratN (lowI (vN ((iN (vN (n1, m1) * vN (n4, m4))).fst, (iN (vN (n1, m1) * vN (n4, m4))).snd)) (vN ((iN (vN (n2, m2) * vN (n3, m3))).fst, (iN (vN (n2, m2) * vN (n3, m3))).snd)))).fst.snd), (ratN (lowI (vN ((iN (vN (n1, m1) * vN (n4, m4))).fst, (iN (vN (n1, m1) * vN (n4, m4))).snd)) (vN ((iN (vN (n2, m2) * vN (n3, m3))).fst, (iN (vN (n2, m2) * vN (n3, m3))).snd)))).snd.fst, (ratN (lowI (vN ((iN (vN (n1, m1) * vN (n4, m4))).fst, (iN (vN (n1, m1) * vN (n4, m4))).snd)) (vN ((iN (vN (n2, m2) * vN (n3, m3))).fst, (iN (vN (n2, m2) * vN (n3, m3))).snd)))).snd.snd) = ratN (lowI (vN (n1, m1) * vN (n4, m4)) (vN (n2, m2) * vN (n3, m3)))) := by kernel_rfl
end Go.SX.We.Nm

/- Chapter 08: num's fractions, proved. -/
namespace Go.SX.We.Nm
open Go Go.Proofs
theorem ok_pos {z : Int} {k : Nat} (h0 : 0 ≤ z) (h : z < 4294967296 ^ k) : OkN k (iN z) := ⟨z, rfl, by rw [abs_pos h0]; exact h⟩
theorem ok_pos' {z : Int} {k l : Nat} (h0 : 0 ≤ z) (h : z < 4294967296 ^ k) (hl : k ≤ l) : OkN l (iN z) := ok_pos h0 (pow_le_pow' cw2 h hl)
theorem fr_parts {k : Nat} {p q : DN} (h : FrN k (p, q)) : ∃ n d : Int, p = iN n ∧ q = iN d ∧ 0 ≤ n ∧ 0 < d ∧ n < 4294967296 ^ k ∧ d < 4294967296 ^ k := by
  obtain ⟨n, d, h1, h2⟩ := h
  unfold ratN at h1
  injection h1 with e1 e2
  exact ⟨n, d, e1, e2, h2⟩
theorem fr_le {k l : Nat} (hl : k ≤ l) {p : DN × DN} (h : FrN k p) : FrN l p := by
  obtain ⟨n, d, h1, h2, h3, h4, h5⟩ := h
  exact ⟨n, d, h1, h2, h3, pow_le_pow' cw2 h4 hl, pow_le_pow' cw2 h5 hl⟩
theorem one_lt (k : Nat) : (1 : Int) < 4294967296 ^ (k + 1) := by
  have p := pow_pos' cw0 k
  rw [Int.pow_succ]; omega
theorem ok20 : p20.OK Tryz.prog := p20.ok (fn := Tryz.f20) (fun _ => cx [p43.ci] []) (fun _ => cx_ok (cs := [p43.ci]) ⟨PC.OK.ci ok43, trivial⟩ _) (by kernel_rfl) (by kernel_rfl) (by kernel_rfl) fun n hp => by
  refine (g20_eq n).mpr ?_
  exact ⟨hp, ⟨by decide, by decide⟩, rfl⟩
theorem ok45 : p45.OK Tryz.prog := p45.ok (fn := Tryz.f45) (fun _ => cx [p43.ci] []) (fun _ => cx_ok (cs := [p43.ci]) ⟨PC.OK.ci ok43, trivial⟩ _) (by kernel_rfl) (by kernel_rfl) (by kernel_rfl) fun p hp => by
  obtain ⟨n, m⟩ := p
  refine (g45_eq n m).mpr ?_
  exact ⟨⟨by decide, by decide⟩, rfl⟩
theorem vc44 {n1 n2 : Bool} {m1 m2 : List Int} (hp : FrN 500 ((n1, m1), (n2, m2))) : g44r n1 m1 n2 m2 := by
  obtain ⟨n, d, e1, e2, h1, h2, h3, h4⟩ := fr_parts hp
  have ed : vN (n2, m2) = d := by rw [e2, iN_vN]
  have em : m2 = lim 4294967296 d := by
    have : m2 = (iN d).2 := by rw [← e2]
    rw [this]; show lim 4294967296 (absI d) = _
    rw [abs_pos (by omega)]
  refine (g44r_eq n1 m1 n2 m2).mpr ?_
  simp only [pp1, vQ, dQ, lQ, eq_self, and_true, true_and, and_self]
  rw [ed, em]
  have hv := val_lim cw2 (z := d) (by omega)
  refine ⟨fun h => ⟨by omega, ?_⟩, fun h => ?_⟩
  · match lim 4294967296 d, hv, h with
    | [x], hv, _ =>
      have : x = d := by simpa [valF] using hv
      subst this; rfl
  · have : ¬ d = 1 := fun e => h (by rw [e]; rfl)
    rw [decide_eq_false this]
theorem ok44 : p44.OK Tryz.prog := p44.ok (fn := Tryz.f44) (fun _ => cx [] []) (fun _ => cx0z) (by kernel_rfl) (by kernel_rfl) (by kernel_rfl) fun p hp => by
  obtain ⟨⟨n1, m1⟩, n2, m2⟩ := p
  exact vc44 hp
theorem sgn_zero (z : Int) : sgnF z = 0 ↔ z = 0 := by unfold sgnF; split <;> (try split) <;> omega
theorem gcd_le {n d : Int} (hn : 0 ≤ n) (hd : 0 < d) : gcdI n d ≤ d := by
  obtain ⟨_, h2⟩ := gcdI_dvd hn (Int.le_of_lt hd)
  exact Int.le_of_dvd hd h2
theorem vc47 {n1 n2 : Bool} {m1 m2 : List Int} (hp1 : OkN 400 (n1, m1)) (hp2 : OkN 400 (n2, m2)) (hp3 : 0 ≤ vN (n1, m1)) (hp4 : 0 < vN (n2, m2)) : g47r n1 m1 n2 m2 := by
  obtain ⟨n, e1, e2, h1, e3⟩ := mk_int hp1
  obtain ⟨d, f1, f2, h2, f3⟩ := mk_int hp2
  refine (g47r_eq n1 m1 n2 m2).mpr ?_
  simp only [pp1, vQ, dQ, lQ, eq_self, and_true, true_and, and_self, peta, iN_vN]
  rw [e3] at hp3 ⊢
  rw [f3] at hp4 ⊢
  rw [abs_pos hp3] at h1
  rw [abs_pos (by omega)] at h2
  have g := gcd_le hp3 hp4
  have gp := gcdI_pos (x := n) hp4
  have ep : (n1, m1) = iN n := by rw [e1, e2]; rfl
  have eq : (n2, m2) = iN d := by rw [f1, f2]; rfl
  refine ⟨fun h => ?_, fun h => ⟨⟨⟨ok_le (by decide) hp1, ok_le (by decide) hp2⟩, hp3, by omega⟩, ⟨by decide, by decide⟩, ⟨ok_pos (by omega) (Int.lt_of_le_of_lt g h2), ok_pos (by decide) (one_lt 399)⟩, fun h3 => ?_, fun h3 => ⟨⟨⟨ok_le (by decide) hp1, ok_pos' (by omega) (Int.lt_of_le_of_lt g h2) (by decide)⟩, hp3, gp⟩, ⟨⟨ok_le (by decide) hp2, ok_pos' (by omega) (Int.lt_of_le_of_lt g h2) (by decide)⟩, by omega, gp⟩, rfl⟩⟩⟩
  · rw [h] at f1
    have := of_decide_eq_true f1.symm
    omega
  · rw [sgn_zero] at h3
    have : gcdI n d = 1 := by omega
    rw [lowI, this, Int.ediv_one, Int.ediv_one, ep, eq]; rfl
theorem ok47 : p47.OK Tryz.prog := p47.ok (fn := Tryz.f47) (fun _ => cx [p86.ci, p87.ci, p88.ci, p43.ci, p89.ci] []) (fun _ => cx_ok (cs := [p86.ci, p87.ci, p88.ci, p43.ci, p89.ci]) ⟨PC.OK.ci ok86, PC.OK.ci ok87, PC.OK.ci ok88, PC.OK.ci ok43, PC.OK.ci ok89, trivial⟩ _) (by kernel_rfl) (by kernel_rfl) (by kernel_rfl) fun p hp => by
  obtain ⟨⟨n1, m1⟩, n2, m2⟩ := p
  exact vc47 hp.1.1 hp.1.2 hp.2.1 hp.2.2
theorem vc21 {p1 q1 p2 q2 : DN} (hp1 : FrN 100 (p1, q1)) (hp2 : FrN 100 (p2, q2)) : g21r p1.1 p1.2 q1.1 q1.2 p2.1 p2.2 q2.1 q2.2 := by
  obtain ⟨n, d, e1, e2, h1, h2, h3, h4⟩ := fr_parts hp1
  obtain ⟨k, m, f1, f2, i1, i2, i3, i4⟩ := fr_parts hp2
  refine (g21r_eq _ _ _ _ _ _ _ _).mpr ?_
  simp only [pp1, vQ, dQ, lQ, eq_self, and_true, true_and, and_self, iN_vN, peta]
  rw [e1, e2, f1, f2]
  simp only [iN_vN]
  have o1 := ok_pos' h1 h3 (l := 500) (by decide)
  have o2 := ok_pos' (Int.le_of_lt h2) h4 (l := 500) (by decide)
  have o3 := ok_pos' i1 i3 (l := 500) (by decide)
  have o4 := ok_pos' (Int.le_of_lt i2) i4 (l := 500) (by decide)
  have c0 : 0 ≤ n * m := Int.mul_nonneg h1 (Int.le_of_lt i2)
  have c1 := mul_lt_pow cw2 h1 h3 (Int.le_of_lt i2) i4
  have d0 : 0 ≤ k * d := Int.mul_nonneg i1 (Int.le_of_lt h2)
  have d1 := mul_lt_pow cw2 i1 i3 (Int.le_of_lt h2) h4
  have j0 : 0 < d * m := Int.mul_pos h2 i2
  have j1 := mul_lt_pow cw2 (Int.le_of_lt h2) h4 (Int.le_of_lt i2) i4
  have s1 := add_lt_pow cw2 c1 d1
  have gen : (OkN 500 (iN n) ∧ OkN 500 (iN m)) ∧ (OkN 500 (iN k) ∧ OkN 500 (iN d)) ∧ (OkN 500 (iN (n * m)) ∧ OkN 500 (iN (k * d))) ∧ (OkN 500 (iN d) ∧ OkN 500 (iN m)) ∧ ((OkN 400 (iN (n * m + k * d)) ∧ OkN 400 (iN (d * m))) ∧ 0 ≤ n * m + k * d ∧ 0 < d * m) :=
    ⟨⟨o1, o4⟩, ⟨o3, o2⟩, ⟨ok_pos' c0 c1 (by decide), ok_pos' d0 d1 (by decide)⟩, ⟨o2, o4⟩, ⟨ok_pos' (Int.add_nonneg c0 d0) s1 (by decide), ok_pos' (Int.le_of_lt j0) j1 (by decide)⟩, Int.add_nonneg c0 d0, j0⟩
  refine ⟨fr_le (by decide) ⟨n, d, rfl, h1, h2, h3, h4⟩, fun q => ⟨fr_le (by decide) ⟨k, m, rfl, i1, i2, i3, i4⟩, fun r => ⟨⟨o1, o3⟩, ?_⟩, fun r => gen⟩, fun q => gen⟩
  have q' : d = 1 := of_decide_eq_true q
  have r' : m = 1 := of_decide_eq_true r
  rw [q', r', lowI, Int.mul_one, Int.mul_one, Int.mul_one, gcdI_one, Int.ediv_one, Int.ediv_one]; rfl
theorem ok21r : p21r.OK Tryz.prog := p21r.ok (fn := Tryz.f21) (fun _ => cx [p44.ci, p45.ci, p46.ci, p47.ci, p48.ci] []) (fun _ => cx_ok (cs := [p44.ci, p45.ci, p46.ci, p47.ci, p48.ci]) ⟨PC.OK.ci ok44, PC.OK.ci ok45, PC.OK.ci ok46, PC.OK.ci ok47, PC.OK.ci ok48, trivial⟩ _) (by kernel_rfl) (by kernel_rfl) (by kernel_rfl) fun p hp => by
  obtain ⟨⟨p1, q1⟩, p2, q2⟩ := p
  exact vc21 hp.1 hp.2
theorem vc22 {p1 q1 p2 q2 : DN} (hp1 : FrN 100 (p1, q1)) (hp2 : FrN 100 (p2, q2)) (hp3 : 0 < vN p2) : g22r p1.1 p1.2 q1.1 q1.2 p2.1 p2.2 q2.1 q2.2 := by
  obtain ⟨n, d, e1, e2, h1, h2, h3, h4⟩ := fr_parts hp1
  obtain ⟨k, m, f1, f2, i1, i2, i3, i4⟩ := fr_parts hp2
  refine (g22r_eq _ _ _ _ _ _ _ _).mpr ?_
  simp only [pp1, vQ, dQ, lQ, eq_self, and_true, true_and, and_self, iN_vN, peta]
  rw [f1, iN_vN] at hp3
  rw [e1, e2, f1, f2]
  simp only [iN_vN]
  have o1 := ok_pos' h1 h3 (l := 500) (by decide)
  have o2 := ok_pos' (Int.le_of_lt h2) h4 (l := 500) (by decide)
  have o3 := ok_pos' i1 i3 (l := 500) (by decide)
  have o4 := ok_pos' (Int.le_of_lt i2) i4 (l := 500) (by decide)
  exact ⟨⟨o1, o4⟩, ⟨o2, o3⟩, ⟨ok_pos' (Int.mul_nonneg h1 (Int.le_of_lt i2)) (mul_lt_pow cw2 h1 h3 (Int.le_of_lt i2) i4) (by decide), ok_pos' (Int.le_of_lt (Int.mul_pos h2 hp3)) (mul_lt_pow cw2 (Int.le_of_lt h2) h4 i1 i3) (by decide)⟩, Int.mul_nonneg h1 (Int.le_of_lt i2), Int.mul_pos h2 hp3⟩
theorem ok22r : p22r.OK Tryz.prog := p22r.ok (fn := Tryz.f22) (fun _ => cx [p47.ci, p48.ci] []) (fun _ => cx_ok (cs := [p47.ci, p48.ci]) ⟨PC.OK.ci ok47, PC.OK.ci ok48, trivial⟩ _) (by kernel_rfl) (by kernel_rfl) (by kernel_rfl) fun p hp => by
  obtain ⟨⟨p1, q1⟩, p2, q2⟩ := p
  exact vc22 hp.1.1 hp.1.2 hp.2
end Go.SX.We.Nm

/- Chapter 08: decimal text, what is asked. -/
namespace Go.SX.We.Nm
open Go Go.Proofs
noncomputable section
@[reducible] def c92 : HC where
  f := 92
  X := List Int
  Hs xs := [.row 5 (.int .u8) 0 xs]
  ags _ := [.c (.own 0 0)]
  Pre xs := xs.length ≤ 1000000
  res _ := .tup []
  out xs := [.row 5 (.int .u8) 0 xs.reverse]
  fr _ := false
@[reducible] def pick92 : Pick (List Int) := fun args H K => match args with
  | [.c (.own i _)] => (match H[i]? with
    | some (.row _ (.int .u8) _ xs) => K xs [i]
    | _ => False)
  | _ => False
@[reducible] def A92 (xs : List Int) : Ann where
  τ := Nat
  pre := []
  preC := []
  keep := [0]
  slots k := [(2, .c (.int .i64 k)), (3, .c (.int .i64 ((xs.length : Int) - 1 - k)))]
  ents k := [(0, .row 5 (.int .u8) 1 (turnF xs k))]
  ok k := 2 * k ≤ xs.length
  m k := xs.length - k
def g92 (xs : List Int) : Prop := HVC (cx [] [(0, fun _ => A92 xs)]) Tryz.f92 c92 xs
def textF (N : Int) : ByteArray := if N = 0 then strOf [48] else strOf ((lim 10 N).map (48 + ·)).reverse
@[reducible] def A49a (N : Int) : Ann where
  τ := Nat
  pre := [(3, 5, .int .u8)]
  preC := []
  keep := []
  slots k := [(0, .c (.ro (.int .u32) (lim 4294967296 (N / 10 ^ (9 * k))))), (3, .c (.own 0 1))]
  ents k := [(0, .row 5 (.int .u8) 0 (dec9 N k))]
  ok _ := True
  m k := (N / 10 ^ (9 * k)).toNat
@[reducible] def A49b (ys q : List Int) (r : Int) : Ann where
  τ := Nat
  pre := []
  preC := []
  keep := [0, 4]
  slots i := [(3, .c (.own 0 2)), (5, .c (.int .u32 (r / 10 ^ i))), (6, .c (.int .i64 i))]
  ents i := [(0, .row 5 (.int .u8) 0 (ys ++ (digs 10 r i).map (48 + ·)))]
  ok i := i ≤ 9 ∧ ∀ j, j < i → 0 < (q.length : Int) ∨ 0 < r / 10 ^ j
  m i := 9 - i
def with49 (st : St) : Ann :=
  match findT 4 st.t, findT 5 st.t with
  | .c (.ro (.int .u32) q), .c (.int _ r) => (match st.h[(0 : Nat)]? with
    | some (.row _ (.int .u8) _ ys) => A49b ys q r
    | _ => noAnn)
  | _, _ => noAnn
@[reducible] def p49 : PC := ⟨49, [aU], [aS], fun m => ∃ N : Int, m = lim 4294967296 N ∧ 0 ≤ N ∧ N < 4294967296 ^ 500, fun m => textF (valF 4294967296 m)⟩
def g49 (m : List Int) : Prop := p49.VC (cx [p91.ci, c92.ci pick92] [(0, fun _ => A49a (valF 4294967296 m)), (1, with49)]) Tryz.f49 m
end
end Go.SX.We.Nm

/- Printed by VC.lean: what the executor asks. -/
namespace Go.SX.We.Nm
open Go Go.Proofs IntKind List
theorem g92_eq (xs : List Int) : g92 xs = (Fits .i64 ((xs.length : Int) - 1) ∧ (∃ (x0 : Nat), (2 : Nat) * x0 ≤ xs.length ∧ (xs = turnF xs x0 ∧ True) ∧ 0 = (x0 : Int) ∧ (xs.length : Int) - 1 = (xs.length : Int) - 1 - (x0 : Int) ∧ True ∧ True) ∧ ∀ (x : Nat), (2 : Nat) * x ≤ xs.length → ((x : Int) < (xs.length : Int) - 1 - (x : Int) → (x : Int) < (xs.length : Int) - 1 - (x : Int) ∧ (0 ≤ (xs.length : Int) - 1 - (x : Int) ∧ (xs.length : Int) - 1 - (x : Int) < (↑(turnF xs x).length : Int)) ∧ (0 ≤ (x : Int) ∧ (x : Int) < (↑(turnF xs x).length : Int)) ∧ (0 ≤ (x : Int) ∧ (x : Int) < (↑(turnF xs x).length : Int)) ∧ (0 ≤ (xs.length : Int) - 1 - (x : Int) ∧ (xs.length : Int) - 1 - (x : Int) < (↑((turnF xs x).set (x : Int).toNat ((turnF xs x).getD ((xs.length : Int) - 1 - (x : Int)).toNat 0)).length : Int)) ∧ Fits .i64 ((x : Int) + 1) ∧ Fits .i64 ((xs.length : Int) - 1 - (x : Int) - 1) ∧ ∃ (x' : Nat), (2 : Nat) * x' ≤ xs.length ∧ xs.length - x' < xs.length - x ∧ (((turnF xs x).set (x : Int).toNat ((turnF xs x).getD ((xs.length : Int) - 1 - (x : Int)).toNat 0)).set ((xs.length : Int) - 1 - (x : Int)).toNat ((turnF xs x).getD (x : Int).toNat 0) = turnF xs x' ∧ True) ∧ (x : Int) + 1 = (x' : Int) ∧ (xs.length : Int) - 1 - (x : Int) - 1 = (xs.length : Int) - 1 - (x' : Int) ∧ True ∧ True) ∧ (¬(x : Int) < (xs.length : Int) - 1 - (x : Int) → ¬(x : Int) < (xs.length : Int) - 1 - (x : Int) ∧ True ∧ turnF xs x = xs.reverse ∧ True)) := by kernel_rfl
theorem g49_eq (m : List Int) : g49 m = (((m.length : Int) = 0 → (m.length : Int) = 0 ∧ ByteArray.mk #[(48 : UInt8)] = textF (vQ m)) ∧ (¬(m.length : Int) = 0 → ¬(m.length : Int) = 0 ∧ (∃ (x0 : Nat), True ∧ (nilT Int = dec9 (vQ m) x0 ∧ True) ∧ m = lQ (vQ m / 10 ^ ((9 : Nat) * x0)) ∧ True ∧ True) ∧ ∀ (x : Nat), True → (0 < (↑(lQ (vQ m / 10 ^ ((9 : Nat) * x))).length : Int) → 0 < (↑(lQ (vQ m / 10 ^ ((9 : Nat) * x))).length : Int) ∧ ((∀ (x_1 : Int), x_1 ∈ lQ (vQ m / 10 ^ ((9 : Nat) * x)) → 0 ≤ x_1 ∧ x_1 < 4294967296) ∧ (lQ (vQ m / 10 ^ ((9 : Nat) * x))).length ≤ 100000 ∧ (1 : Int) ≤ 1000000000 ∧ (1000000000 : Int) < 4294967296) ∧ (∃ (x0 : Nat), (x0 ≤ 9 ∧ ∀ (j : Nat), j < x0 → 0 < (↑(lQ (vQ (lQ (vQ m / 10 ^ ((9 : Nat) * x))) / 1000000000)).length : Int) ∨ 0 < vQ (lQ (vQ m / 10 ^ ((9 : Nat) * x))) % 1000000000 / 10 ^ j) ∧ (dec9 (vQ m) x = dec9 (vQ m) x ++ List.map (fun (x : Int) => 48 + x) (digs 10 (vQ (lQ (vQ m / 10 ^ ((9 : Nat) * x))) % 1000000000) x0) ∧ True) ∧ True ∧ vQ (lQ (vQ m / 10 ^ ((9 : Nat) * x))) % 1000000000 = vQ (lQ (vQ m / 10 ^ ((9 : Nat) * x))) % 1000000000 / 10 ^ x0 ∧ 0 = (x0 : Int) ∧ lQ (vQ (lQ (vQ m / 10 ^ ((9 : Nat) * x))) / 1000000000) = lQ (vQ (lQ (vQ m / 10 ^ ((9 : Nat) * x))) / 1000000000) ∧ lQ (vQ m / 10 ^ ((9 : Nat) * x)) = lQ (vQ m / 10 ^ ((9 : Nat) * x)) ∧ True) ∧ ∀ (x_1 : Nat), (x_1 ≤ 9 ∧ ∀ (j : Nat), j < x_1 → 0 < (↑(lQ (vQ (lQ (vQ m / 10 ^ ((9 : Nat) * x))) / 1000000000)).length : Int) ∨ 0 < vQ (lQ (vQ m / 10 ^ ((9 : Nat) * x))) % 1000000000 / 10 ^ j) → ((x_1 : Int) < 9 → (x_1 : Int) < 9 ∧ (x_1 : Int) < 9 ∧ (0 < (↑(lQ (vQ (lQ (vQ m / 10 ^ ((9 : Nat) * x))) / 1000000000)).length : Int) → 0 < (↑(lQ (vQ (lQ (vQ m / 10 ^ ((9 : Nat) * x))) / 1000000000)).length : Int) ∧ 0 < (↑(lQ (vQ (lQ (vQ m / 10 ^ ((9 : Nat) * x))) / 1000000000)).length : Int) ∧ (0 ≤ vQ (lQ (vQ m / 10 ^ ((9 : Nat) * x))) % 1000000000 / 10 ^ x_1 ∧ (0 : Int) < 10) ∧ Small ((dec9 (vQ m) x ++ List.map (fun (x : Int) => 48 + x) (digs 10 (vQ (lQ (vQ m / 10 ^ ((9 : Nat) * x))) % 1000000000) x_1)).length + ((0 : Nat) + 1)) ∧ (0 ≤ vQ (lQ (vQ m / 10 ^ ((9 : Nat) * x))) % 1000000000 / 10 ^ x_1 ∧ (0 : Int) < 10) ∧ Fits .i64 ((x_1 : Int) + 1) ∧ ∃ (x' : Nat), (x' ≤ 9 ∧ ∀ (j : Nat), j < x' → 0 < (↑(lQ (vQ (lQ (vQ m / 10 ^ ((9 : Nat) * x))) / 1000000000)).length : Int) ∨ 0 < vQ (lQ (vQ m / 10 ^ ((9 : Nat) * x))) % 1000000000 / 10 ^ j) ∧ (9 : Nat) - x' < 9 - x_1 ∧ (dec9 (vQ m) x ++ List.map (fun (x : Int) => 48 + x) (digs 10 (vQ (lQ (vQ m / 10 ^ ((9 : Nat) * x))) % 1000000000) x_1) ++ [u8.wrap (u32.wrap (48 + vQ (lQ (vQ m / 10 ^ ((9 : Nat) * x))) % 1000000000 / 10 ^ x_1 % 10))] = dec9 (vQ m) x ++ List.map (fun (x : Int) => 48 + x) (digs 10 (vQ (lQ (vQ m / 10 ^ ((9 : Nat) * x))) % 1000000000) x') ∧ True) ∧ True ∧ u32.wrap (vQ (lQ (vQ m / 10 ^ ((9 : Nat) * x))) % 1000000000 / 10 ^ x_1 / 10) = vQ (lQ (vQ m / 10 ^ ((9 : Nat) * x))) % 1000000000 / 10 ^ x' ∧ (x_1 : Int) + 1 = (x' : Int) ∧ lQ (vQ (lQ (vQ m / 10 ^ ((9 : Nat) * x))) / 1000000000) = lQ (vQ (lQ (vQ m / 10 ^ ((9 : Nat) * x))) / 1000000000) ∧ lQ (vQ m / 10 ^ ((9 : Nat) * x)) = lQ (vQ m / 10 ^ ((9 : Nat) * x)) ∧ True) ∧ (¬0 < (↑(lQ (vQ (lQ (vQ m / 10 ^ ((9 : Nat) * x))) / 1000000000)).length : Int) → ¬0 < (↑(lQ (vQ (lQ (vQ m / 10 ^ ((9 : Nat) * x))) / 1000000000)).length : Int) ∧ ¬0 < (↑(lQ (vQ (lQ (vQ m / 10 ^ ((9 : Nat) * x))) / 1000000000)).length : Int) ∧ (0 < vQ (lQ (vQ m / 10 ^ ((9 : Nat) * x))) % 1000000000 / 10 ^ x_1 → 0 < vQ (lQ (vQ m / 10 ^ ((9 : Nat) * x))) % 1000000000 / 10 ^ x_1 ∧ 0 < vQ (lQ (vQ m / 10 ^ ((9 : Nat) * x))) % 1000000000 / 10 ^ x_1 ∧ 0 < vQ (lQ (vQ m / 10 ^ ((9 : Nat) * x))) % 1000000000 / 10 ^ x_1 ∧ (0 ≤ vQ (lQ (vQ m / 10 ^ ((9 : Nat) * x))) % 1000000000 / 10 ^ x_1 ∧ (0 : Int) < 10) ∧ Small ((dec9 (vQ m) x ++ List.map (fun (x : Int) => 48 + x) (digs 10 (vQ (lQ (vQ m / 10 ^ ((9 : Nat) * x))) % 1000000000) x_1)).length + ((0 : Nat) + 1)) ∧ (0 ≤ vQ (lQ (vQ m / 10 ^ ((9 : Nat) * x))) % 1000000000 / 10 ^ x_1 ∧ (0 : Int) < 10) ∧ Fits .i64 ((x_1 : Int) + 1) ∧ ∃ (x' : Nat), (x' ≤ 9 ∧ ∀ (j : Nat), j < x' → 0 < (↑(lQ (vQ (lQ (vQ m / 10 ^ ((9 : Nat) * x))) / 1000000000)).length : Int) ∨ 0 < vQ (lQ (vQ m / 10 ^ ((9 : Nat) * x))) % 1000000000 / 10 ^ j) ∧ (9 : Nat) - x' < 9 - x_1 ∧ (dec9 (vQ m) x ++ List.map (fun (x : Int) => 48 + x) (digs 10 (vQ (lQ (vQ m / 10 ^ ((9 : Nat) * x))) % 1000000000) x_1) ++ [u8.wrap (u32.wrap (48 + vQ (lQ (vQ m / 10 ^ ((9 : Nat) * x))) % 1000000000 / 10 ^ x_1 % 10))] = dec9 (vQ m) x ++ List.map (fun (x : Int) => 48 + x) (digs 10 (vQ (lQ (vQ m / 10 ^ ((9 : Nat) * x))) % 1000000000) x') ∧ True) ∧ True ∧ u32.wrap (vQ (lQ (vQ m / 10 ^ ((9 : Nat) * x))) % 1000000000 / 10 ^ x_1 / 10) = vQ (lQ (vQ m / 10 ^ ((9 : Nat) * x))) % 1000000000 / 10 ^ x' ∧ (x_1 : Int) + 1 = (x' : Int) ∧ lQ (vQ (lQ (vQ m / 10 ^ ((9 : Nat) * x))) / 1000000000) = lQ (vQ (lQ (vQ m / 10 ^ ((9 : Nat) * x))) / 1000000000) ∧ lQ (vQ m / 10 ^ ((9 : Nat) * x)) = lQ (vQ m / 10 ^ ((9 : Nat) * x)) ∧ True) ∧ (¬0 < vQ (lQ (vQ m / 10 ^ ((9 : Nat) * x))) % 1000000000 / 10 ^ x_1 → ¬0 < vQ (lQ (vQ m / 10 ^ ((9 : Nat) * x))) % 1000000000 / 10 ^ x_1 ∧ ¬0 < vQ (lQ (vQ m / 10 ^ ((9 : Nat) * x))) % 1000000000 / 10 ^ x_1 ∧ ¬0 < vQ (lQ (vQ m / 10 ^ ((9 : Nat) * x))) % 1000000000 / 10 ^ x_1 ∧ ∃ (x' : Nat), True ∧ (vQ m / 10 ^ ((9 : Nat) * x')).toNat < (vQ m / 10 ^ ((9 : Nat) * x)).toNat ∧ (dec9 (vQ m) x ++ List.map (fun (x : Int) => 48 + x) (digs 10 (vQ (lQ (vQ m / 10 ^ ((9 : Nat) * x))) % 1000000000) x_1) = dec9 (vQ m) x' ∧ True) ∧ lQ (vQ (lQ (vQ m / 10 ^ ((9 : Nat) * x))) / 1000000000) = lQ (vQ m / 10 ^ ((9 : Nat) * x')) ∧ True ∧ True))) ∧ (¬(x_1 : Int) < 9 → ¬(x_1 : Int) < 9 ∧ ¬(x_1 : Int) < 9 ∧ ∃ (x' : Nat), True ∧ (vQ m / 10 ^ ((9 : Nat) * x')).toNat < (vQ m / 10 ^ ((9 : Nat) * x)).toNat ∧ (dec9 (vQ m) x ++ List.map (fun (x : Int) => 48 + x) (digs 10 (vQ (lQ (vQ m / 10 ^ ((9 : Nat) * x))) % 1000000000) x_1) = dec9 (vQ m) x' ∧ True) ∧ lQ (vQ (lQ (vQ m / 10 ^ ((9 : Nat) * x))) / 1000000000) = lQ (vQ m / 10 ^ ((9 : Nat) * x')) ∧ True ∧ True)) ∧ (¬0 < (↑(lQ (vQ m / 10 ^ ((9 : Nat) * x))).length : Int) → ¬0 < (↑(lQ (vQ m / 10 ^ ((9 : Nat) * x))).length : Int) ∧ True ∧ (dec9 (vQ m) x = dec9 (vQ m) x ∧ True) ∧ (True ∧ True) ∧ (dec9 (vQ m) x).length ≤ 1000000 ∧ strOf (dec9 (vQ m) x).reverse = textF (vQ m)))) := by kernel_rfl
end Go.SX.We.Nm

/- Chapter 08: decimal text, proved. -/
namespace Go.SX.We.Nm
open Go Go.Proofs
theorem vc92 {xs : List Int} (hl : xs.length ≤ 1000000) : g92 xs := by
  refine (g92_eq xs).mpr ?_
  simp only [pp1, vQ, dQ, lQ, eq_self, and_true, true_and, and_self, Int.toNat_natCast, List.length_set, turn_len]
  refine ⟨fj (by omega) (by omega), ⟨0, by omega, (turn_zero xs).symm, rfl, by omega⟩, fun k hk => ⟨fun h => ?_, fun h => turn_all (by omega)⟩⟩
  have e : ((xs.length : Int) - 1 - k).toNat = xs.length - 1 - k := by omega
  rw [e]
  exact ⟨by omega, by omega, by omega, by omega, fj (by omega) (by omega), fj (by omega) (by omega), k + 1, by omega, by omega, turn_step (by omega), by omega, by omega⟩
theorem h92 : HeapOK Tryz.prog c92 :=
  heap_flat (c := c92) (fn := Tryz.f92) (by kernel_rfl) (by kernel_rfl) (by kernel_rfl) (fun _ => ⟨trivial, trivial⟩) (fun xs => cx [] [(0, fun _ => A92 xs)]) (fun _ => cx0z) fun _ hx => vc92 hx
theorem pick92_ok : ∀ args H K, pick92 args H K → ∃ x js, K x js := by
  intro args H K h
  unfold pick92 at h
  split at h
  · split at h
    · exact ⟨_, _, h⟩
    · exact h.elim
  · exact h.elim
theorem vc49 {N : Int} (h0 : 0 ≤ N) (hN : N < 4294967296 ^ 500) : g49 (lim 4294967296 N) := by
  refine (g49_eq (lim 4294967296 N)).mpr ?_
  have hv : valF 4294967296 (lim 4294967296 N) = N := val_lim cw2 h0
  have hd : ∀ k : Nat, 0 ≤ N / 10 ^ (9 * k) := fun k => Int.ediv_nonneg h0 (Int.le_of_lt (p10 _))
  have hvk : ∀ k : Nat, valF 4294967296 (lim 4294967296 (N / 10 ^ (9 * k))) = N / 10 ^ (9 * k) := fun k => val_lim cw2 (hd k)
  simp only [pp1, vQ, dQ, lQ, eq_self, and_true, true_and, and_self, hv, hvk]
  have hz : ((lim 4294967296 N).length : Int) = 0 ↔ N = 0 := by
    have := lim_pos cw2 h0
    omega
  have hten := ten_len h0 hN
  have hle : ∀ k : Nat, N / 10 ^ (9 * k) ≤ N := fun k => Int.ediv_le_self _ h0
  have hlen : ∀ k : Nat, (lim 4294967296 (N / 10 ^ (9 * k))).length ≤ 500 := fun k => lim_len cw2 (hd k) (Int.lt_of_le_of_lt (hle k) hN)
  clear hN
  refine ⟨fun h => ?_, fun h => ⟨⟨0, by rw [dec_zero], by simp⟩, fun k _ => ⟨fun h1 => ?_, fun h1 => ?_⟩⟩⟩
  · rw [textF, if_pos (hz.1 h)]; rfl
  · obtain ⟨M, hM⟩ : ∃ M, M = N / 10 ^ (9 * k) := ⟨_, rfl⟩
    have m0 : 0 ≤ M := by rw [hM]; exact hd k
    have hMp : 0 < M := by
      have := lim_pos cw2 m0
      rw [← hM] at h1
      omega
    have hMk : N / 10 ^ (9 * (k + 1)) = M / 1000000000 := by
      rw [show 9 * (k + 1) = 9 * k + 9 by omega, Int.pow_add, ← div_div (p10 _), ← hM, pow9]
    have hq : ((lim 4294967296 (M / 1000000000)).length : Int) > 0 ↔ 0 < M / 1000000000 := by
      have := lim_pos cw2 (z := M / 1000000000) (by omega)
      omega
    have hr0 : 0 ≤ M % 1000000000 := by omega
    have hr1 : M % 1000000000 < 1000000000 := by omega
    have hp : ∀ i : Nat, 0 ≤ M % 1000000000 / 10 ^ i ∧ M % 1000000000 / 10 ^ i < 1000000000 := fun i => ⟨Int.ediv_nonneg hr0 (Int.le_of_lt (p10 i)), Int.lt_of_le_of_lt (Int.ediv_le_self _ hr0) hr1⟩
    have hlk := dec_len N k
    have dig : ∀ i : Nat, i < 9 → (0 < ((lim 4294967296 (M / 1000000000)).length : Int) ∨ 0 < M % 1000000000 / 10 ^ i) → (∀ j : Nat, j < i → 0 < ((lim 4294967296 (M / 1000000000)).length : Int) ∨ 0 < M % 1000000000 / 10 ^ j) →
        (0 ≤ M % 1000000000 / 10 ^ i ∧ (0 : Int) < 10) ∧ Small ((dec9 N k ++ List.map (fun x => 48 + x) (digs 10 (M % 1000000000) i)).length + (0 + 1)) ∧ (0 ≤ M % 1000000000 / 10 ^ i ∧ (0 : Int) < 10) ∧ Fits IntKind.i64 ((i : Int) + 1) ∧
        ∃ x' : Nat, (x' ≤ 9 ∧ ∀ j : Nat, j < x' → 0 < ((lim 4294967296 (M / 1000000000)).length : Int) ∨ 0 < M % 1000000000 / 10 ^ j) ∧ 9 - x' < 9 - i ∧
          dec9 N k ++ List.map (fun x => 48 + x) (digs 10 (M % 1000000000) i) ++ [IntKind.u8.wrap (IntKind.u32.wrap (48 + M % 1000000000 / 10 ^ i % 10))] = dec9 N k ++ List.map (fun x => 48 + x) (digs 10 (M % 1000000000) x') ∧
          IntKind.u32.wrap (M % 1000000000 / 10 ^ i / 10) = M % 1000000000 / 10 ^ x' ∧ (i : Int) + 1 = (x' : Int) := by
      intro i hi hnow hall
      obtain ⟨d0, d1⟩ := hp i
      refine ⟨⟨d0, by decide⟩, ?_, ⟨d0, by decide⟩, fj (by omega) (by omega), i + 1, ⟨by omega, fun j hj => ?_⟩, by omega, ?_, ?_, by omega⟩
      · refine sm ?_
        rw [List.length_append, List.length_map, digs_len]
        omega
      · rcases Nat.lt_or_eq_of_le (Nat.lt_succ_iff.1 hj) with h | h
        · exact hall j h
        · subst h; exact hnow
      · have w8 : ∀ x : Int, 0 ≤ x → x < 256 → IntKind.u8.wrap x = x := fun x h0 h1 => (tb_tab h0 h1).1
        rw [w32_id (by omega) (by omega), w8 _ (by omega) (by omega), digs_snoc (by decide), List.map_append, List.append_assoc]
        rfl
      · rw [w32_id (by omega) (by omega), Int.pow_succ, ← div_div (p10 i)]
    have fin : ∀ i : Nat, i ≤ 9 → (i = 9 ∨ (M / 1000000000 = 0 ∧ M % 1000000000 / 10 ^ i = 0)) → (∀ j : Nat, j < i → 0 < ((lim 4294967296 (M / 1000000000)).length : Int) ∨ 0 < M % 1000000000 / 10 ^ j) →
        ∃ x' : Nat, (N / 10 ^ (9 * x')).toNat < M.toNat ∧ dec9 N k ++ List.map (fun x => 48 + x) (digs 10 (M % 1000000000) i) = dec9 N x' ∧ lim 4294967296 (M / 1000000000) = lim 4294967296 (N / 10 ^ (9 * x')) := by
      intro i hi hlast hall
      refine ⟨k + 1, ?_, ?_, ?_⟩
      · rw [hMk]; omega
      · have := dec_step h0 (k := k) (i := i) hi (by rw [← hM]; exact hlast) (fun j hj => by
          rw [← hM]
          rcases hall j hj with h | h
          · exact .inl (hq.1 h)
          · exact .inr h)
        rw [← hM] at this
        exact this
      · rw [hMk]
    rw [← hM]
    refine ⟨⟨(lim_can cw2 m0).1, Nat.le_trans (by rw [hM]; exact hlen k) (by decide), by decide, by decide⟩, ⟨0, ⟨by omega, fun j hj => by omega⟩, by simp [digs], by simp, rfl⟩, fun i hi => ⟨fun h2 => ⟨fun h3 => dig i (by omega) (.inl h3) hi.2, fun h3 => ⟨fun h4 => dig i (by omega) (.inr h4) hi.2, fun h4 => fin i hi.1 (.inr ⟨?_, ?_⟩) hi.2⟩⟩, fun h2 => fin i hi.1 (.inl (by omega)) hi.2⟩⟩
    · have := hq
      omega
    · have := (hp i).1
      omega
  · have hM : N / 10 ^ (9 * k) = 0 := by
      have := lim_pos cw2 (hd k)
      have := hd k
      omega
    have hne : N ≠ 0 := fun e => h (hz.2 e)
    have hlk := dec_len N k
    refine ⟨by omega, ?_⟩
    rw [textF, if_neg hne, dec_end h0 hM]
theorem ok49 : p49.OK Tryz.prog := p49.ok (fn := Tryz.f49) (fun m => cx [p91.ci, c92.ci pick92] [(0, fun _ => A49a (valF 4294967296 m)), (1, with49)])
    (fun _ => cx_ok (cs := [p91.ci, c92.ci pick92]) ⟨PC.OK.ci ok91, h92.ci (fun _ => ⟨trivial, trivial⟩) pick92_ok, trivial⟩ _) (by kernel_rfl) (by kernel_rfl) (by kernel_rfl) fun m hp => by
  obtain ⟨N, h1, h2, h3⟩ := hp
  subst h1
  exact vc49 h2 h3
end Go.SX.We.Nm

/- Chapter 08: Num and Reciprocals, what is asked. -/
namespace Go.SX.We.Nm
open Go Go.Proofs
def numF (q : Int × Int) : ByteArray := if q.2 = 1 then textF q.1 else textF q.1 ++ ⟨#[47]⟩ ++ textF q.2
def recN (w : List Int) : Nat → Int × Int
  | 0 => (0, 1)
  | k + 1 => lowI ((recN w k).1 * (lowI 1 (w.getD k 0)).2 + (lowI 1 (w.getD k 0)).1 * (recN w k).2) ((recN w k).2 * (lowI 1 (w.getD k 0)).2)
def recF (w : List Int) : ByteArray × Int := if checkF w 12 = 0 then (numF (recN w w.length), 0) else (ByteArray.empty, checkF w 12)
noncomputable section
@[reducible] def p23r : PC := ⟨23, [aR], [aS, aI], FrN 300, fun p => (numF (vN p.1, vN p.2), 0)⟩
def g23r (n1 : Bool) (m1 : List Int) (n2 : Bool) (m2 : List Int) : Prop := p23r.VC (cx [p49.ci, p44.ci] []) Tryz.f23 ((n1, m1), (n2, m2))
@[reducible] def A6r (w : List Int) : Ann where
  τ := Nat
  pre := []
  preC := []
  keep := [0, 5, 14, 15]
  slots k := [(16, .c (.int .i64 k))]
  ents k := [(0, .blk 54 [.bool 0 (iN (recN w k).1).1, .ro (.int .u32) (iN (recN w k).1).2, .bool 0 (iN (recN w k).2).1, .ro (.int .u32) (iN (recN w k).2).2])]
  ok k := k ≤ w.length
  m k := w.length - k
@[reducible] def p6r : PC := ⟨6, [aIs], [aS, aI], fun w => w.length ≤ 1000, recF⟩
def g6r (w : List Int) : Prop := p6r.VC (cx [p40.ci, p20.ci, p21r.ci, p22r.ci, p23r.ci] [(0, fun _ => A6r w)]) Tryz.f6 w
end
end Go.SX.We.Nm

/- Printed by VC.lean: what the executor asks. -/
namespace Go.SX.We.Nm
open Go Go.Proofs IntKind List
theorem g23r_eq (n1 : Bool) (m1 : List Int) (n2 : Bool) (m2 : List Int) : g23r n1 m1 n2 m2 = ((∃ (N : Int), m1 = lQ N ∧ 0 ≤ N ∧ N < 4294967296 ^ 500) ∧ (4000 < (↑(textF (vQ m1)).size : Int) → 4000 < (↑(textF (vQ m1)).size : Int) ∧ (ByteArray.mk (nilT UInt8).toArray, (4 : Int)) = (numF (vN (n1, m1), vN (n2, m2)), (0 : Int))) ∧ (¬4000 < (↑(textF (vQ m1)).size : Int) → ¬4000 < (↑(textF (vQ m1)).size : Int) ∧ (n1 = true → n1 = true ∧ Small ((ByteArray.mk #[(45 : UInt8)]).size + (textF (vQ m1)).size) ∧ (∃ (n : Int), ∃ (d : Int), ((n1, m1), n2, m2) = ratN (n, d) ∧ 0 ≤ n ∧ 0 < d ∧ n < 4294967296 ^ 500 ∧ d < 4294967296 ^ 500) ∧ (decide (vN (n2, m2) = 1) = true → decide (vN (n2, m2) = 1) = true ∧ (ByteArray.mk #[(45 : UInt8)] ++ textF (vQ m1), (0 : Int)) = (numF (vN (n1, m1), vN (n2, m2)), (0 : Int))) ∧ (decide (vN (n2, m2) = 1) = false → decide (vN (n2, m2) = 1) = false ∧ (∃ (N : Int), m2 = lQ N ∧ 0 ≤ N ∧ N < 4294967296 ^ 500) ∧ (4000 < (↑(textF (vQ m2)).size : Int) → 4000 < (↑(textF (vQ m2)).size : Int) ∧ (ByteArray.mk (nilT UInt8).toArray, (4 : Int)) = (numF (vN (n1, m1), vN (n2, m2)), (0 : Int))) ∧ (¬4000 < (↑(textF (vQ m2)).size : Int) → ¬4000 < (↑(textF (vQ m2)).size : Int) ∧ Small ((ByteArray.mk #[(45 : UInt8)] ++ textF (vQ m1)).size + (ByteArray.mk #[(47 : UInt8)]).size) ∧ Small ((ByteArray.mk #[(45 : UInt8)] ++ textF (vQ m1) ++ ByteArray.mk #[(47 : UInt8)]).size + (textF (vQ m2)).size) ∧ (ByteArray.mk #[(45 : UInt8)] ++ textF (vQ m1) ++ ByteArray.mk #[(47 : UInt8)] ++ textF (vQ m2), 0) = (numF (vN (n1, m1), vN (n2, m2)), (0 : Int))))) ∧ (n1 = false → n1 = false ∧ (∃ (n : Int), ∃ (d : Int), ((n1, m1), n2, m2) = ratN (n, d) ∧ 0 ≤ n ∧ 0 < d ∧ n < 4294967296 ^ 500 ∧ d < 4294967296 ^ 500) ∧ (decide (vN (n2, m2) = 1) = true → decide (vN (n2, m2) = 1) = true ∧ (textF (vQ m1), (0 : Int)) = (numF (vN (n1, m1), vN (n2, m2)), (0 : Int))) ∧ (decide (vN (n2, m2) = 1) = false → decide (vN (n2, m2) = 1) = false ∧ (∃ (N : Int), m2 = lQ N ∧ 0 ≤ N ∧ N < 4294967296 ^ 500) ∧ (4000 < (↑(textF (vQ m2)).size : Int) → 4000 < (↑(textF (vQ m2)).size : Int) ∧ (ByteArray.mk (nilT UInt8).toArray, (4 : Int)) = (numF (vN (n1, m1), vN (n2, m2)), (0 : Int))) ∧ (¬4000 < (↑(textF (vQ m2)).size : Int) → ¬4000 < (↑(textF (vQ m2)).size : Int) ∧ Small ((textF (vQ m1)).size + (ByteArray.mk #[(47 : UInt8)]).size) ∧ Small ((textF (vQ m1) ++ ByteArray.mk #[(47 : UInt8)]).size + (textF (vQ m2)).size) ∧ (textF (vQ m1) ++ ByteArray.mk #[(47 : UInt8)] ++ textF (vQ m2), (0 : Int)) = (numF (vN (n1, m1), vN (n2, m2)), (0 : Int))))))) := by kernel_rfl
theorem g6r_eq (w : List Int) : g6r w = ((w.length ≤ 1000 ∧ (12 : Int) ≤ 1000) ∧ (¬checkF w (12 : Int) = 0 → ¬checkF w (12 : Int) = 0 ∧ (ByteArray.mk (nilT UInt8).toArray, checkF w 12) = recF w) ∧ (¬¬checkF w (12 : Int) = 0 → ¬¬checkF w (12 : Int) = 0 ∧ ((0 : Int) ≤ 0 ∧ (0 : Int) ≤ 1000000) ∧ (∃ (x0 : Nat), x0 ≤ w.length ∧ (((ratN (0, (1 : Int))).fst.fst = (iN (recN w x0).fst).fst ∧ (ratN (0, (1 : Int))).fst.snd = (iN (recN w x0).fst).snd ∧ (ratN (0, (1 : Int))).snd.fst = (iN (recN w x0).snd).fst ∧ (ratN (0, (1 : Int))).snd.snd = (iN (recN w x0).snd).snd ∧ True) ∧ True) ∧ 0 = (x0 : Int) ∧ (w.length : Int) = (w.length : Int) ∧ w = w ∧ True ∧ w = w ∧ True) ∧ ∀ (x : Nat), x ≤ w.length → ((x : Int) < (w.length : Int) → (x : Int) < (w.length : Int) ∧ (0 ≤ (x : Int) ∧ (x : Int) < (w.length : Int)) ∧ ((0 : Int) ≤ 1 ∧ (1 : Int) ≤ 1000000) ∧ (0 ≤ w.getD (x : Int).toNat 0 ∧ w.getD (x : Int).toNat (0 : Int) ≤ 1000000) ∧ (((∃ (n : Int), ∃ (d : Int), (((ratN (1, (1 : Int))).fst.fst, (ratN (1, (1 : Int))).fst.snd), (ratN (1, (1 : Int))).snd.fst, (ratN (1, (1 : Int))).snd.snd) = ratN (n, d) ∧ 0 ≤ n ∧ 0 < d ∧ n < 4294967296 ^ 100 ∧ d < 4294967296 ^ 100) ∧ ∃ (n : Int), ∃ (d : Int), (((ratN (w.getD (x : Int).toNat 0, (1 : Int))).fst.fst, (ratN (w.getD (x : Int).toNat 0, (1 : Int))).fst.snd), (ratN (w.getD (x : Int).toNat 0, (1 : Int))).snd.fst, (ratN (w.getD (x : Int).toNat 0, (1 : Int))).snd.snd) = ratN (n, d) ∧ 0 ≤ n ∧ 0 < d ∧ n < 4294967296 ^ 100 ∧ d < 4294967296 ^ 100) ∧ 0 < vN ((ratN (w.getD (x : Int).toNat 0, (1 : Int))).fst.fst, (ratN (w.getD (x : Int).toNat 0, (1 : Int))).fst.snd)) ∧ ((∃ (n : Int), ∃ (d : Int), (((iN (recN w x).fst).fst, (iN (recN w x).fst).snd), (iN (recN w x).snd).fst, (iN (recN w x).snd).snd) = ratN (n, d) ∧ 0 ≤ n ∧ 0 < d ∧ n < 4294967296 ^ 100 ∧ d < 4294967296 ^ 100) ∧ ∃ (n : Int), ∃ (d : Int), (((ratN (lowI (vN ((ratN (1, (1 : Int))).fst.fst, (ratN (1, (1 : Int))).fst.snd) * vN ((ratN (w.getD (x : Int).toNat 0, (1 : Int))).snd.fst, (ratN (w.getD (x : Int).toNat 0, (1 : Int))).snd.snd)) (vN ((ratN (1, (1 : Int))).snd.fst, (ratN (1, (1 : Int))).snd.snd) * vN ((ratN (w.getD (x : Int).toNat 0, (1 : Int))).fst.fst, (ratN (w.getD (x : Int).toNat 0, (1 : Int))).fst.snd)))).fst.fst, (ratN (lowI (vN ((ratN (1, (1 : Int))).fst.fst, (ratN (1, (1 : Int))).fst.snd) * vN ((ratN (w.getD (x : Int).toNat 0, (1 : Int))).snd.fst, (ratN (w.getD (x : Int).toNat 0, (1 : Int))).snd.snd)) (vN ((ratN (1, (1 : Int))).snd.fst, (ratN (1, (1 : Int))).snd.snd) * vN ((ratN (w.getD (x : Int).toNat 0, (1 : Int))).fst.fst, (ratN (w.getD (x : Int).toNat 0, (1 : Int))).fst.snd)))).fst.snd), (ratN (lowI (vN ((ratN (1, (1 : Int))).fst.fst, (ratN (1, (1 : Int))).fst.snd) * vN ((ratN (w.getD (x : Int).toNat 0, (1 : Int))).snd.fst, (ratN (w.getD (x : Int).toNat 0, (1 : Int))).snd.snd)) (vN ((ratN (1, (1 : Int))).snd.fst, (ratN (1, (1 : Int))).snd.snd) * vN ((ratN (w.getD (x : Int).toNat 0, (1 : Int))).fst.fst, (ratN (w.getD (x : Int).toNat 0, (1 : Int))).fst.snd)))).snd.fst, (ratN (lowI (vN ((ratN (1, (1 : Int))).fst.fst, (ratN (1, (1 : Int))).fst.snd) * vN ((ratN (w.getD (x : Int).toNat 0, (1 : Int))).snd.fst, (ratN (w.getD (x : Int).toNat 0, (1 : Int))).snd.snd)) (vN ((ratN (1, (1 : Int))).snd.fst, (ratN (1, (1 : Int))).snd.snd) * vN ((ratN (w.getD (x : Int).toNat 0, (1 : Int))).fst.fst, (ratN (w.getD (x : Int).toNat 0, (1 : Int))).fst.snd)))).snd.snd) = ratN (n, d) ∧ 0 ≤ n ∧ 0 < d ∧ n < 4294967296 ^ 100 ∧ d < 4294967296 ^ 100) ∧ Fits .i64 ((x : Int) + 1) ∧ ∃ (x' : Nat), x' ≤ w.length ∧ w.length - x' < w.length - x ∧ (((ratN (lowI (vN ((iN (recN w x).fst).fst, (iN (recN w x).fst).snd) * vN ((ratN (lowI (vN ((ratN (1, (1 : Int))).fst.fst, (ratN (1, (1 : Int))).fst.snd) * vN ((ratN (w.getD (x : Int).toNat 0, (1 : Int))).snd.fst, (ratN (w.getD (x : Int).toNat 0, (1 : Int))).snd.snd)) (vN ((ratN (1, (1 : Int))).snd.fst, (ratN (1, (1 : Int))).snd.snd) * vN ((ratN (w.getD (x : Int).toNat 0, (1 : Int))).fst.fst, (ratN (w.getD (x : Int).toNat 0, (1 : Int))).fst.snd)))).snd.fst, (ratN (lowI (vN ((ratN (1, (1 : Int))).fst.fst, (ratN (1, (1 : Int))).fst.snd) * vN ((ratN (w.getD (x : Int).toNat 0, (1 : Int))).snd.fst, (ratN (w.getD (x : Int).toNat 0, (1 : Int))).snd.snd)) (vN ((ratN (1, (1 : Int))).snd.fst, (ratN (1, (1 : Int))).snd.snd) * vN ((ratN (w.getD (x : Int).toNat 0, (1 : Int))).fst.fst, (ratN (w.getD (x : Int).toNat 0, (1 : Int))).fst.snd)))).snd.snd) + vN ((ratN (lowI (vN ((ratN (1, (1 : Int))).fst.fst, (ratN (1, (1 : Int))).fst.snd) * vN ((ratN (w.getD (x : Int).toNat 0, (1 : Int))).snd.fst, (ratN (w.getD (x : Int).toNat 0, (1 : Int))).snd.snd)) (vN ((ratN (1, (1 : Int))).snd.fst, (ratN (1, (1 : Int))).snd.snd) * vN ((ratN (w.getD (x : Int).toNat 0, (1 : Int))).fst.fst, (ratN (w.getD (x : Int).toNat 0, (1 : Int))).fst.snd)))).fst.fst, (ratN (lowI (vN ((ratN (1, (1 : Int))).fst.fst, (ratN (1, (1 : Int))).fst.snd) * vN ((ratN (w.getD (x : Int).toNat 0, (1 : Int))).snd.fst, (ratN (w.getD (x : Int).toNat 0, (1 : Int))).snd.snd)) (vN ((ratN (1, (1 : Int))).snd.fst, (ratN (1, (1 : Int))).snd.snd) * vN ((ratN (w.getD (x : Int).toNat 0, (1 : Int))).fst.fst, (ratN (w.getD (x : Int).toNat 0, (1 : Int))).fst.snd)))).fst.snd) * vN ((iN (recN w x).snd).fst, (iN (recN w x).snd).snd)) (vN ((iN (recN w x).snd).fst, (iN (recN w x).snd).snd) * vN ((ratN (lowI (vN ((ratN (1, (1 : Int))).fst.fst, (ratN (1, (1 : Int))).fst.snd) * vN ((ratN (w.getD (x : Int).toNat 0, (1 : Int))).snd.fst, (ratN (w.getD (x : Int).toNat 0, (1 : Int))).snd.snd)) (vN ((ratN (1, (1 : Int))).snd.fst, (ratN (1, (1 : Int))).snd.snd) * vN ((ratN (w.getD (x : Int).toNat 0, (1 : Int))).fst.fst, (ratN (w.getD (x : Int).toNat 0, (1 : Int))).fst.snd)))).snd.fst, (ratN (lowI (vN ((ratN (1, (1 : Int))).fst.fst, (ratN (1, (1 : Int))).fst.snd) * vN ((ratN (w.getD (x : Int).toNat 0, (1 : Int))).snd.fst, (ratN (w.getD (x : Int).toNat 0, (1 : Int))).snd.snd)) (vN ((ratN (1, (1 : Int))).snd.fst, (ratN (1, (1 : Int))).snd.snd) * vN ((ratN (w.getD (x : Int).toNat 0, (1 : Int))).fst.fst, (ratN (w.getD (x : Int).toNat 0, (1 : Int))).fst.snd)))).snd.snd)))).fst.fst = (iN (recN w x').fst).fst ∧ (ratN (lowI (vN ((iN (recN w x).fst).fst, (iN (recN w x).fst).snd) * vN ((ratN (lowI (vN ((ratN (1, (1 : Int))).fst.fst, (ratN (1, (1 : Int))).fst.snd) * vN ((ratN (w.getD (x : Int).toNat 0, (1 : Int))).snd.fst, (ratN (w.getD (x : Int).toNat 0, (1 : Int))).snd.snd)) (vN ((ratN (1, (1 : Int))).snd.fst, (ratN (1, (1 : Int))).snd.snd) * vN ((ratN (w.getD (x : Int).toNat 0, (1 : Int))).fst.fst, (ratN (w.getD (x : Int).toNat 0, (1 : Int))).fst.snd)))).snd.fst, (ratN (lowI (vN ((ratN (1, (1 : Int))).fst.fst, (ratN (1, (1 : Int))).fst.snd) * vN ((ratN (w.getD (x : Int).toNat 0, (1 : Int))).snd.fst, (ratN (w.getD (x : Int).toNat 0, (1 : Int))).snd.snd)) (vN ((ratN (1, (1 : Int))).snd.fst, (ratN (1, (1 : Int))).snd.snd) * vN ((ratN (w.getD (x : Int).toNat 0, (1 : Int))).fst.fst, (ratN (w.getD (x : Int).toNat 0, (1 : Int))).fst.snd)))).snd.snd) + vN ((ratN (lowI (vN ((ratN (1, (1 : Int))).fst.fst, (ratN (1, (1 : Int))).fst.snd) * vN ((ratN (w.getD (x : Int).toNat 0, (1 : Int))).snd.fst, (ratN (w.getD (x : Int).toNat 0, (1 : Int))).snd.snd)) (vN ((ratN (1, (1 : Int))).snd.fst, (ratN (1, (1 : Int))).snd.snd) * vN ((ratN (w.getD (x : Int).toNat 0, (1 : Int))).fst.fst, (ratN (w.getD (x : Int).toNat 0, (1 : Int))).fst.snd)))).fst.fst, (ratN (lowI (vN ((ratN (1, (1 : Int))).fst.fst, (ratN (1, (1 : Int))).fst.snd) * vN ((ratN (w.getD (x : Int).toNat 0, (1 : Int))).snd.fst, (ratN (w.getD (x : Int).toNat 0, (1 : Int))).snd.snd)) (vN ((ratN (1, (1 : Int))).snd.fst, (ratN (1, (1 : Int))).snd.snd) * vN ((ratN (w.getD (x : Int).toNat 0, (1 : Int))).fst.fst, (ratN (w.getD (x : Int).toNat 0, (1 : Int))).fst.snd)))).fst.snd) * vN ((iN (recN w x).snd).fst, (iN (recN w x).snd).snd)) (vN ((iN (recN w x).snd).fst, (iN (recN w x).snd).snd) * vN ((ratN (lowI (vN ((ratN (1, (1 : Int))).fst.fst, (ratN (1, (1 : Int))).fst.snd) * vN ((ratN (w.getD (x : Int).toNat 0, (1 : Int))).snd.fst, (ratN (w.getD (x : Int).toNat 0, (1 : Int))).snd.snd)) (vN ((ratN (1, (1 : Int))).snd.fst, (ratN (1, (1 : Int))).snd.snd) * vN ((ratN (w.getD (x : Int).toNat 0, (1 : Int))).fst.fst, (ratN (w.getD (x : Int).toNat 0, (1 : Int))).fst.snd)))).snd.fst, (ratN (lowI (vN ((ratN (1, (1 : Int))).fst.fst, (ratN (1, (1 : Int))).fst.snd) * vN ((ratN (w.getD (x : Int).toNat 0, (1 : Int))).snd.fst, (ratN (w.getD (x : Int).toNat 0, (1 : Int))).snd.snd)) (vN ((ratN (1, (1 : Int))).snd.fst, (ratN (1, (1 : Int))).snd.snd) * vN ((ratN (w.getD (x : Int).toNat 0, (1 : Int))).fst.fst, (ratN (w.getD (x : Int).toNat 0, (1 : Int))).fst.snd)))).snd.snd)))).fst.snd = (iN (recN w x').fst).snd ∧ (ratN (lowI (vN ((iN (recN w x).fst).fst, (iN (recN w x).fst).snd) * vN ((ratN (lowI (vN ((ratN (1, (1 : Int))).fst.fst, (ratN (1, (1 : Int))).fst.snd) * vN ((ratN (w.getD (x : Int).toNat 0, (1 : Int))).snd.fst, (ratN (w.getD (x : Int).toNat 0, (1 : Int))).snd.snd)) (vN ((ratN (1, (1 : Int))).snd.fst, (ratN (1, (1 : Int))).snd.snd) * vN ((ratN (w.getD (x : Int).toNat 0, (1 : Int))).fst.fst, (ratN (w.getD (x : Int).toNat 0, (1 : Int))).fst.snd)))).snd.fst, (ratN (lowI (vN ((ratN (1, (1 : Int))).fst.fst, (ratN (1, (1 : Int))).fst.snd) * vN ((ratN (w.getD (x : Int).toNat 0, (1 : Int))).snd.fst, (ratN (w.getD (x : Int).toNat 0, (1 : Int))).snd.snd)) (vN ((ratN (1, (1 : Int))).snd.fst, (ratN (1, (1 : Int))).snd.snd) * vN ((ratN (w.getD (x : Int).toNat 0, (1 : Int))).fst.fst, (ratN (w.getD (x : Int).toNat 0, (1 : Int))).fst.snd)))).snd.snd) + vN ((ratN (lowI (vN ((ratN (1, (1 : Int))).fst.fst, (ratN (1, (1 : Int))).fst.snd) * vN ((ratN (w.getD (x : Int).toNat 0, (1 : Int))).snd.fst, (ratN (w.getD (x : Int).toNat 0, (1 : Int))).snd.snd)) (vN ((ratN (1, (1 : Int))).snd.fst, (ratN (1, (1 : Int))).snd.snd) * vN ((ratN (w.getD (x : Int).toNat 0, (1 : Int))).fst.fst, (ratN (w.getD (x : Int).toNat 0, (1 : Int))).fst.snd)))).fst.fst, (ratN (lowI (vN ((ratN (1, (1 : Int))).fst.fst, (ratN (1, (1 : Int))).fst.snd) * vN ((ratN (w.getD (x : Int).toNat 0, (1 : Int))).snd.fst, (ratN (w.getD (x : Int).toNat 0, (1 : Int))).snd.snd)) (vN ((ratN (1, (1 : Int))).snd.fst, (ratN (1, (1 : Int))).snd.snd) * vN ((ratN (w.getD (x : Int).toNat 0, (1 : Int))).fst.fst, (ratN (w.getD (x : Int).toNat 0, (1 : Int))).fst.snd)))).fst.snd) * vN ((iN (recN w x).snd).fst, (iN (recN w x).snd).snd)) (vN ((iN (recN w x).snd).fst, (iN (recN w x).snd).snd) * vN ((ratN (lowI (vN ((ratN (1, (1 : Int))).fst.fst, (ratN (1, (1 : Int))).fst.snd) * vN ((ratN (w.getD (x : Int).toNat 0, (1 : Int))).snd.fst, (ratN (w.getD (x : Int).toNat 0, (1 : Int))).snd.snd)) (vN ((ratN (1, (1 : Int))).snd.fst, (ratN (1, (1 : Int))).snd.snd) * vN ((ratN (w.getD (x : Int).toNat 0, (1 : Int))).fst.fst, (ratN (w.getD (x : Int).toNat 0, (1 : Int))).fst.snd)))).snd.fst, (ratN (lowI (vN ((ratN (1, (1 : Int))).fst.fst, (ratN (1, (1 : Int))).fst.snd) * vN ((ratN (w.getD (x : Int).toNat 0, (1 : Int))).snd.fst, (ratN (w.getD (x : Int).toNat 0, (1 : Int))).snd.snd)) (vN ((ratN (1, (1 : Int))).snd.fst, (ratN (1, (1 : Int))).snd.snd) * vN ((ratN (w.getD (x : Int).toNat 0, (1 : Int))).fst.fst, (ratN (w.getD (x : Int).toNat 0, (1 : Int))).fst.snd)))).snd.snd)))).snd.fst = (iN (recN w x').snd).fst ∧ (ratN (lowI (vN ((iN (recN w x).fst).fst, (iN (recN w x).fst).snd) * vN ((ratN (lowI (vN ((ratN (1, (1 : Int))).fst.fst, (ratN (1, (1 : Int))).fst.snd) * vN ((ratN (w.getD (x : Int).toNat 0, (1 : Int))).snd.fst, (ratN (w.getD (x : Int).toNat 0, (1 : Int))).snd.snd)) (vN ((ratN (1, (1 : Int))).snd.fst, (ratN (1, (1 : Int))).snd.snd) * vN ((ratN (w.getD (x : Int).toNat 0, (1 : Int))).fst.fst, (ratN (w.getD (x : Int).toNat 0, (1 : Int))).fst.snd)))).snd.fst, (ratN (lowI (vN ((ratN (1, (1 : Int))).fst.fst, (ratN (1, (1 : Int))).fst.snd) * vN ((ratN (w.getD (x : Int).toNat 0, (1 : Int))).snd.fst, (ratN (w.getD (x : Int).toNat 0, (1 : Int))).snd.snd)) (vN ((ratN (1, (1 : Int))).snd.fst, (ratN (1, (1 : Int))).snd.snd) * vN ((ratN (w.getD (x : Int).toNat 0, (1 : Int))).fst.fst, (ratN (w.getD (x : Int).toNat 0, (1 : Int))).fst.snd)))).snd.snd) + vN ((ratN (lowI (vN ((ratN (1, (1 : Int))).fst.fst, (ratN (1, (1 : Int))).fst.snd) * vN ((ratN (w.getD (x : Int).toNat 0, (1 : Int))).snd.fst, (ratN (w.getD (x : Int).toNat 0, (1 : Int))).snd.snd)) (vN ((ratN (1, (1 : Int))).snd.fst, (ratN (1, (1 : Int))).snd.snd) * vN ((ratN (w.getD (x : Int).toNat 0, (1 : Int))).fst.fst, (ratN (w.getD (x : Int).toNat 0, (1 : Int))).fst.snd)))).fst.fst, (ratN (lowI (vN ((ratN (1, (1 : Int))).fst.fst, (ratN (1, (1 : Int))).fst.snd) * vN ((ratN (w.getD (x : Int).toNat 0, (1 : Int))).snd.fst, (ratN (w.getD (x : Int).toNat 0, (1 : Int))).snd.snd)) (vN ((ratN (1, (1 : Int))).snd.fst, (ratN (1, (1 : Int))).snd.snd) * vN ((ratN (w.getD (x : Int).toNat 0, (1 : Int))).fst.fst, (ratN (w.getD (x : Int).toNat 0, (1 : Int))).fst.snd)))).fst.snd) * vN ((iN (recN w x).snd).fst, (iN (recN w x).snd).snd)) (vN ((iN (recN w x).snd).fst, (iN (recN w x).snd).snd) * vN ((ratN (lowI (vN ((ratN (1, (1 : Int))).fst.fst, (ratN (1, (1 : Int))).fst.snd) * vN ((ratN (w.getD (x : Int).toNat 0, (1 : Int))).snd.fst, (ratN (w.getD (x : Int).toNat 0, (1 : Int))).snd.snd)) (vN ((ratN (1, (1 : Int))).snd.fst, (ratN (1, (1 : Int))).snd.snd) * vN ((ratN (w.getD (x : Int).toNat 0, (1 : Int))).fst.fst, (ratN (w.getD (x : Int).toNat 0, (1 : Int))).fst.snd)))).snd.fst, (ratN (lowI (vN ((ratN (1, (1 : Int))).fst.fst, (ratN (1, (1 : Int))).fst.snd) * vN ((ratN (w.getD (x : Int).toNat 0, (1 : Int))).snd.fst, (ratN (w.getD (x : Int).toNat 0, (1 : Int))).snd.snd)) (vN ((ratN (1, (1 : Int))).snd.fst, (ratN (1, (1 : Int))).snd.snd) * vN ((ratN (w.getD (x : Int).toNat 0, (1 : Int))).fst.fst, (ratN (w.getD (x : Int).toNat 0, (1 : Int))).fst.snd)))).snd.snd)))).snd.snd = (iN (recN w x').snd).snd ∧ True) ∧ True) ∧ (x : Int) + 1 = (x' : Int) ∧ (w.length : Int) = (w.length : Int) ∧ w = w ∧ True ∧ w = w ∧ True) ∧ (¬(x : Int) < (w.length : Int) → ¬(x : Int) < (w.length : Int) ∧ (∃ (n : Int), ∃ (d : Int), (((iN (recN w x).fst).fst, (iN (recN w x).fst).snd), (iN (recN w x).snd).fst, (iN (recN w x).snd).snd) = ratN (n, d) ∧ 0 ≤ n ∧ 0 < d ∧ n < 4294967296 ^ 300 ∧ d < 4294967296 ^ 300) ∧ (numF (vN ((iN (recN w x).fst).fst, (iN (recN w x).fst).snd), vN ((iN (recN w x).snd).fst, (iN (recN w x).snd).snd)), (0 : Int)) = recF w))) := by kernel_rfl
end Go.SX.We.Nm

/- Chapter 08: Num and Reciprocals, proved. -/
namespace Go.SX.We.Nm
open Go Go.Proofs
theorem str_size (l : List Int) : (strOf l).size = l.length := by
  show (List.map _ l).toArray.size = _
  simp
theorem text_size {N : Int} {k : Nat} (h0 : 0 ≤ N) (h : N < 4294967296 ^ k) : (textF N).size ≤ 10 * k + 1 := by
  unfold textF
  split
  · rw [str_size]; simp
  · rw [str_size, List.length_reverse, List.length_map]
    exact Nat.le_succ_of_le (ten_len h0 h)
theorem fr_figs {k : Nat} {n1 n2 : Bool} {m1 m2 : List Int} (h : FrN k ((n1, m1), (n2, m2))) : ∃ n d : Int, m1 = lim 4294967296 n ∧ m2 = lim 4294967296 d ∧ n1 = false ∧ vN (n1, m1) = n ∧ vN (n2, m2) = d ∧ 0 ≤ n ∧ 0 < d ∧ n < 4294967296 ^ k ∧ d < 4294967296 ^ k := by
  obtain ⟨n, d, e1, e2, h1, h2, h3, h4⟩ := fr_parts h
  refine ⟨n, d, ?_, ?_, ?_, by rw [e1, iN_vN], by rw [e2, iN_vN], h1, h2, h3, h4⟩
  · have : m1 = (iN n).2 := by rw [← e1]
    rw [this]; show lim 4294967296 (absI n) = _
    rw [abs_pos h1]
  · have : m2 = (iN d).2 := by rw [← e2]
    rw [this]; show lim 4294967296 (absI d) = _
    rw [abs_pos (Int.le_of_lt h2)]
  · have : n1 = (iN n).1 := by rw [← e1]
    rw [this]; exact decide_eq_false (by omega)
theorem vc23 {n1 n2 : Bool} {m1 m2 : List Int} (hp : FrN 300 ((n1, m1), (n2, m2))) : g23r n1 m1 n2 m2 := by
  obtain ⟨n, d, e1, e2, e3, f1, f2, h1, h2, h3, h4⟩ := fr_figs hp
  refine (g23r_eq n1 m1 n2 m2).mpr ?_
  have s1 := text_size h1 h3
  have s2 := text_size (Int.le_of_lt h2) h4
  have hv1 : valF 4294967296 m1 = n := by rw [e1, val_lim cw2 h1]
  have hv2 : valF 4294967296 m2 = d := by rw [e2, val_lim cw2 (Int.le_of_lt h2)]
  have hn := pow_le_pow' cw2 h3 (show 300 ≤ 500 by decide)
  have hd := pow_le_pow' cw2 h4 (show 300 ≤ 500 by decide)
  have b47 : (ByteArray.mk #[47]).size = 1 := rfl
  simp only [pp1, vQ, dQ, lQ, eq_self, and_true, true_and, and_self, hv1, hv2, f1, f2, ByteArray.size_append, b47]
  refine ⟨⟨n, e1, h1, hn⟩, fun h => ?_, fun h => ⟨fun h5 => ?_, fun h5 => ⟨fr_le (by decide) hp, fun h6 => ?_, fun h6 => ⟨⟨d, e2, Int.le_of_lt h2, hd⟩, fun h7 => ?_, fun h7 => ⟨sm ?_, sm ?_, ?_⟩⟩⟩⟩⟩
  all_goals clear h3 h4 hn hd
  · exfalso; omega
  · rw [e3] at h5; cases h5
  · rw [numF, if_pos (of_decide_eq_true h6)]
  · exfalso; omega
  · omega
  · omega
  · rw [numF, if_neg (of_decide_eq_false h6)]
theorem ok23r : p23r.OK Tryz.prog := p23r.ok (fn := Tryz.f23) (fun _ => cx [p49.ci, p44.ci] []) (fun _ => cx_ok (cs := [p49.ci, p44.ci]) ⟨PC.OK.ci ok49, PC.OK.ci ok44, trivial⟩ _) (by kernel_rfl) (by kernel_rfl) (by kernel_rfl) fun p hp => by
  obtain ⟨⟨n1, m1⟩, n2, m2⟩ := p
  exact vc23 hp
theorem low_bound {n d : Int} (hn : 0 ≤ n) (hd : 0 < d) : 0 ≤ (lowI n d).1 ∧ (lowI n d).1 ≤ n ∧ 0 < (lowI n d).2 ∧ (lowI n d).2 ≤ d := by
  have gp := gcdI_pos (x := n) hd
  obtain ⟨_, h2⟩ := gcdI_dvd hn (Int.le_of_lt hd)
  refine ⟨Int.ediv_nonneg hn (Int.le_of_lt gp), Int.ediv_le_self _ hn, ?_, Int.ediv_le_self _ (Int.le_of_lt hd)⟩
  exact Int.ediv_pos_of_pos_of_dvd hd (Int.le_of_lt gp) h2
theorem rec_bound {w : List Int} (hw : ∀ v ∈ w, 1 ≤ v ∧ v ≤ 100000) : ∀ k, k ≤ w.length → 0 ≤ (recN w k).1 ∧ 0 < (recN w k).2 ∧ (recN w k).1 < 4294967296 ^ (2 * k + 1) ∧ (recN w k).2 < 4294967296 ^ (2 * k + 1)
  | 0, _ => (⟨Int.le_refl 0, by decide, by decide, by decide⟩ : (0 : Int) ≤ 0 ∧ (0 : Int) < 1 ∧ (0 : Int) < 4294967296 ^ 1 ∧ (1 : Int) < 4294967296 ^ 1)
  | k + 1, hk => by
    obtain ⟨h1, h2, h3, h4⟩ := rec_bound hw k (by omega)
    have hv : 1 ≤ w.getD k 0 ∧ w.getD k 0 ≤ 100000 := by
      rw [List.getD_eq_getElem?_getD, List.getElem?_eq_getElem (by omega)]
      exact hw _ (List.getElem_mem _)
    obtain ⟨l1, l2, l3, l4⟩ := low_bound (n := 1) (d := w.getD k 0) (by decide) (by omega)
    simp only [recN]
    generalize (recN w k).1 = n at *
    generalize (recN w k).2 = d at *
    generalize (lowI 1 (w.getD k 0)).1 = a at *
    generalize (lowI 1 (w.getD k 0)).2 = c at *
    have ep : (4294967296 : Int) ^ 1 = 4294967296 := by decide
    have e1 : a < 4294967296 ^ 1 := by rw [ep]; omega
    have e2 : c < 4294967296 ^ 1 := by rw [ep]; omega
    have m1 := mul_lt_pow cw2 h1 h3 (Int.le_of_lt l3) e2
    have m2 := mul_lt_pow cw2 l1 e1 (Int.le_of_lt h2) h4
    have m3 := mul_lt_pow cw2 (Int.le_of_lt h2) h4 (Int.le_of_lt l3) e2
    rw [Nat.add_comm 1] at m2
    have s := add_lt_pow cw2 m1 m2
    have n0 : 0 ≤ n * c + a * d := Int.add_nonneg (Int.mul_nonneg h1 (Int.le_of_lt l3)) (Int.mul_nonneg l1 (Int.le_of_lt h2))
    have d0 : 0 < d * c := Int.mul_pos h2 l3
    obtain ⟨q1, q2, q3, q4⟩ := low_bound n0 d0
    refine ⟨q1, q3, Int.lt_of_le_of_lt q2 s, Int.lt_of_le_of_lt q4 (pow_le_pow' cw2 m3 (by omega))⟩
theorem low_one (w : Int) : lowI (1 * 1) (1 * w) = lowI 1 w := by rw [Int.one_mul, Int.one_mul]
theorem vc6 {w : List Int} (hl : w.length ≤ 1000) (hck : checkF w 12 = 0 → (∀ v ∈ w, 1 ≤ v ∧ v ≤ 100000) ∧ w.length ≤ 12) : g6r w := by
  refine (g6r_eq w).mpr ?_
  simp only [pp1, vQ, dQ, lQ, eq_self, and_true, true_and, and_self, Int.toNat_natCast]
  refine ⟨⟨hl, by decide⟩, fun h => ?_, fun h => ⟨⟨by decide, by decide⟩, ⟨0, by omega, ⟨rfl, rfl, rfl, rfl⟩, rfl⟩, fun k hk => ⟨fun h1 => ?_, fun h1 => ?_⟩⟩⟩
  · rw [recF, if_neg h]; rfl
  · have hc : checkF w 12 = 0 := Decidable.not_not.1 h
    obtain ⟨hw, h12⟩ := hck hc
    have hk' : k < w.length := by omega
    have hv : 1 ≤ w.getD k 0 ∧ w.getD k 0 ≤ 100000 := by
      rw [List.getD_eq_getElem?_getD, List.getElem?_eq_getElem hk']
      exact hw _ (List.getElem_mem _)
    obtain ⟨r1, r2, r3, r4⟩ := rec_bound hw k hk
    obtain ⟨l1, l2, l3, l4⟩ := low_bound (n := 1) (d := w.getD k 0) (by decide) (by omega)
    have big : ∀ x : Int, x ≤ 1000000 → x < 4294967296 ^ 100 := fun x hx => by
      have : (4294967296 : Int) ^ 1 ≤ 4294967296 ^ 100 := pow_mono' cw0 (by decide)
      have e : (4294967296 : Int) ^ 1 = 4294967296 := by decide
      rw [e] at this
      exact Int.lt_of_lt_of_le (by omega) this
    have p1 : vN (ratN (1, 1)).fst = 1 := iN_vN 1
    have p2 : vN (ratN (1, 1)).snd = 1 := iN_vN 1
    have p3 : vN (ratN (w.getD k 0, 1)).fst = w.getD k 0 := iN_vN _
    have p4 : vN (ratN (w.getD k 0, 1)).snd = 1 := iN_vN 1
    have p5 : ∀ q : Int × Int, vN (ratN q).fst = q.1 := fun q => iN_vN _
    have p6 : ∀ q : Int × Int, vN (ratN q).snd = q.2 := fun q => iN_vN _
    simp only [p1, p2, p3, p4, p5, p6, low_one, peta, iN_vN]
    have hr := pow_le_pow' cw2 r3 (show 2 * k + 1 ≤ 100 by omega)
    have hr' := pow_le_pow' cw2 r4 (show 2 * k + 1 ≤ 100 by omega)
    have b1 := big 1 (by decide)
    have b2 := big (w.getD k 0) (by omega)
    have b3 := big _ (show (lowI 1 (w.getD k 0)).1 ≤ 1000000 by omega)
    have b4 := big _ (show (lowI 1 (w.getD k 0)).2 ≤ 1000000 by omega)
    clear r3 r4 big
    refine ⟨⟨by omega, by omega⟩, ⟨by decide, by decide⟩, ⟨by omega, by omega⟩, ⟨⟨⟨1, 1, rfl, by decide, by decide, b1, b1⟩, ⟨_, 1, rfl, by omega, by decide, b2, b1⟩⟩, by omega⟩, ⟨⟨_, _, rfl, r1, r2, hr, hr'⟩, ⟨_, _, rfl, l1, l3, b3, b4⟩⟩, fj (by omega) (by omega), k + 1, by omega, by omega, ⟨rfl, rfl, rfl, rfl⟩, by omega⟩
  · have hc : checkF w 12 = 0 := Decidable.not_not.1 h
    obtain ⟨hw, h12⟩ := hck hc
    have hk' : k = w.length := by omega
    subst hk'
    obtain ⟨r1, r2, r3, r4⟩ := rec_bound hw w.length (Nat.le_refl _)
    refine ⟨⟨_, _, rfl, r1, r2, pow_le_pow' cw2 r3 (by omega), pow_le_pow' cw2 r4 (by omega)⟩, ?_⟩
    simp only [peta, iN_vN]
    rw [recF, if_pos hc]
theorem ok6r : p6r.OK Tryz.prog := p6r.ok (fn := Tryz.f6) (fun w => cx [p40.ci, p20.ci, p21r.ci, p22r.ci, p23r.ci] [(0, fun _ => A6r w)]) (fun _ => cx_ok (cs := [p40.ci, p20.ci, p21r.ci, p22r.ci, p23r.ci]) ⟨PC.OK.ci ok40, PC.OK.ci ok20, PC.OK.ci ok21r, PC.OK.ci ok22r, PC.OK.ci ok23r, trivial⟩ _) (by kernel_rfl) (by kernel_rfl) (by kernel_rfl) fun w hw =>
  vc6 hw fun h => ⟨fun v hv => ⟨(check_ok.1 h).lo v hv, (check_ok.1 h).hi v hv⟩, (check_ok.1 h).len⟩
end Go.SX.We.Nm
