/- Parts of the proof, one after the other: We16 We16E We16Q We17Q. -/
import Derived.Test.YtgbnkmhabhgigaaM15
import Derived.Test.YtgbnkmhabhgigaaM16
/- Chapter 08: the laws of Subsets, Distinct, Conway and Pans, what is asked. -/
namespace Go.SX.We
open Go Go.Proofs
noncomputable section
@[reducible] def p24 : PC := ⟨24, [aIs, aI], [aIs, aI], fun p => Wts p.1 ∧ 0 ≤ p.2, fun p => refS p.1 p.2⟩
@[reducible] def A24 (b : Bool) (S : List Int) (t : Int) : Ann where
  τ := Nat
  pre := []
  preC := []
  keep := [0, 1, 6]
  slots k := [(7, .c (.int .i64 (manyK S t k))), (8, .c (.nro (.int .i64) b (bestK S t k))), (9, .c (.int .i64 k))]
  ents _ := []
  ok k := k ≤ S.length
  m k := S.length - k
@[reducible] def C24 (b : Bool) (p : List Int × Int) : Ctx := cx [p53.ci, p54.ci, p35.ci] [(0, fun _ => A24 b (sumsR p.1) p.2)]
def g24a (l : List Int) (t : Int) : Prop := p24.VC (C24 true (l, t)) Try.f24 (l, t)
def g24b (l : List Int) (t : Int) : Prop := p24.VC (C24 false (l, t)) Try.f24 (l, t)
@[reducible] def p3 : PC := ⟨3, [aIs], [aB], fun _ => True, fun _ => true⟩
@[reducible] def C3 (_ : List Int) : Ctx := cx [p15.ci, p16.ci, p17.ci, p18.ci, p19.ci, p20.ci, p21.ci] []
def g3 (x : List Int) : Prop := p3.VC (C3 x) Try.f3 x
@[reducible] def p4 : PC := ⟨4, [aIs, aI], [aB], fun _ => True, fun _ => true⟩
@[reducible] def C4 (_ : List Int × Int) : Ctx := cx [p15.ci, p22.ci, p23.ci, p18.ci, p19.ci, p24.ci, p21.ci] []
def g4 (x : List Int) (t : Int) : Prop := p4.VC (C4 (x, t)) Try.f4 (x, t)
@[reducible] def p8 : PC := ⟨8, [aU8], [aB], fun n => 0 ≤ n ∧ n ≤ 255, fun _ => true⟩
@[reducible] def C8 (_ : Int) : Ctx := cx [p28.ci, p27.ci, p16.ci, p36.ci, p19.ci] []
def g8 (n : Int) : Prop := p8.VC (C8 n) Try.f8 n

@[reducible] def n26 : NC := ⟨26, [aIs, aI, aIs], .int .i64, fun p => Wts p.1 ∧ p.1.length ≤ 9 ∧ Fits .i64 p.2.1 ∧ p.2.2.length ≤ p.1.length, fun p => pansR p.1 (p.1.length - p.2.2.length) p.2.1 p.2.2⟩
def m26 (p : List Int × Int × List Int) : Nat := p.1.length - p.2.2.length
@[reducible] def A26a (w x : List Int) : Ann where
  τ := Nat
  pre := []
  preC := []
  keep := [0, 1, 2]
  slots k := [(7, .c (.int .i64 (restK w x.length k))), (8, .c (.int .i64 ((x.length + k : Nat) : Int)))]
  ents _ := []
  ok k := x.length + k ≤ w.length
  m k := w.length - k
@[reducible] def A26b (w : List Int) (t : Int) (x : List Int) : Ann where
  τ := Nat
  pre := []
  preC := []
  keep := [0, 1, 2]
  slots j := [(9, .c (.int .i64 ((j : Int) - 2)))]
  ents _ := []
  ok j := j ≤ 3 ∧ pansR w (w.length - x.length) t x = altR w (w.length - x.length - 1) t x j
  m j := j
@[reducible] def C26 (p : List Int × Int × List Int) : Ctx := cx [NC.ci (n26.below m26 (m26 p))] [(0, fun _ => A26a p.1 p.2.2), (1, fun _ => A26b p.1 p.2.1 p.2.2)]
def g26 (w : List Int) (t : Int) (x : List Int) : Prop := NilVC (C26 (w, t, x)) Try.f26 n26 (w, t, x)
@[reducible] def p5 : PC := ⟨5, [aIs, aI], [aB], fun p => Fits .i64 p.2, fun _ => true⟩
@[reducible] def C5 (_ : List Int × Int) : Ctx := cx [p15.ci, p25.ci, p18.ci, p19.ci, n26.ci, p21.ci] []
def g5 (x : List Int) (t : Int) : Prop := p5.VC (C5 (x, t)) Try.f5 (x, t)
end
end Go.SX.We

/- Printed by VC.lean: what the executor asks. -/
namespace Go.SX.We
open Go Go.Proofs
theorem g24a_eq (l : List Int) (t : Int) : g24a l t = (
 (l.length ≤ (12 : Nat) ∧ ∀ (v : Int), v ∈ l → (-1000000 : Int) ≤ v ∧ v ≤ (1000000 : Int)) ∧
 (∃ (x0 : Nat),
 x0 ≤ (sumsR l).length ∧ True ∧ (0 : Int) = manyK (sumsR l) t x0 ∧ bestK (sumsR l) t x0 = nilT Int ∧ (0 : Int) = (↑x0 : Int) ∧ sumsR l = sumsR l ∧ l = l ∧ t = t ∧ True) ∧
 ∀ (x : Nat),
 x ≤ (sumsR l).length →
 ((↑x : Int) < (↑(sumsR l).length : Int) →
 (↑x : Int) < (↑(sumsR l).length : Int) ∧
 ((0 : Int) ≤ (↑x : Int) ∧ (↑x : Int) < (↑(sumsR l).length : Int)) ∧
 (¬(sumsR l).getD (↑x : Int).toNat (0 : Int) = t →
 ¬(sumsR l).getD (↑x : Int).toNat (0 : Int) = t ∧
 Fits IntKind.i64 ((↑x : Int) + (1 : Int)) ∧
 ∃ (x' : Nat),
 x' ≤ (sumsR l).length ∧
 (sumsR l).length - x' < (sumsR l).length - x ∧
 True ∧
 manyK (sumsR l) t x = manyK (sumsR l) t x' ∧
 bestK (sumsR l) t x = bestK (sumsR l) t x' ∧ (↑x : Int) + (1 : Int) = (↑x' : Int) ∧ sumsR l = sumsR l ∧ l = l ∧ t = t ∧ True) ∧
 (¬¬(sumsR l).getD (↑x : Int).toNat (0 : Int) = t →
 ¬¬(sumsR l).getD (↑x : Int).toNat (0 : Int) = t ∧
 Fits IntKind.i64 (manyK (sumsR l) t x + (1 : Int)) ∧
 ((0 : Int) ≤ (↑x : Int) ∧ (↑x : Int) < (4096 : Int)) ∧
 ((bestK (sumsR l) t x).length = (0 : Nat) →
 (bestK (sumsR l) t x).length = (0 : Nat) ∧
 (bestK (sumsR l) t x).length = (0 : Nat) ∧
 Fits IntKind.i64 ((↑x : Int) + (1 : Int)) ∧
 ∃ (x' : Nat),
 x' ≤ (sumsR l).length ∧
 (sumsR l).length - x' < (sumsR l).length - x ∧
 True ∧
 manyK (sumsR l) t x + (1 : Int) = manyK (sumsR l) t x' ∧
 (idxF (↑x : Int).toNat = bestK (sumsR l) t x' ∧ bestK (sumsR l) t x' ≠ []) ∧
 (↑x : Int) + (1 : Int) = (↑x' : Int) ∧ sumsR l = sumsR l ∧ l = l ∧ t = t ∧ True) ∧
 (¬(bestK (sumsR l) t x).length = (0 : Nat) →
 ¬(bestK (sumsR l) t x).length = (0 : Nat) ∧
 ¬(bestK (sumsR l) t x).length = (0 : Nat) ∧
 ((idxF (↑x : Int).toNat).length ≤ (1000 : Nat) ∧ (bestK (sumsR l) t x).length ≤ (1000 : Nat)) ∧
 (beforeF (idxF (↑x : Int).toNat) (bestK (sumsR l) t x) = true →
 beforeF (idxF (↑x : Int).toNat) (bestK (sumsR l) t x) = true ∧
 beforeF (idxF (↑x : Int).toNat) (bestK (sumsR l) t x) = true ∧
 Fits IntKind.i64 ((↑x : Int) + (1 : Int)) ∧
 ∃ (x' : Nat),
 x' ≤ (sumsR l).length ∧
 (sumsR l).length - x' < (sumsR l).length - x ∧
 True ∧
 manyK (sumsR l) t x + (1 : Int) = manyK (sumsR l) t x' ∧
 (idxF (↑x : Int).toNat = bestK (sumsR l) t x' ∧ bestK (sumsR l) t x' ≠ []) ∧
 (↑x : Int) + (1 : Int) = (↑x' : Int) ∧ sumsR l = sumsR l ∧ l = l ∧ t = t ∧ True) ∧
 (beforeF (idxF (↑x : Int).toNat) (bestK (sumsR l) t x) = false →
 beforeF (idxF (↑x : Int).toNat) (bestK (sumsR l) t x) = false ∧
 beforeF (idxF (↑x : Int).toNat) (bestK (sumsR l) t x) = false ∧
 Fits IntKind.i64 ((↑x : Int) + (1 : Int)) ∧
 ∃ (x' : Nat),
 x' ≤ (sumsR l).length ∧
 (sumsR l).length - x' < (sumsR l).length - x ∧
 True ∧
 manyK (sumsR l) t x + (1 : Int) = manyK (sumsR l) t x' ∧
 bestK (sumsR l) t x = bestK (sumsR l) t x' ∧
 (↑x : Int) + (1 : Int) = (↑x' : Int) ∧ sumsR l = sumsR l ∧ l = l ∧ t = t ∧ True)))) ∧
 (¬(↑x : Int) < (↑(sumsR l).length : Int) → ¬(↑x : Int) < (↑(sumsR l).length : Int) ∧ (bestK (sumsR l) t x, manyK (sumsR l) t x) = refS l t)) := by
 kernel_rfl

theorem g24b_eq (l : List Int) (t : Int) : g24b l t = (
 (l.length ≤ (12 : Nat) ∧ ∀ (v : Int), v ∈ l → (-1000000 : Int) ≤ v ∧ v ≤ (1000000 : Int)) ∧
 (∃ (x0 : Nat),
 x0 ≤ (sumsR l).length ∧ True ∧ (0 : Int) = manyK (sumsR l) t x0 ∧ bestK (sumsR l) t x0 = nilT Int ∧ (0 : Int) = (↑x0 : Int) ∧ sumsR l = sumsR l ∧ l = l ∧ t = t ∧ True) ∧
 ∀ (x : Nat),
 x ≤ (sumsR l).length →
 ((↑x : Int) < (↑(sumsR l).length : Int) →
 (↑x : Int) < (↑(sumsR l).length : Int) ∧
 ((0 : Int) ≤ (↑x : Int) ∧ (↑x : Int) < (↑(sumsR l).length : Int)) ∧
 (¬(sumsR l).getD (↑x : Int).toNat (0 : Int) = t →
 ¬(sumsR l).getD (↑x : Int).toNat (0 : Int) = t ∧
 Fits IntKind.i64 ((↑x : Int) + (1 : Int)) ∧
 ∃ (x' : Nat),
 x' ≤ (sumsR l).length ∧
 (sumsR l).length - x' < (sumsR l).length - x ∧
 True ∧
 manyK (sumsR l) t x = manyK (sumsR l) t x' ∧
 bestK (sumsR l) t x = bestK (sumsR l) t x' ∧ (↑x : Int) + (1 : Int) = (↑x' : Int) ∧ sumsR l = sumsR l ∧ l = l ∧ t = t ∧ True) ∧
 (¬¬(sumsR l).getD (↑x : Int).toNat (0 : Int) = t →
 ¬¬(sumsR l).getD (↑x : Int).toNat (0 : Int) = t ∧
 Fits IntKind.i64 (manyK (sumsR l) t x + (1 : Int)) ∧
 ((0 : Int) ≤ (↑x : Int) ∧ (↑x : Int) < (4096 : Int)) ∧
 (Fits IntKind.i64 ((↑x : Int) + (1 : Int)) ∧
 ∃ (x' : Nat),
 x' ≤ (sumsR l).length ∧
 (sumsR l).length - x' < (sumsR l).length - x ∧
 True ∧
 manyK (sumsR l) t x + (1 : Int) = manyK (sumsR l) t x' ∧
 (idxF (↑x : Int).toNat = bestK (sumsR l) t x' ∧ True) ∧ (↑x : Int) + (1 : Int) = (↑x' : Int) ∧ sumsR l = sumsR l ∧ l = l ∧ t = t ∧ True) ∧
 ((idxF (↑x : Int).toNat).length ≤ (1000 : Nat) ∧ (bestK (sumsR l) t x).length ≤ (1000 : Nat)) ∧
 (beforeF (idxF (↑x : Int).toNat) (bestK (sumsR l) t x) = true →
 beforeF (idxF (↑x : Int).toNat) (bestK (sumsR l) t x) = true ∧
 beforeF (idxF (↑x : Int).toNat) (bestK (sumsR l) t x) = true ∧
 Fits IntKind.i64 ((↑x : Int) + (1 : Int)) ∧
 ∃ (x' : Nat),
 x' ≤ (sumsR l).length ∧
 (sumsR l).length - x' < (sumsR l).length - x ∧
 True ∧
 manyK (sumsR l) t x + (1 : Int) = manyK (sumsR l) t x' ∧
 (idxF (↑x : Int).toNat = bestK (sumsR l) t x' ∧ True) ∧
 (↑x : Int) + (1 : Int) = (↑x' : Int) ∧ sumsR l = sumsR l ∧ l = l ∧ t = t ∧ True) ∧
 (beforeF (idxF (↑x : Int).toNat) (bestK (sumsR l) t x) = false →
 beforeF (idxF (↑x : Int).toNat) (bestK (sumsR l) t x) = false ∧
 beforeF (idxF (↑x : Int).toNat) (bestK (sumsR l) t x) = false ∧
 Fits IntKind.i64 ((↑x : Int) + (1 : Int)) ∧
 ∃ (x' : Nat),
 x' ≤ (sumsR l).length ∧
 (sumsR l).length - x' < (sumsR l).length - x ∧
 True ∧
 manyK (sumsR l) t x + (1 : Int) = manyK (sumsR l) t x' ∧
 bestK (sumsR l) t x = bestK (sumsR l) t x' ∧ (↑x : Int) + (1 : Int) = (↑x' : Int) ∧ sumsR l = sumsR l ∧ l = l ∧ t = t ∧ True))) ∧
 (¬(↑x : Int) < (↑(sumsR l).length : Int) → ¬(↑x : Int) < (↑(sumsR l).length : Int) ∧ (bestK (sumsR l) t x, manyK (sumsR l) t x) = refS l t)) := by
 kernel_rfl

theorem g3_eq (x : List Int) : g3 x = (
 True ∧
 (List.take (13 : Nat) x).length ≤ (1000 : Nat) ∧
 (List.take (13 : Nat) x).length ≤ (1000 : Nat) ∧
 (List.take (13 : Nat) x).length ≤ (1000 : Nat) ∧
 (¬checkF (List.take (13 : Nat) x) (12 : Int) = (0 : Int) →
 ¬checkF (List.take (13 : Nat) x) (12 : Int) = (0 : Int) ∧
 ((!(distinctF (List.take (13 : Nat) x)).fst) = true →
 (!(distinctF (List.take (13 : Nat) x)).fst) = true ∧
 (!(distinctF (List.take (13 : Nat) x)).fst) = true ∧
 ((distinctF (List.take (13 : Nat) x)).snd = checkF (List.take (13 : Nat) x) (12 : Int) →
 (distinctF (List.take (13 : Nat) x)).snd = checkF (List.take (13 : Nat) x) (12 : Int) ∧
 (distinctF (List.take (13 : Nat) x)).snd = checkF (List.take (13 : Nat) x) (12 : Int) ∧
 (distinctF (List.take (13 : Nat) x)).snd = checkF (List.take (13 : Nat) x) (12 : Int) ∧
 Fits IntKind.i64 ((↑(clashF (List.take (13 : Nat) x)).fst.length : Int) + (↑(clashF (List.take (13 : Nat) x)).snd.fst.length : Int)) ∧
 ((↑(clashF (List.take (13 : Nat) x)).fst.length : Int) + (↑(clashF (List.take (13 : Nat) x)).snd.fst.length : Int) = (0 : Int) →
 (↑(clashF (List.take (13 : Nat) x)).fst.length : Int) + (↑(clashF (List.take (13 : Nat) x)).snd.fst.length : Int) = (0 : Int) ∧
 (↑(clashF (List.take (13 : Nat) x)).fst.length : Int) + (↑(clashF (List.take (13 : Nat) x)).snd.fst.length : Int) = (0 : Int) ∧
 (↑(clashF (List.take (13 : Nat) x)).fst.length : Int) + (↑(clashF (List.take (13 : Nat) x)).snd.fst.length : Int) = (0 : Int) ∧
 ((clashF (List.take (13 : Nat) x)).snd.snd = checkF (List.take (13 : Nat) x) (12 : Int) →
 (clashF (List.take (13 : Nat) x)).snd.snd = checkF (List.take (13 : Nat) x) (12 : Int) ∧
 (clashF (List.take (13 : Nat) x)).snd.snd = checkF (List.take (13 : Nat) x) (12 : Int) ∧
 (clashF (List.take (13 : Nat) x)).snd.snd = checkF (List.take (13 : Nat) x) (12 : Int) ∧ True ∧ true = true) ∧
 (¬(clashF (List.take (13 : Nat) x)).snd.snd = checkF (List.take (13 : Nat) x) (12 : Int) →
 ¬(clashF (List.take (13 : Nat) x)).snd.snd = checkF (List.take (13 : Nat) x) (12 : Int) ∧
 ¬(clashF (List.take (13 : Nat) x)).snd.snd = checkF (List.take (13 : Nat) x) (12 : Int) ∧
 ¬(clashF (List.take (13 : Nat) x)).snd.snd = checkF (List.take (13 : Nat) x) (12 : Int) ∧ false = true)) ∧
 (¬(↑(clashF (List.take (13 : Nat) x)).fst.length : Int) + (↑(clashF (List.take (13 : Nat) x)).snd.fst.length : Int) = (0 : Int) →
 ¬(↑(clashF (List.take (13 : Nat) x)).fst.length : Int) + (↑(clashF (List.take (13 : Nat) x)).snd.fst.length : Int) = (0 : Int) ∧
 ¬(↑(clashF (List.take (13 : Nat) x)).fst.length : Int) + (↑(clashF (List.take (13 : Nat) x)).snd.fst.length : Int) = (0 : Int) ∧
 ¬(↑(clashF (List.take (13 : Nat) x)).fst.length : Int) + (↑(clashF (List.take (13 : Nat) x)).snd.fst.length : Int) = (0 : Int) ∧
 false = true)) ∧
 (¬(distinctF (List.take (13 : Nat) x)).snd = checkF (List.take (13 : Nat) x) (12 : Int) →
 ¬(distinctF (List.take (13 : Nat) x)).snd = checkF (List.take (13 : Nat) x) (12 : Int) ∧
 ¬(distinctF (List.take (13 : Nat) x)).snd = checkF (List.take (13 : Nat) x) (12 : Int) ∧
 ¬(distinctF (List.take (13 : Nat) x)).snd = checkF (List.take (13 : Nat) x) (12 : Int) ∧ false = true)) ∧
 ((!(distinctF (List.take (13 : Nat) x)).fst) = false →
 (!(distinctF (List.take (13 : Nat) x)).fst) = false ∧ (!(distinctF (List.take (13 : Nat) x)).fst) = false ∧ false = true)) ∧
 (¬¬checkF (List.take (13 : Nat) x) (12 : Int) = (0 : Int) →
 ¬¬checkF (List.take (13 : Nat) x) (12 : Int) = (0 : Int) ∧
 ((List.take (13 : Nat) x).length ≤ (12 : Nat) ∧ ∀ (v : Int), v ∈ List.take (13 : Nat) x → (-1000000 : Int) ≤ v ∧ v ≤ (1000000 : Int)) ∧
 ((distinctF (List.take (13 : Nat) x)).fst = (refC (List.take (13 : Nat) x)).snd.snd →
 (distinctF (List.take (13 : Nat) x)).fst = (refC (List.take (13 : Nat) x)).snd.snd ∧
 (distinctF (List.take (13 : Nat) x)).fst = (refC (List.take (13 : Nat) x)).snd.snd ∧ false = true) ∧
 (¬(distinctF (List.take (13 : Nat) x)).fst = (refC (List.take (13 : Nat) x)).snd.snd →
 ¬(distinctF (List.take (13 : Nat) x)).fst = (refC (List.take (13 : Nat) x)).snd.snd ∧
 ¬(distinctF (List.take (13 : Nat) x)).fst = (refC (List.take (13 : Nat) x)).snd.snd ∧
 (¬(distinctF (List.take (13 : Nat) x)).snd = (0 : Int) →
 ¬(distinctF (List.take (13 : Nat) x)).snd = (0 : Int) ∧
 ¬(distinctF (List.take (13 : Nat) x)).snd = (0 : Int) ∧ ¬(distinctF (List.take (13 : Nat) x)).snd = (0 : Int) ∧ false = true) ∧
 (¬¬(distinctF (List.take (13 : Nat) x)).snd = (0 : Int) →
 ¬¬(distinctF (List.take (13 : Nat) x)).snd = (0 : Int) ∧
 ¬¬(distinctF (List.take (13 : Nat) x)).snd = (0 : Int) ∧
 ¬¬(distinctF (List.take (13 : Nat) x)).snd = (0 : Int) ∧
 True ∧
 (false = true → false = true ∧ false = true ∧ false = true) ∧
 (false = false →
 false = false ∧
 false = false ∧
 ((refC (List.take (13 : Nat) x)).snd.snd = true →
 (refC (List.take (13 : Nat) x)).snd.snd = true ∧
 (refC (List.take (13 : Nat) x)).snd.snd = true ∧
 (refC (List.take (13 : Nat) x)).snd.snd = true ∧
 (refC (List.take (13 : Nat) x)).snd.snd = true ∧
 ((clashF (List.take (13 : Nat) x)).fst.length ≤ (1000 : Nat) ∧ (refC (List.take (13 : Nat) x)).fst.length ≤ (1000 : Nat)) ∧
 (decide ((clashF (List.take (13 : Nat) x)).fst = (refC (List.take (13 : Nat) x)).fst) = true →
 decide ((clashF (List.take (13 : Nat) x)).fst = (refC (List.take (13 : Nat) x)).fst) = true ∧
 decide ((clashF (List.take (13 : Nat) x)).fst = (refC (List.take (13 : Nat) x)).fst) = true ∧
 ((clashF (List.take (13 : Nat) x)).snd.fst.length ≤ (1000 : Nat) ∧
 (refC (List.take (13 : Nat) x)).snd.fst.length ≤ (1000 : Nat)) ∧
 (decide ((clashF (List.take (13 : Nat) x)).snd.fst = (refC (List.take (13 : Nat) x)).snd.fst) = true →
 decide ((clashF (List.take (13 : Nat) x)).snd.fst = (refC (List.take (13 : Nat) x)).snd.fst) = true ∧
 decide ((clashF (List.take (13 : Nat) x)).snd.fst = (refC (List.take (13 : Nat) x)).snd.fst) = true ∧
 decide ((clashF (List.take (13 : Nat) x)).snd.fst = (refC (List.take (13 : Nat) x)).snd.fst) = true ∧
 decide ((clashF (List.take (13 : Nat) x)).snd.snd = (0 : Int)) = true) ∧
 (decide ((clashF (List.take (13 : Nat) x)).snd.fst = (refC (List.take (13 : Nat) x)).snd.fst) = false →
 decide ((clashF (List.take (13 : Nat) x)).snd.fst = (refC (List.take (13 : Nat) x)).snd.fst) = false ∧
 decide ((clashF (List.take (13 : Nat) x)).snd.fst = (refC (List.take (13 : Nat) x)).snd.fst) = false ∧
 decide ((clashF (List.take (13 : Nat) x)).snd.fst = (refC (List.take (13 : Nat) x)).snd.fst) = false ∧
 false = true)) ∧
 (decide ((clashF (List.take (13 : Nat) x)).fst = (refC (List.take (13 : Nat) x)).fst) = false →
 decide ((clashF (List.take (13 : Nat) x)).fst = (refC (List.take (13 : Nat) x)).fst) = false ∧
 decide ((clashF (List.take (13 : Nat) x)).fst = (refC (List.take (13 : Nat) x)).fst) = false ∧ false = true)) ∧
 ((refC (List.take (13 : Nat) x)).snd.snd = false →
 (refC (List.take (13 : Nat) x)).snd.snd = false ∧
 (refC (List.take (13 : Nat) x)).snd.snd = false ∧
 (refC (List.take (13 : Nat) x)).snd.snd = false ∧
 (refC (List.take (13 : Nat) x)).snd.snd = false ∧
 Fits IntKind.i64
 ((↑(clashF (List.take (13 : Nat) x)).fst.length : Int) + (↑(clashF (List.take (13 : Nat) x)).snd.fst.length : Int)) ∧
 ((↑(clashF (List.take (13 : Nat) x)).fst.length : Int) + (↑(clashF (List.take (13 : Nat) x)).snd.fst.length : Int) =
 (0 : Int) →
 (↑(clashF (List.take (13 : Nat) x)).fst.length : Int) + (↑(clashF (List.take (13 : Nat) x)).snd.fst.length : Int) =
 (0 : Int) ∧
 (↑(clashF (List.take (13 : Nat) x)).fst.length : Int) + (↑(clashF (List.take (13 : Nat) x)).snd.fst.length : Int) =
 (0 : Int) ∧
 decide ((clashF (List.take (13 : Nat) x)).snd.snd = (5 : Int)) = true) ∧
 (¬(↑(clashF (List.take (13 : Nat) x)).fst.length : Int) + (↑(clashF (List.take (13 : Nat) x)).snd.fst.length : Int) =
 (0 : Int) →
 ¬(↑(clashF (List.take (13 : Nat) x)).fst.length : Int) + (↑(clashF (List.take (13 : Nat) x)).snd.fst.length : Int) =
 (0 : Int) ∧
 ¬(↑(clashF (List.take (13 : Nat) x)).fst.length : Int) + (↑(clashF (List.take (13 : Nat) x)).snd.fst.length : Int) =
 (0 : Int) ∧
 false = true))))))) := by
 kernel_rfl

theorem g4_eq (x : List Int) (t : Int) : g4 x t = (
 True ∧
 (List.take (13 : Nat) x).length ≤ (1000 : Nat) ∧
 (List.take (13 : Nat) x).length ≤ (1000 : Nat) ∧
 (List.take (13 : Nat) x).length ≤ (1000 : Nat) ∧
 (¬checkF (List.take (13 : Nat) x) (12 : Int) = (3 : Int) →
 ¬checkF (List.take (13 : Nat) x) (12 : Int) = (3 : Int) ∧
 ¬checkF (List.take (13 : Nat) x) (12 : Int) = (3 : Int) ∧
 (t < (0 : Int) →
 t < (0 : Int) ∧
 t < (0 : Int) ∧
 (¬(1 : Int) = (0 : Int) →
 ¬(1 : Int) = (0 : Int) ∧
 ((↑(subsetF (List.take (13 : Nat) x) t).fst.length : Int) = (0 : Int) →
 (↑(subsetF (List.take (13 : Nat) x) t).fst.length : Int) = (0 : Int) ∧
 (↑(subsetF (List.take (13 : Nat) x) t).fst.length : Int) = (0 : Int) ∧
 ((subsetF (List.take (13 : Nat) x) t).snd = (1 : Int) →
 (subsetF (List.take (13 : Nat) x) t).snd = (1 : Int) ∧
 (subsetF (List.take (13 : Nat) x) t).snd = (1 : Int) ∧
 (subsetF (List.take (13 : Nat) x) t).snd = (1 : Int) ∧
 ((waysF (List.take (13 : Nat) x) t).fst = (0 : Int) →
 (waysF (List.take (13 : Nat) x) t).fst = (0 : Int) ∧
 (waysF (List.take (13 : Nat) x) t).fst = (0 : Int) ∧
 (waysF (List.take (13 : Nat) x) t).fst = (0 : Int) ∧
 ((waysF (List.take (13 : Nat) x) t).snd = (1 : Int) →
 (waysF (List.take (13 : Nat) x) t).snd = (1 : Int) ∧
 (waysF (List.take (13 : Nat) x) t).snd = (1 : Int) ∧
 (waysF (List.take (13 : Nat) x) t).snd = (1 : Int) ∧ True ∧ true = true) ∧
 (¬(waysF (List.take (13 : Nat) x) t).snd = (1 : Int) →
 ¬(waysF (List.take (13 : Nat) x) t).snd = (1 : Int) ∧
 ¬(waysF (List.take (13 : Nat) x) t).snd = (1 : Int) ∧
 ¬(waysF (List.take (13 : Nat) x) t).snd = (1 : Int) ∧ false = true)) ∧
 (¬(waysF (List.take (13 : Nat) x) t).fst = (0 : Int) →
 ¬(waysF (List.take (13 : Nat) x) t).fst = (0 : Int) ∧
 ¬(waysF (List.take (13 : Nat) x) t).fst = (0 : Int) ∧ ¬(waysF (List.take (13 : Nat) x) t).fst = (0 : Int) ∧ false = true)) ∧
 (¬(subsetF (List.take (13 : Nat) x) t).snd = (1 : Int) →
 ¬(subsetF (List.take (13 : Nat) x) t).snd = (1 : Int) ∧
 ¬(subsetF (List.take (13 : Nat) x) t).snd = (1 : Int) ∧ ¬(subsetF (List.take (13 : Nat) x) t).snd = (1 : Int) ∧ false = true)) ∧
 (¬(↑(subsetF (List.take (13 : Nat) x) t).fst.length : Int) = (0 : Int) →
 ¬(↑(subsetF (List.take (13 : Nat) x) t).fst.length : Int) = (0 : Int) ∧
 ¬(↑(subsetF (List.take (13 : Nat) x) t).fst.length : Int) = (0 : Int) ∧ false = true)) ∧
 (¬¬(1 : Int) = (0 : Int) →
 ¬¬(1 : Int) = (0 : Int) ∧
 (Wts (List.take (13 : Nat) x) ∧ (0 : Int) ≤ t) ∧
 (¬(waysF (List.take (13 : Nat) x) t).fst = (refS (List.take (13 : Nat) x) t).snd →
 ¬(waysF (List.take (13 : Nat) x) t).fst = (refS (List.take (13 : Nat) x) t).snd ∧
 ¬(waysF (List.take (13 : Nat) x) t).fst = (refS (List.take (13 : Nat) x) t).snd ∧ false = true) ∧
 (¬¬(waysF (List.take (13 : Nat) x) t).fst = (refS (List.take (13 : Nat) x) t).snd →
 ¬¬(waysF (List.take (13 : Nat) x) t).fst = (refS (List.take (13 : Nat) x) t).snd ∧
 ¬¬(waysF (List.take (13 : Nat) x) t).fst = (refS (List.take (13 : Nat) x) t).snd ∧
 (¬(waysF (List.take (13 : Nat) x) t).snd = (0 : Int) →
 ¬(waysF (List.take (13 : Nat) x) t).snd = (0 : Int) ∧
 ¬(waysF (List.take (13 : Nat) x) t).snd = (0 : Int) ∧ ¬(waysF (List.take (13 : Nat) x) t).snd = (0 : Int) ∧ false = true) ∧
 (¬¬(waysF (List.take (13 : Nat) x) t).snd = (0 : Int) →
 ¬¬(waysF (List.take (13 : Nat) x) t).snd = (0 : Int) ∧
 ¬¬(waysF (List.take (13 : Nat) x) t).snd = (0 : Int) ∧
 ¬¬(waysF (List.take (13 : Nat) x) t).snd = (0 : Int) ∧
 True ∧
 (false = true → false = true ∧ false = true ∧ false = true) ∧
 (false = false →
 false = false ∧
 false = false ∧
 ((refS (List.take (13 : Nat) x) t).snd = (0 : Int) →
 (refS (List.take (13 : Nat) x) t).snd = (0 : Int) ∧
 ((↑(subsetF (List.take (13 : Nat) x) t).fst.length : Int) = (0 : Int) →
 (↑(subsetF (List.take (13 : Nat) x) t).fst.length : Int) = (0 : Int) ∧
 (↑(subsetF (List.take (13 : Nat) x) t).fst.length : Int) = (0 : Int) ∧
 decide ((subsetF (List.take (13 : Nat) x) t).snd = (5 : Int)) = true) ∧
 (¬(↑(subsetF (List.take (13 : Nat) x) t).fst.length : Int) = (0 : Int) →
 ¬(↑(subsetF (List.take (13 : Nat) x) t).fst.length : Int) = (0 : Int) ∧
 ¬(↑(subsetF (List.take (13 : Nat) x) t).fst.length : Int) = (0 : Int) ∧ false = true)) ∧
 (¬(refS (List.take (13 : Nat) x) t).snd = (0 : Int) →
 ¬(refS (List.take (13 : Nat) x) t).snd = (0 : Int) ∧
 ((subsetF (List.take (13 : Nat) x) t).fst.length ≤ (1000 : Nat) ∧
 (refS (List.take (13 : Nat) x) t).fst.length ≤ (1000 : Nat)) ∧
 (decide ((subsetF (List.take (13 : Nat) x) t).fst = (refS (List.take (13 : Nat) x) t).fst) = true →
 decide ((subsetF (List.take (13 : Nat) x) t).fst = (refS (List.take (13 : Nat) x) t).fst) = true ∧
 decide ((subsetF (List.take (13 : Nat) x) t).fst = (refS (List.take (13 : Nat) x) t).fst) = true ∧
 decide ((subsetF (List.take (13 : Nat) x) t).snd = (0 : Int)) = true) ∧
 (decide ((subsetF (List.take (13 : Nat) x) t).fst = (refS (List.take (13 : Nat) x) t).fst) = false →
 decide ((subsetF (List.take (13 : Nat) x) t).fst = (refS (List.take (13 : Nat) x) t).fst) = false ∧
 decide ((subsetF (List.take (13 : Nat) x) t).fst = (refS (List.take (13 : Nat) x) t).fst) = false ∧
 false = true))))))) ∧
 (¬t < (0 : Int) →
 ¬t < (0 : Int) ∧
 ¬t < (0 : Int) ∧
 (¬checkF (List.take (13 : Nat) x) (12 : Int) = (0 : Int) →
 ¬checkF (List.take (13 : Nat) x) (12 : Int) = (0 : Int) ∧
 ((↑(subsetF (List.take (13 : Nat) x) t).fst.length : Int) = (0 : Int) →
 (↑(subsetF (List.take (13 : Nat) x) t).fst.length : Int) = (0 : Int) ∧
 (↑(subsetF (List.take (13 : Nat) x) t).fst.length : Int) = (0 : Int) ∧
 ((subsetF (List.take (13 : Nat) x) t).snd = checkF (List.take (13 : Nat) x) (12 : Int) →
 (subsetF (List.take (13 : Nat) x) t).snd = checkF (List.take (13 : Nat) x) (12 : Int) ∧
 (subsetF (List.take (13 : Nat) x) t).snd = checkF (List.take (13 : Nat) x) (12 : Int) ∧
 (subsetF (List.take (13 : Nat) x) t).snd = checkF (List.take (13 : Nat) x) (12 : Int) ∧
 ((waysF (List.take (13 : Nat) x) t).fst = (0 : Int) →
 (waysF (List.take (13 : Nat) x) t).fst = (0 : Int) ∧
 (waysF (List.take (13 : Nat) x) t).fst = (0 : Int) ∧
 (waysF (List.take (13 : Nat) x) t).fst = (0 : Int) ∧
 ((waysF (List.take (13 : Nat) x) t).snd = checkF (List.take (13 : Nat) x) (12 : Int) →
 (waysF (List.take (13 : Nat) x) t).snd = checkF (List.take (13 : Nat) x) (12 : Int) ∧
 (waysF (List.take (13 : Nat) x) t).snd = checkF (List.take (13 : Nat) x) (12 : Int) ∧
 (waysF (List.take (13 : Nat) x) t).snd = checkF (List.take (13 : Nat) x) (12 : Int) ∧ True ∧ true = true) ∧
 (¬(waysF (List.take (13 : Nat) x) t).snd = checkF (List.take (13 : Nat) x) (12 : Int) →
 ¬(waysF (List.take (13 : Nat) x) t).snd = checkF (List.take (13 : Nat) x) (12 : Int) ∧
 ¬(waysF (List.take (13 : Nat) x) t).snd = checkF (List.take (13 : Nat) x) (12 : Int) ∧
 ¬(waysF (List.take (13 : Nat) x) t).snd = checkF (List.take (13 : Nat) x) (12 : Int) ∧ false = true)) ∧
 (¬(waysF (List.take (13 : Nat) x) t).fst = (0 : Int) →
 ¬(waysF (List.take (13 : Nat) x) t).fst = (0 : Int) ∧
 ¬(waysF (List.take (13 : Nat) x) t).fst = (0 : Int) ∧ ¬(waysF (List.take (13 : Nat) x) t).fst = (0 : Int) ∧ false = true)) ∧
 (¬(subsetF (List.take (13 : Nat) x) t).snd = checkF (List.take (13 : Nat) x) (12 : Int) →
 ¬(subsetF (List.take (13 : Nat) x) t).snd = checkF (List.take (13 : Nat) x) (12 : Int) ∧
 ¬(subsetF (List.take (13 : Nat) x) t).snd = checkF (List.take (13 : Nat) x) (12 : Int) ∧
 ¬(subsetF (List.take (13 : Nat) x) t).snd = checkF (List.take (13 : Nat) x) (12 : Int) ∧ false = true)) ∧
 (¬(↑(subsetF (List.take (13 : Nat) x) t).fst.length : Int) = (0 : Int) →
 ¬(↑(subsetF (List.take (13 : Nat) x) t).fst.length : Int) = (0 : Int) ∧
 ¬(↑(subsetF (List.take (13 : Nat) x) t).fst.length : Int) = (0 : Int) ∧ false = true)) ∧
 (¬¬checkF (List.take (13 : Nat) x) (12 : Int) = (0 : Int) →
 ¬¬checkF (List.take (13 : Nat) x) (12 : Int) = (0 : Int) ∧
 (Wts (List.take (13 : Nat) x) ∧ (0 : Int) ≤ t) ∧
 (¬(waysF (List.take (13 : Nat) x) t).fst = (refS (List.take (13 : Nat) x) t).snd →
 ¬(waysF (List.take (13 : Nat) x) t).fst = (refS (List.take (13 : Nat) x) t).snd ∧
 ¬(waysF (List.take (13 : Nat) x) t).fst = (refS (List.take (13 : Nat) x) t).snd ∧ false = true) ∧
 (¬¬(waysF (List.take (13 : Nat) x) t).fst = (refS (List.take (13 : Nat) x) t).snd →
 ¬¬(waysF (List.take (13 : Nat) x) t).fst = (refS (List.take (13 : Nat) x) t).snd ∧
 ¬¬(waysF (List.take (13 : Nat) x) t).fst = (refS (List.take (13 : Nat) x) t).snd ∧
 (¬(waysF (List.take (13 : Nat) x) t).snd = (0 : Int) →
 ¬(waysF (List.take (13 : Nat) x) t).snd = (0 : Int) ∧
 ¬(waysF (List.take (13 : Nat) x) t).snd = (0 : Int) ∧ ¬(waysF (List.take (13 : Nat) x) t).snd = (0 : Int) ∧ false = true) ∧
 (¬¬(waysF (List.take (13 : Nat) x) t).snd = (0 : Int) →
 ¬¬(waysF (List.take (13 : Nat) x) t).snd = (0 : Int) ∧
 ¬¬(waysF (List.take (13 : Nat) x) t).snd = (0 : Int) ∧
 ¬¬(waysF (List.take (13 : Nat) x) t).snd = (0 : Int) ∧
 True ∧
 (false = true → false = true ∧ false = true ∧ false = true) ∧
 (false = false →
 false = false ∧
 false = false ∧
 ((refS (List.take (13 : Nat) x) t).snd = (0 : Int) →
 (refS (List.take (13 : Nat) x) t).snd = (0 : Int) ∧
 ((↑(subsetF (List.take (13 : Nat) x) t).fst.length : Int) = (0 : Int) →
 (↑(subsetF (List.take (13 : Nat) x) t).fst.length : Int) = (0 : Int) ∧
 (↑(subsetF (List.take (13 : Nat) x) t).fst.length : Int) = (0 : Int) ∧
 decide ((subsetF (List.take (13 : Nat) x) t).snd = (5 : Int)) = true) ∧
 (¬(↑(subsetF (List.take (13 : Nat) x) t).fst.length : Int) = (0 : Int) →
 ¬(↑(subsetF (List.take (13 : Nat) x) t).fst.length : Int) = (0 : Int) ∧
 ¬(↑(subsetF (List.take (13 : Nat) x) t).fst.length : Int) = (0 : Int) ∧ false = true)) ∧
 (¬(refS (List.take (13 : Nat) x) t).snd = (0 : Int) →
 ¬(refS (List.take (13 : Nat) x) t).snd = (0 : Int) ∧
 ((subsetF (List.take (13 : Nat) x) t).fst.length ≤ (1000 : Nat) ∧
 (refS (List.take (13 : Nat) x) t).fst.length ≤ (1000 : Nat)) ∧
 (decide ((subsetF (List.take (13 : Nat) x) t).fst = (refS (List.take (13 : Nat) x) t).fst) = true →
 decide ((subsetF (List.take (13 : Nat) x) t).fst = (refS (List.take (13 : Nat) x) t).fst) = true ∧
 decide ((subsetF (List.take (13 : Nat) x) t).fst = (refS (List.take (13 : Nat) x) t).fst) = true ∧
 decide ((subsetF (List.take (13 : Nat) x) t).snd = (0 : Int)) = true) ∧
 (decide ((subsetF (List.take (13 : Nat) x) t).fst = (refS (List.take (13 : Nat) x) t).fst) = false →
 decide ((subsetF (List.take (13 : Nat) x) t).fst = (refS (List.take (13 : Nat) x) t).fst) = false ∧
 decide ((subsetF (List.take (13 : Nat) x) t).fst = (refS (List.take (13 : Nat) x) t).fst) = false ∧
 false = true)))))))) ∧
 (¬¬checkF (List.take (13 : Nat) x) (12 : Int) = (3 : Int) →
 ¬¬checkF (List.take (13 : Nat) x) (12 : Int) = (3 : Int) ∧
 ¬¬checkF (List.take (13 : Nat) x) (12 : Int) = (3 : Int) ∧
 (¬checkF (List.take (13 : Nat) x) (12 : Int) = (0 : Int) →
 ¬checkF (List.take (13 : Nat) x) (12 : Int) = (0 : Int) ∧
 ((↑(subsetF (List.take (13 : Nat) x) t).fst.length : Int) = (0 : Int) →
 (↑(subsetF (List.take (13 : Nat) x) t).fst.length : Int) = (0 : Int) ∧
 (↑(subsetF (List.take (13 : Nat) x) t).fst.length : Int) = (0 : Int) ∧
 ((subsetF (List.take (13 : Nat) x) t).snd = checkF (List.take (13 : Nat) x) (12 : Int) →
 (subsetF (List.take (13 : Nat) x) t).snd = checkF (List.take (13 : Nat) x) (12 : Int) ∧
 (subsetF (List.take (13 : Nat) x) t).snd = checkF (List.take (13 : Nat) x) (12 : Int) ∧
 (subsetF (List.take (13 : Nat) x) t).snd = checkF (List.take (13 : Nat) x) (12 : Int) ∧
 ((waysF (List.take (13 : Nat) x) t).fst = (0 : Int) →
 (waysF (List.take (13 : Nat) x) t).fst = (0 : Int) ∧
 (waysF (List.take (13 : Nat) x) t).fst = (0 : Int) ∧
 (waysF (List.take (13 : Nat) x) t).fst = (0 : Int) ∧
 ((waysF (List.take (13 : Nat) x) t).snd = checkF (List.take (13 : Nat) x) (12 : Int) →
 (waysF (List.take (13 : Nat) x) t).snd = checkF (List.take (13 : Nat) x) (12 : Int) ∧
 (waysF (List.take (13 : Nat) x) t).snd = checkF (List.take (13 : Nat) x) (12 : Int) ∧
 (waysF (List.take (13 : Nat) x) t).snd = checkF (List.take (13 : Nat) x) (12 : Int) ∧ True ∧ true = true) ∧
 (¬(waysF (List.take (13 : Nat) x) t).snd = checkF (List.take (13 : Nat) x) (12 : Int) →
 ¬(waysF (List.take (13 : Nat) x) t).snd = checkF (List.take (13 : Nat) x) (12 : Int) ∧
 ¬(waysF (List.take (13 : Nat) x) t).snd = checkF (List.take (13 : Nat) x) (12 : Int) ∧
 ¬(waysF (List.take (13 : Nat) x) t).snd = checkF (List.take (13 : Nat) x) (12 : Int) ∧ false = true)) ∧
 (¬(waysF (List.take (13 : Nat) x) t).fst = (0 : Int) →
 ¬(waysF (List.take (13 : Nat) x) t).fst = (0 : Int) ∧
 ¬(waysF (List.take (13 : Nat) x) t).fst = (0 : Int) ∧ ¬(waysF (List.take (13 : Nat) x) t).fst = (0 : Int) ∧ false = true)) ∧
 (¬(subsetF (List.take (13 : Nat) x) t).snd = checkF (List.take (13 : Nat) x) (12 : Int) →
 ¬(subsetF (List.take (13 : Nat) x) t).snd = checkF (List.take (13 : Nat) x) (12 : Int) ∧
 ¬(subsetF (List.take (13 : Nat) x) t).snd = checkF (List.take (13 : Nat) x) (12 : Int) ∧
 ¬(subsetF (List.take (13 : Nat) x) t).snd = checkF (List.take (13 : Nat) x) (12 : Int) ∧ false = true)) ∧
 (¬(↑(subsetF (List.take (13 : Nat) x) t).fst.length : Int) = (0 : Int) →
 ¬(↑(subsetF (List.take (13 : Nat) x) t).fst.length : Int) = (0 : Int) ∧
 ¬(↑(subsetF (List.take (13 : Nat) x) t).fst.length : Int) = (0 : Int) ∧ false = true)) ∧
 (¬¬checkF (List.take (13 : Nat) x) (12 : Int) = (0 : Int) →
 ¬¬checkF (List.take (13 : Nat) x) (12 : Int) = (0 : Int) ∧
 (Wts (List.take (13 : Nat) x) ∧ (0 : Int) ≤ t) ∧
 (¬(waysF (List.take (13 : Nat) x) t).fst = (refS (List.take (13 : Nat) x) t).snd →
 ¬(waysF (List.take (13 : Nat) x) t).fst = (refS (List.take (13 : Nat) x) t).snd ∧
 ¬(waysF (List.take (13 : Nat) x) t).fst = (refS (List.take (13 : Nat) x) t).snd ∧ false = true) ∧
 (¬¬(waysF (List.take (13 : Nat) x) t).fst = (refS (List.take (13 : Nat) x) t).snd →
 ¬¬(waysF (List.take (13 : Nat) x) t).fst = (refS (List.take (13 : Nat) x) t).snd ∧
 ¬¬(waysF (List.take (13 : Nat) x) t).fst = (refS (List.take (13 : Nat) x) t).snd ∧
 (¬(waysF (List.take (13 : Nat) x) t).snd = (0 : Int) →
 ¬(waysF (List.take (13 : Nat) x) t).snd = (0 : Int) ∧
 ¬(waysF (List.take (13 : Nat) x) t).snd = (0 : Int) ∧ ¬(waysF (List.take (13 : Nat) x) t).snd = (0 : Int) ∧ false = true) ∧
 (¬¬(waysF (List.take (13 : Nat) x) t).snd = (0 : Int) →
 ¬¬(waysF (List.take (13 : Nat) x) t).snd = (0 : Int) ∧
 ¬¬(waysF (List.take (13 : Nat) x) t).snd = (0 : Int) ∧
 ¬¬(waysF (List.take (13 : Nat) x) t).snd = (0 : Int) ∧
 True ∧
 (false = true → false = true ∧ false = true ∧ false = true) ∧
 (false = false →
 false = false ∧
 false = false ∧
 ((refS (List.take (13 : Nat) x) t).snd = (0 : Int) →
 (refS (List.take (13 : Nat) x) t).snd = (0 : Int) ∧
 ((↑(subsetF (List.take (13 : Nat) x) t).fst.length : Int) = (0 : Int) →
 (↑(subsetF (List.take (13 : Nat) x) t).fst.length : Int) = (0 : Int) ∧
 (↑(subsetF (List.take (13 : Nat) x) t).fst.length : Int) = (0 : Int) ∧
 decide ((subsetF (List.take (13 : Nat) x) t).snd = (5 : Int)) = true) ∧
 (¬(↑(subsetF (List.take (13 : Nat) x) t).fst.length : Int) = (0 : Int) →
 ¬(↑(subsetF (List.take (13 : Nat) x) t).fst.length : Int) = (0 : Int) ∧
 ¬(↑(subsetF (List.take (13 : Nat) x) t).fst.length : Int) = (0 : Int) ∧ false = true)) ∧
 (¬(refS (List.take (13 : Nat) x) t).snd = (0 : Int) →
 ¬(refS (List.take (13 : Nat) x) t).snd = (0 : Int) ∧
 ((subsetF (List.take (13 : Nat) x) t).fst.length ≤ (1000 : Nat) ∧
 (refS (List.take (13 : Nat) x) t).fst.length ≤ (1000 : Nat)) ∧
 (decide ((subsetF (List.take (13 : Nat) x) t).fst = (refS (List.take (13 : Nat) x) t).fst) = true →
 decide ((subsetF (List.take (13 : Nat) x) t).fst = (refS (List.take (13 : Nat) x) t).fst) = true ∧
 decide ((subsetF (List.take (13 : Nat) x) t).fst = (refS (List.take (13 : Nat) x) t).fst) = true ∧
 decide ((subsetF (List.take (13 : Nat) x) t).snd = (0 : Int)) = true) ∧
 (decide ((subsetF (List.take (13 : Nat) x) t).fst = (refS (List.take (13 : Nat) x) t).fst) = false →
 decide ((subsetF (List.take (13 : Nat) x) t).fst = (refS (List.take (13 : Nat) x) t).fst) = false ∧
 decide ((subsetF (List.take (13 : Nat) x) t).fst = (refS (List.take (13 : Nat) x) t).fst) = false ∧
 false = true)))))))) := by
 kernel_rfl

theorem g8_eq (n : Int) : g8 n = (
 Fits IntKind.i64 n ∧
 ((0 : Int) ≤ n ∧ (0 : Int) < (12 : Int)) ∧
 Fits IntKind.i64 (n % (12 : Int) + (1 : Int)) ∧
 True ∧
 True ∧
 (SetF (n % (12 : Int) + (1 : Int))).fst.length ≤ (1000 : Nat) ∧
 ((SetF (n % (12 : Int) + (1 : Int))).snd = (0 : Int) →
 (SetF (n % (12 : Int) + (1 : Int))).snd = (0 : Int) ∧
 (SetF (n % (12 : Int) + (1 : Int))).snd = (0 : Int) ∧
 ((GuyF (n % (12 : Int) + (1 : Int))).snd = (0 : Int) →
 (GuyF (n % (12 : Int) + (1 : Int))).snd = (0 : Int) ∧
 (GuyF (n % (12 : Int) + (1 : Int))).snd = (0 : Int) ∧
 (GuyF (n % (12 : Int) + (1 : Int))).snd = (0 : Int) ∧
 ((distinctF (SetF (n % (12 : Int) + (1 : Int))).fst).snd = (0 : Int) →
 (distinctF (SetF (n % (12 : Int) + (1 : Int))).fst).snd = (0 : Int) ∧
 (distinctF (SetF (n % (12 : Int) + (1 : Int))).fst).snd = (0 : Int) ∧
 (distinctF (SetF (n % (12 : Int) + (1 : Int))).fst).snd = (0 : Int) ∧
 ((distinctF (SetF (n % (12 : Int) + (1 : Int))).fst).fst = true →
 (distinctF (SetF (n % (12 : Int) + (1 : Int))).fst).fst = true ∧
 (distinctF (SetF (n % (12 : Int) + (1 : Int))).fst).fst = true ∧
 (distinctF (SetF (n % (12 : Int) + (1 : Int))).fst).fst = true ∧
 (distinctF (SetF (n % (12 : Int) + (1 : Int))).fst).fst = true ∧
 (distinctF (SetF (n % (12 : Int) + (1 : Int))).fst).fst = true ∧
 ((↑(SetF (n % (12 : Int) + (1 : Int))).fst.length : Int) = n % (12 : Int) + (1 : Int) →
 (↑(SetF (n % (12 : Int) + (1 : Int))).fst.length : Int) = n % (12 : Int) + (1 : Int) ∧
 (↑(SetF (n % (12 : Int) + (1 : Int))).fst.length : Int) = n % (12 : Int) + (1 : Int) ∧
 (↑(SetF (n % (12 : Int) + (1 : Int))).fst.length : Int) = n % (12 : Int) + (1 : Int) ∧
 Fits IntKind.i64 (n % (12 : Int) + (1 : Int) - (1 : Int)) ∧
 ((0 : Int) ≤ n % (12 : Int) + (1 : Int) - (1 : Int) ∧
 n % (12 : Int) + (1 : Int) - (1 : Int) < (↑(SetF (n % (12 : Int) + (1 : Int))).fst.length : Int)) ∧
 ((SetF (n % (12 : Int) + (1 : Int))).fst.getD (n % (12 : Int) + (1 : Int) - (1 : Int)).toNat (0 : Int) =
 (GuyF (n % (12 : Int) + (1 : Int))).fst →
 (SetF (n % (12 : Int) + (1 : Int))).fst.getD (n % (12 : Int) + (1 : Int) - (1 : Int)).toNat (0 : Int) =
 (GuyF (n % (12 : Int) + (1 : Int))).fst ∧
 (SetF (n % (12 : Int) + (1 : Int))).fst.getD (n % (12 : Int) + (1 : Int) - (1 : Int)).toNat (0 : Int) =
 (GuyF (n % (12 : Int) + (1 : Int))).fst ∧
 (SetF (n % (12 : Int) + (1 : Int))).fst.getD (n % (12 : Int) + (1 : Int) - (1 : Int)).toNat (0 : Int) =
 (GuyF (n % (12 : Int) + (1 : Int))).fst ∧
 Fits IntKind.i64 (n % (12 : Int) + (1 : Int) - (1 : Int)) ∧
 ((0 : Int) ≤ n % (12 : Int) + (1 : Int) - (1 : Int) ∧
 n % (12 : Int) + (1 : Int) - (1 : Int) < (64 : Int)) ∧
 Fits IntKind.i64 ((1 : Int) * (2 : Int) ^ (n % (12 : Int) + (1 : Int) - (1 : Int)).toNat) ∧
 ((GuyF (n % (12 : Int) + (1 : Int))).fst ≤
 (1 : Int) * (2 : Int) ^ (n % (12 : Int) + (1 : Int) - (1 : Int)).toNat →
 (GuyF (n % (12 : Int) + (1 : Int))).fst ≤
 (1 : Int) * (2 : Int) ^ (n % (12 : Int) + (1 : Int) - (1 : Int)).toNat ∧
 (GuyF (n % (12 : Int) + (1 : Int))).fst ≤
 (1 : Int) * (2 : Int) ^ (n % (12 : Int) + (1 : Int) - (1 : Int)).toNat ∧
 (GuyF (n % (12 : Int) + (1 : Int))).fst ≤
 (1 : Int) * (2 : Int) ^ (n % (12 : Int) + (1 : Int) - (1 : Int)).toNat ∧
 ((SetF (n % (12 : Int) + (1 : Int))).fst.length ≤ (12 : Nat) ∧
 ∀ (v : Int),
 v ∈ (SetF (n % (12 : Int) + (1 : Int))).fst →
 (1 : Int) ≤ v ∧ v ≤ (1000000 : Int)) ∧
 (distF (SetF (n % (12 : Int) + (1 : Int))).fst = true →
 distF (SetF (n % (12 : Int) + (1 : Int))).fst = true ∧
 distF (SetF (n % (12 : Int) + (1 : Int))).fst = true ∧
 distF (SetF (n % (12 : Int) + (1 : Int))).fst = true ∧ True ∧ true = true) ∧
 (distF (SetF (n % (12 : Int) + (1 : Int))).fst = false →
 distF (SetF (n % (12 : Int) + (1 : Int))).fst = false ∧
 distF (SetF (n % (12 : Int) + (1 : Int))).fst = false ∧
 distF (SetF (n % (12 : Int) + (1 : Int))).fst = false ∧ false = true)) ∧
 (¬(GuyF (n % (12 : Int) + (1 : Int))).fst ≤
 (1 : Int) * (2 : Int) ^ (n % (12 : Int) + (1 : Int) - (1 : Int)).toNat →
 ¬(GuyF (n % (12 : Int) + (1 : Int))).fst ≤
 (1 : Int) * (2 : Int) ^ (n % (12 : Int) + (1 : Int) - (1 : Int)).toNat ∧
 ¬(GuyF (n % (12 : Int) + (1 : Int))).fst ≤
 (1 : Int) * (2 : Int) ^ (n % (12 : Int) + (1 : Int) - (1 : Int)).toNat ∧
 ¬(GuyF (n % (12 : Int) + (1 : Int))).fst ≤
 (1 : Int) * (2 : Int) ^ (n % (12 : Int) + (1 : Int) - (1 : Int)).toNat ∧
 false = true)) ∧
 (¬(SetF (n % (12 : Int) + (1 : Int))).fst.getD (n % (12 : Int) + (1 : Int) - (1 : Int)).toNat (0 : Int) =
 (GuyF (n % (12 : Int) + (1 : Int))).fst →
 ¬(SetF (n % (12 : Int) + (1 : Int))).fst.getD (n % (12 : Int) + (1 : Int) - (1 : Int)).toNat (0 : Int) =
 (GuyF (n % (12 : Int) + (1 : Int))).fst ∧
 ¬(SetF (n % (12 : Int) + (1 : Int))).fst.getD (n % (12 : Int) + (1 : Int) - (1 : Int)).toNat (0 : Int) =
 (GuyF (n % (12 : Int) + (1 : Int))).fst ∧
 ¬(SetF (n % (12 : Int) + (1 : Int))).fst.getD (n % (12 : Int) + (1 : Int) - (1 : Int)).toNat (0 : Int) =
 (GuyF (n % (12 : Int) + (1 : Int))).fst ∧
 false = true)) ∧
 (¬(↑(SetF (n % (12 : Int) + (1 : Int))).fst.length : Int) = n % (12 : Int) + (1 : Int) →
 ¬(↑(SetF (n % (12 : Int) + (1 : Int))).fst.length : Int) = n % (12 : Int) + (1 : Int) ∧
 ¬(↑(SetF (n % (12 : Int) + (1 : Int))).fst.length : Int) = n % (12 : Int) + (1 : Int) ∧
 ¬(↑(SetF (n % (12 : Int) + (1 : Int))).fst.length : Int) = n % (12 : Int) + (1 : Int) ∧ false = true)) ∧
 ((distinctF (SetF (n % (12 : Int) + (1 : Int))).fst).fst = false →
 (distinctF (SetF (n % (12 : Int) + (1 : Int))).fst).fst = false ∧
 (distinctF (SetF (n % (12 : Int) + (1 : Int))).fst).fst = false ∧
 (distinctF (SetF (n % (12 : Int) + (1 : Int))).fst).fst = false ∧
 (distinctF (SetF (n % (12 : Int) + (1 : Int))).fst).fst = false ∧
 (distinctF (SetF (n % (12 : Int) + (1 : Int))).fst).fst = false ∧ false = true)) ∧
 (¬(distinctF (SetF (n % (12 : Int) + (1 : Int))).fst).snd = (0 : Int) →
 ¬(distinctF (SetF (n % (12 : Int) + (1 : Int))).fst).snd = (0 : Int) ∧
 ¬(distinctF (SetF (n % (12 : Int) + (1 : Int))).fst).snd = (0 : Int) ∧
 ¬(distinctF (SetF (n % (12 : Int) + (1 : Int))).fst).snd = (0 : Int) ∧ false = true)) ∧
 (¬(GuyF (n % (12 : Int) + (1 : Int))).snd = (0 : Int) →
 ¬(GuyF (n % (12 : Int) + (1 : Int))).snd = (0 : Int) ∧
 ¬(GuyF (n % (12 : Int) + (1 : Int))).snd = (0 : Int) ∧ ¬(GuyF (n % (12 : Int) + (1 : Int))).snd = (0 : Int) ∧ false = true)) ∧
 (¬(SetF (n % (12 : Int) + (1 : Int))).snd = (0 : Int) →
 ¬(SetF (n % (12 : Int) + (1 : Int))).snd = (0 : Int) ∧ ¬(SetF (n % (12 : Int) + (1 : Int))).snd = (0 : Int) ∧ false = true)) := by
 kernel_rfl

theorem g26_eq (w : List Int) (t : Int) (x : List Int) : g26 w t x = (
 (∃ (x0 : Nat), x.length + x0 ≤ w.length ∧ True ∧ (0 : Int) = restK w x.length x0 ∧ (↑x.length : Int) = (↑(x.length + x0) : Int) ∧ w = w ∧ t = t ∧ x = x ∧ True) ∧
 ∀ (x_1 : Nat),
 x.length + x_1 ≤ w.length →
 ((↑(x.length + x_1) : Int) < (↑w.length : Int) →
 (↑(x.length + x_1) : Int) < (↑w.length : Int) ∧
 ((0 : Int) ≤ (↑(x.length + x_1) : Int) ∧ (↑(x.length + x_1) : Int) < (↑w.length : Int)) ∧
 Fits IntKind.i64 (restK w x.length x_1 + w.getD (↑(x.length + x_1) : Int).toNat (0 : Int)) ∧
 Fits IntKind.i64 ((↑(x.length + x_1) : Int) + (1 : Int)) ∧
 ∃ (x' : Nat),
 x.length + x' ≤ w.length ∧
 w.length - x' < w.length - x_1 ∧
 True ∧
 restK w x.length x_1 + w.getD (↑(x.length + x_1) : Int).toNat (0 : Int) = restK w x.length x' ∧
 (↑(x.length + x_1) : Int) + (1 : Int) = (↑(x.length + x') : Int) ∧ w = w ∧ t = t ∧ x = x ∧ True) ∧
 (¬(↑(x.length + x_1) : Int) < (↑w.length : Int) →
 ¬(↑(x.length + x_1) : Int) < (↑w.length : Int) ∧
 (restK w x.length x_1 < t → restK w x.length x_1 < t ∧ restK w x.length x_1 < t ∧ pansR w (w.length - x.length) t x = none) ∧
 (¬restK w x.length x_1 < t →
 ¬restK w x.length x_1 < t ∧
 ¬restK w x.length x_1 < t ∧
 Fits IntKind.i64 ((0 : Int) - restK w x.length x_1) ∧
 (t < (0 : Int) - restK w x.length x_1 →
 t < (0 : Int) - restK w x.length x_1 ∧ t < (0 : Int) - restK w x.length x_1 ∧ pansR w (w.length - x.length) t x = none) ∧
 (¬t < (0 : Int) - restK w x.length x_1 →
 ¬t < (0 : Int) - restK w x.length x_1 ∧
 ¬t < (0 : Int) - restK w x.length x_1 ∧
 ((↑x.length : Int) = (↑w.length : Int) → (↑x.length : Int) = (↑w.length : Int) ∧ pansR w (w.length - x.length) t x = some x) ∧
 (¬(↑x.length : Int) = (↑w.length : Int) →
 ¬(↑x.length : Int) = (↑w.length : Int) ∧
 (∃ (x0 : Nat),
 (x0 ≤ (3 : Nat) ∧ pansR w (w.length - x.length) t x = altR w (w.length - x.length - (1 : Nat)) t x x0) ∧
 True ∧ (1 : Int) = (↑x0 : Int) - (2 : Int) ∧ w = w ∧ t = t ∧ x = x ∧ True) ∧
 ∀ (x_2 : Nat),
 x_2 ≤ (3 : Nat) ∧ pansR w (w.length - x.length) t x = altR w (w.length - x.length - (1 : Nat)) t x x_2 →
 ((-1 : Int) ≤ (↑x_2 : Int) - (2 : Int) →
 (-1 : Int) ≤ (↑x_2 : Int) - (2 : Int) ∧
 ((0 : Int) ≤ (↑x.length : Int) ∧ (↑x.length : Int) < (↑w.length : Int)) ∧
 (Fits IntKind.i64 (((↑x_2 : Int) - (2 : Int)) * w.getD (↑x.length : Int).toNat (0 : Int)) ∧
 Fits IntKind.i64 (t - ((↑x_2 : Int) - (2 : Int)) * w.getD (↑x.length : Int).toNat (0 : Int)) ∧
 ((Small ((0 : Nat) + x.length) ∧
 Small (x.length + ((0 : Nat) + (1 : Nat))) ∧
 ((Wts w ∧
 w.length ≤ (9 : Nat) ∧
 Fits IntKind.i64 (t - ((↑x_2 : Int) - (2 : Int)) * w.getD (↑x.length : Int).toNat (0 : Int)) ∧
 (x ++ [(↑x_2 : Int) - (2 : Int)]).length ≤ w.length) ∧
 m26
 (w, t - ((↑x_2 : Int) - (2 : Int)) * w.getD (↑x.length : Int).toNat (0 : Int),
 x ++ [(↑x_2 : Int) - (2 : Int)]) <
 m26 (w, t, x)) ∧
 (pansR w (w.length - (x ++ [(↑x_2 : Int) - (2 : Int)]).length)
 (t - ((↑x_2 : Int) - (2 : Int)) * w.getD (↑x.length : Int).toNat (0 : Int))
 (x ++ [(↑x_2 : Int) - (2 : Int)]) =
 none →
 Fits IntKind.i64 ((↑x_2 : Int) - (2 : Int) - (1 : Int)) ∧
 ∃ (x' : Nat),
 (x' ≤ (3 : Nat) ∧ pansR w (w.length - x.length) t x = altR w (w.length - x.length - (1 : Nat)) t x x') ∧
 x' < x_2 ∧
 True ∧
 (↑x_2 : Int) - (2 : Int) - (1 : Int) = (↑x' : Int) - (2 : Int) ∧ w = w ∧ t = t ∧ x = x ∧ True) ∧
 ∀ (ys : List Int),
 pansR w (w.length - (x ++ [(↑x_2 : Int) - (2 : Int)]).length)
 (t - ((↑x_2 : Int) - (2 : Int)) * w.getD (↑x.length : Int).toNat (0 : Int))
 (x ++ [(↑x_2 : Int) - (2 : Int)]) =
 some ys →
 ys ≠ [] ∧ pansR w (w.length - x.length) t x = some ys) ∧
 Small ((0 : Nat) + x.length) ∧
 Small (x.length + ((0 : Nat) + (1 : Nat))) ∧
 ((Wts w ∧
 w.length ≤ (9 : Nat) ∧
 Fits IntKind.i64 (t - ((↑x_2 : Int) - (2 : Int)) * w.getD (↑x.length : Int).toNat (0 : Int)) ∧
 (x ++ [(↑x_2 : Int) - (2 : Int)]).length ≤ w.length) ∧
 m26
 (w, t - ((↑x_2 : Int) - (2 : Int)) * w.getD (↑x.length : Int).toNat (0 : Int),
 x ++ [(↑x_2 : Int) - (2 : Int)]) <
 m26 (w, t, x)) ∧
 (pansR w (w.length - (x ++ [(↑x_2 : Int) - (2 : Int)]).length)
 (t - ((↑x_2 : Int) - (2 : Int)) * w.getD (↑x.length : Int).toNat (0 : Int))
 (x ++ [(↑x_2 : Int) - (2 : Int)]) =
 none →
 Fits IntKind.i64 ((↑x_2 : Int) - (2 : Int) - (1 : Int)) ∧
 ∃ (x' : Nat),
 (x' ≤ (3 : Nat) ∧ pansR w (w.length - x.length) t x = altR w (w.length - x.length - (1 : Nat)) t x x') ∧
 x' < x_2 ∧
 True ∧
 (↑x_2 : Int) - (2 : Int) - (1 : Int) = (↑x' : Int) - (2 : Int) ∧ w = w ∧ t = t ∧ x = x ∧ True) ∧
 ∀ (ys : List Int),
 pansR w (w.length - (x ++ [(↑x_2 : Int) - (2 : Int)]).length)
 (t - ((↑x_2 : Int) - (2 : Int)) * w.getD (↑x.length : Int).toNat (0 : Int))
 (x ++ [(↑x_2 : Int) - (2 : Int)]) =
 some ys →
 ys ≠ [] ∧ pansR w (w.length - x.length) t x = some ys) ∧
 Small ((0 : Nat) + x.length) ∧
 Small (x.length + ((0 : Nat) + (1 : Nat))) ∧
 ((Wts w ∧
 w.length ≤ (9 : Nat) ∧
 Fits IntKind.i64 (t - ((↑x_2 : Int) - (2 : Int)) * w.getD (↑x.length : Int).toNat (0 : Int)) ∧
 (x ++ [(↑x_2 : Int) - (2 : Int)]).length ≤ w.length) ∧
 m26
 (w, t - ((↑x_2 : Int) - (2 : Int)) * w.getD (↑x.length : Int).toNat (0 : Int),
 x ++ [(↑x_2 : Int) - (2 : Int)]) <
 m26 (w, t, x)) ∧
 (pansR w (w.length - (x ++ [(↑x_2 : Int) - (2 : Int)]).length)
 (t - ((↑x_2 : Int) - (2 : Int)) * w.getD (↑x.length : Int).toNat (0 : Int))
 (x ++ [(↑x_2 : Int) - (2 : Int)]) =
 none →
 Fits IntKind.i64 ((↑x_2 : Int) - (2 : Int) - (1 : Int)) ∧
 ∃ (x' : Nat),
 (x' ≤ (3 : Nat) ∧ pansR w (w.length - x.length) t x = altR w (w.length - x.length - (1 : Nat)) t x x') ∧
 x' < x_2 ∧
 True ∧ (↑x_2 : Int) - (2 : Int) - (1 : Int) = (↑x' : Int) - (2 : Int) ∧ w = w ∧ t = t ∧ x = x ∧ True) ∧
 ∀ (ys : List Int),
 pansR w (w.length - (x ++ [(↑x_2 : Int) - (2 : Int)]).length)
 (t - ((↑x_2 : Int) - (2 : Int)) * w.getD (↑x.length : Int).toNat (0 : Int))
 (x ++ [(↑x_2 : Int) - (2 : Int)]) =
 some ys →
 ys ≠ [] ∧ pansR w (w.length - x.length) t x = some ys) ∧
 ((Fits IntKind.i64 (((↑x_2 : Int) - (2 : Int)) * w.getD (↑x.length : Int).toNat (0 : Int)) ∧
 Fits IntKind.i64 (t - ((↑x_2 : Int) - (2 : Int)) * w.getD (↑x.length : Int).toNat (0 : Int)) ∧
 (Small ((0 : Nat) + x.length) ∧
 Small (x.length + ((0 : Nat) + (1 : Nat))) ∧
 ((Wts w ∧
 w.length ≤ (9 : Nat) ∧
 Fits IntKind.i64 (t - ((↑x_2 : Int) - (2 : Int)) * w.getD (↑x.length : Int).toNat (0 : Int)) ∧
 (x ++ [(↑x_2 : Int) - (2 : Int)]).length ≤ w.length) ∧
 m26
 (w, t - ((↑x_2 : Int) - (2 : Int)) * w.getD (↑x.length : Int).toNat (0 : Int),
 x ++ [(↑x_2 : Int) - (2 : Int)]) <
 m26 (w, t, x)) ∧
 (pansR w (w.length - (x ++ [(↑x_2 : Int) - (2 : Int)]).length)
 (t - ((↑x_2 : Int) - (2 : Int)) * w.getD (↑x.length : Int).toNat (0 : Int))
 (x ++ [(↑x_2 : Int) - (2 : Int)]) =
 none →
 Fits IntKind.i64 ((↑x_2 : Int) - (2 : Int) - (1 : Int)) ∧
 ∃ (x' : Nat),
 (x' ≤ (3 : Nat) ∧ pansR w (w.length - x.length) t x = altR w (w.length - x.length - (1 : Nat)) t x x') ∧
 x' < x_2 ∧
 True ∧
 (↑x_2 : Int) - (2 : Int) - (1 : Int) = (↑x' : Int) - (2 : Int) ∧ w = w ∧ t = t ∧ x = x ∧ True) ∧
 ∀ (ys : List Int),
 pansR w (w.length - (x ++ [(↑x_2 : Int) - (2 : Int)]).length)
 (t - ((↑x_2 : Int) - (2 : Int)) * w.getD (↑x.length : Int).toNat (0 : Int))
 (x ++ [(↑x_2 : Int) - (2 : Int)]) =
 some ys →
 ys ≠ [] ∧ pansR w (w.length - x.length) t x = some ys) ∧
 Small ((0 : Nat) + x.length) ∧
 Small (x.length + ((0 : Nat) + (1 : Nat))) ∧
 ((Wts w ∧
 w.length ≤ (9 : Nat) ∧
 Fits IntKind.i64 (t - ((↑x_2 : Int) - (2 : Int)) * w.getD (↑x.length : Int).toNat (0 : Int)) ∧
 (x ++ [(↑x_2 : Int) - (2 : Int)]).length ≤ w.length) ∧
 m26
 (w, t - ((↑x_2 : Int) - (2 : Int)) * w.getD (↑x.length : Int).toNat (0 : Int),
 x ++ [(↑x_2 : Int) - (2 : Int)]) <
 m26 (w, t, x)) ∧
 (pansR w (w.length - (x ++ [(↑x_2 : Int) - (2 : Int)]).length)
 (t - ((↑x_2 : Int) - (2 : Int)) * w.getD (↑x.length : Int).toNat (0 : Int))
 (x ++ [(↑x_2 : Int) - (2 : Int)]) =
 none →
 Fits IntKind.i64 ((↑x_2 : Int) - (2 : Int) - (1 : Int)) ∧
 ∃ (x' : Nat),
 (x' ≤ (3 : Nat) ∧ pansR w (w.length - x.length) t x = altR w (w.length - x.length - (1 : Nat)) t x x') ∧
 x' < x_2 ∧
 True ∧
 (↑x_2 : Int) - (2 : Int) - (1 : Int) = (↑x' : Int) - (2 : Int) ∧ w = w ∧ t = t ∧ x = x ∧ True) ∧
 ∀ (ys : List Int),
 pansR w (w.length - (x ++ [(↑x_2 : Int) - (2 : Int)]).length)
 (t - ((↑x_2 : Int) - (2 : Int)) * w.getD (↑x.length : Int).toNat (0 : Int))
 (x ++ [(↑x_2 : Int) - (2 : Int)]) =
 some ys →
 ys ≠ [] ∧ pansR w (w.length - x.length) t x = some ys) ∧
 (Small ((0 : Nat) + x.length) ∧
 (Fits IntKind.i64 (((↑x_2 : Int) - (2 : Int)) * w.getD (↑x.length : Int).toNat (0 : Int)) ∧
 Fits IntKind.i64 (t - ((↑x_2 : Int) - (2 : Int)) * w.getD (↑x.length : Int).toNat (0 : Int)) ∧
 Small (x.length + ((0 : Nat) + (1 : Nat))) ∧
 ((Wts w ∧
 w.length ≤ (9 : Nat) ∧
 Fits IntKind.i64 (t - ((↑x_2 : Int) - (2 : Int)) * w.getD (↑x.length : Int).toNat (0 : Int)) ∧
 (x ++ [(↑x_2 : Int) - (2 : Int)]).length ≤ w.length) ∧
 m26
 (w, t - ((↑x_2 : Int) - (2 : Int)) * w.getD (↑x.length : Int).toNat (0 : Int),
 x ++ [(↑x_2 : Int) - (2 : Int)]) <
 m26 (w, t, x)) ∧
 (pansR w (w.length - (x ++ [(↑x_2 : Int) - (2 : Int)]).length)
 (t - ((↑x_2 : Int) - (2 : Int)) * w.getD (↑x.length : Int).toNat (0 : Int))
 (x ++ [(↑x_2 : Int) - (2 : Int)]) =
 none →
 Fits IntKind.i64 ((↑x_2 : Int) - (2 : Int) - (1 : Int)) ∧
 ∃ (x' : Nat),
 (x' ≤ (3 : Nat) ∧
 pansR w (w.length - x.length) t x = altR w (w.length - x.length - (1 : Nat)) t x x') ∧
 x' < x_2 ∧
 True ∧
 (↑x_2 : Int) - (2 : Int) - (1 : Int) = (↑x' : Int) - (2 : Int) ∧ w = w ∧ t = t ∧ x = x ∧ True) ∧
 ∀ (ys : List Int),
 pansR w (w.length - (x ++ [(↑x_2 : Int) - (2 : Int)]).length)
 (t - ((↑x_2 : Int) - (2 : Int)) * w.getD (↑x.length : Int).toNat (0 : Int))
 (x ++ [(↑x_2 : Int) - (2 : Int)]) =
 some ys →
 ys ≠ [] ∧ pansR w (w.length - x.length) t x = some ys) ∧
 (Fits IntKind.i64 (((↑x_2 : Int) - (2 : Int)) * w.getD (↑x.length : Int).toNat (0 : Int)) ∧
 Fits IntKind.i64 (t - ((↑x_2 : Int) - (2 : Int)) * w.getD (↑x.length : Int).toNat (0 : Int)) ∧
 Small (x.length + ((0 : Nat) + (1 : Nat))) ∧
 ((Wts w ∧
 w.length ≤ (9 : Nat) ∧
 Fits IntKind.i64 (t - ((↑x_2 : Int) - (2 : Int)) * w.getD (↑x.length : Int).toNat (0 : Int)) ∧
 (x ++ [(↑x_2 : Int) - (2 : Int)]).length ≤ w.length) ∧
 m26
 (w, t - ((↑x_2 : Int) - (2 : Int)) * w.getD (↑x.length : Int).toNat (0 : Int),
 x ++ [(↑x_2 : Int) - (2 : Int)]) <
 m26 (w, t, x)) ∧
 (pansR w (w.length - (x ++ [(↑x_2 : Int) - (2 : Int)]).length)
 (t - ((↑x_2 : Int) - (2 : Int)) * w.getD (↑x.length : Int).toNat (0 : Int))
 (x ++ [(↑x_2 : Int) - (2 : Int)]) =
 none →
 Fits IntKind.i64 ((↑x_2 : Int) - (2 : Int) - (1 : Int)) ∧
 ∃ (x' : Nat),
 (x' ≤ (3 : Nat) ∧
 pansR w (w.length - x.length) t x = altR w (w.length - x.length - (1 : Nat)) t x x') ∧
 x' < x_2 ∧
 True ∧
 (↑x_2 : Int) - (2 : Int) - (1 : Int) = (↑x' : Int) - (2 : Int) ∧
 w = w ∧ t = t ∧ x = x ∧ True) ∧
 ∀ (ys : List Int),
 pansR w (w.length - (x ++ [(↑x_2 : Int) - (2 : Int)]).length)
 (t - ((↑x_2 : Int) - (2 : Int)) * w.getD (↑x.length : Int).toNat (0 : Int))
 (x ++ [(↑x_2 : Int) - (2 : Int)]) =
 some ys →
 ys ≠ [] ∧ pansR w (w.length - x.length) t x = some ys) ∧
 Small (x.length + ((0 : Nat) + (1 : Nat))) ∧
 Fits IntKind.i64 (((↑x_2 : Int) - (2 : Int)) * w.getD (↑x.length : Int).toNat (0 : Int)) ∧
 Fits IntKind.i64 (t - ((↑x_2 : Int) - (2 : Int)) * w.getD (↑x.length : Int).toNat (0 : Int)) ∧
 ((Wts w ∧
 w.length ≤ (9 : Nat) ∧
 Fits IntKind.i64 (t - ((↑x_2 : Int) - (2 : Int)) * w.getD (↑x.length : Int).toNat (0 : Int)) ∧
 (x ++ [(↑x_2 : Int) - (2 : Int)]).length ≤ w.length) ∧
 m26
 (w, t - ((↑x_2 : Int) - (2 : Int)) * w.getD (↑x.length : Int).toNat (0 : Int),
 x ++ [(↑x_2 : Int) - (2 : Int)]) <
 m26 (w, t, x)) ∧
 (pansR w (w.length - (x ++ [(↑x_2 : Int) - (2 : Int)]).length)
 (t - ((↑x_2 : Int) - (2 : Int)) * w.getD (↑x.length : Int).toNat (0 : Int))
 (x ++ [(↑x_2 : Int) - (2 : Int)]) =
 none →
 Fits IntKind.i64 ((↑x_2 : Int) - (2 : Int) - (1 : Int)) ∧
 ∃ (x' : Nat),
 (x' ≤ (3 : Nat) ∧
 pansR w (w.length - x.length) t x = altR w (w.length - x.length - (1 : Nat)) t x x') ∧
 x' < x_2 ∧
 True ∧
 (↑x_2 : Int) - (2 : Int) - (1 : Int) = (↑x' : Int) - (2 : Int) ∧
 w = w ∧ t = t ∧ x = x ∧ True) ∧
 ∀ (ys : List Int),
 pansR w (w.length - (x ++ [(↑x_2 : Int) - (2 : Int)]).length)
 (t - ((↑x_2 : Int) - (2 : Int)) * w.getD (↑x.length : Int).toNat (0 : Int))
 (x ++ [(↑x_2 : Int) - (2 : Int)]) =
 some ys →
 ys ≠ [] ∧ pansR w (w.length - x.length) t x = some ys) ∧
 (Fits IntKind.i64 (((↑x_2 : Int) - (2 : Int)) * w.getD (↑x.length : Int).toNat (0 : Int)) ∧
 Fits IntKind.i64 (t - ((↑x_2 : Int) - (2 : Int)) * w.getD (↑x.length : Int).toNat (0 : Int)) ∧
 Small ((0 : Nat) + x.length) ∧
 Small (x.length + ((0 : Nat) + (1 : Nat))) ∧
 ((Wts w ∧
 w.length ≤ (9 : Nat) ∧
 Fits IntKind.i64 (t - ((↑x_2 : Int) - (2 : Int)) * w.getD (↑x.length : Int).toNat (0 : Int)) ∧
 (x ++ [(↑x_2 : Int) - (2 : Int)]).length ≤ w.length) ∧
 m26
 (w, t - ((↑x_2 : Int) - (2 : Int)) * w.getD (↑x.length : Int).toNat (0 : Int),
 x ++ [(↑x_2 : Int) - (2 : Int)]) <
 m26 (w, t, x)) ∧
 (pansR w (w.length - (x ++ [(↑x_2 : Int) - (2 : Int)]).length)
 (t - ((↑x_2 : Int) - (2 : Int)) * w.getD (↑x.length : Int).toNat (0 : Int))
 (x ++ [(↑x_2 : Int) - (2 : Int)]) =
 none →
 Fits IntKind.i64 ((↑x_2 : Int) - (2 : Int) - (1 : Int)) ∧
 ∃ (x' : Nat),
 (x' ≤ (3 : Nat) ∧
 pansR w (w.length - x.length) t x = altR w (w.length - x.length - (1 : Nat)) t x x') ∧
 x' < x_2 ∧
 True ∧
 (↑x_2 : Int) - (2 : Int) - (1 : Int) = (↑x' : Int) - (2 : Int) ∧ w = w ∧ t = t ∧ x = x ∧ True) ∧
 ∀ (ys : List Int),
 pansR w (w.length - (x ++ [(↑x_2 : Int) - (2 : Int)]).length)
 (t - ((↑x_2 : Int) - (2 : Int)) * w.getD (↑x.length : Int).toNat (0 : Int))
 (x ++ [(↑x_2 : Int) - (2 : Int)]) =
 some ys →
 ys ≠ [] ∧ pansR w (w.length - x.length) t x = some ys) ∧
 Small ((0 : Nat) + x.length) ∧
 (Fits IntKind.i64 (((↑x_2 : Int) - (2 : Int)) * w.getD (↑x.length : Int).toNat (0 : Int)) ∧
 Fits IntKind.i64 (t - ((↑x_2 : Int) - (2 : Int)) * w.getD (↑x.length : Int).toNat (0 : Int)) ∧
 Small (x.length + ((0 : Nat) + (1 : Nat))) ∧
 ((Wts w ∧
 w.length ≤ (9 : Nat) ∧
 Fits IntKind.i64 (t - ((↑x_2 : Int) - (2 : Int)) * w.getD (↑x.length : Int).toNat (0 : Int)) ∧
 (x ++ [(↑x_2 : Int) - (2 : Int)]).length ≤ w.length) ∧
 m26
 (w, t - ((↑x_2 : Int) - (2 : Int)) * w.getD (↑x.length : Int).toNat (0 : Int),
 x ++ [(↑x_2 : Int) - (2 : Int)]) <
 m26 (w, t, x)) ∧
 (pansR w (w.length - (x ++ [(↑x_2 : Int) - (2 : Int)]).length)
 (t - ((↑x_2 : Int) - (2 : Int)) * w.getD (↑x.length : Int).toNat (0 : Int))
 (x ++ [(↑x_2 : Int) - (2 : Int)]) =
 none →
 Fits IntKind.i64 ((↑x_2 : Int) - (2 : Int) - (1 : Int)) ∧
 ∃ (x' : Nat),
 (x' ≤ (3 : Nat) ∧
 pansR w (w.length - x.length) t x = altR w (w.length - x.length - (1 : Nat)) t x x') ∧
 x' < x_2 ∧
 True ∧
 (↑x_2 : Int) - (2 : Int) - (1 : Int) = (↑x' : Int) - (2 : Int) ∧
 w = w ∧ t = t ∧ x = x ∧ True) ∧
 ∀ (ys : List Int),
 pansR w (w.length - (x ++ [(↑x_2 : Int) - (2 : Int)]).length)
 (t - ((↑x_2 : Int) - (2 : Int)) * w.getD (↑x.length : Int).toNat (0 : Int))
 (x ++ [(↑x_2 : Int) - (2 : Int)]) =
 some ys →
 ys ≠ [] ∧ pansR w (w.length - x.length) t x = some ys) ∧
 Small (x.length + ((0 : Nat) + (1 : Nat))) ∧
 Fits IntKind.i64 (((↑x_2 : Int) - (2 : Int)) * w.getD (↑x.length : Int).toNat (0 : Int)) ∧
 Fits IntKind.i64 (t - ((↑x_2 : Int) - (2 : Int)) * w.getD (↑x.length : Int).toNat (0 : Int)) ∧
 ((Wts w ∧
 w.length ≤ (9 : Nat) ∧
 Fits IntKind.i64 (t - ((↑x_2 : Int) - (2 : Int)) * w.getD (↑x.length : Int).toNat (0 : Int)) ∧
 (x ++ [(↑x_2 : Int) - (2 : Int)]).length ≤ w.length) ∧
 m26
 (w, t - ((↑x_2 : Int) - (2 : Int)) * w.getD (↑x.length : Int).toNat (0 : Int),
 x ++ [(↑x_2 : Int) - (2 : Int)]) <
 m26 (w, t, x)) ∧
 (pansR w (w.length - (x ++ [(↑x_2 : Int) - (2 : Int)]).length)
 (t - ((↑x_2 : Int) - (2 : Int)) * w.getD (↑x.length : Int).toNat (0 : Int))
 (x ++ [(↑x_2 : Int) - (2 : Int)]) =
 none →
 Fits IntKind.i64 ((↑x_2 : Int) - (2 : Int) - (1 : Int)) ∧
 ∃ (x' : Nat),
 (x' ≤ (3 : Nat) ∧
 pansR w (w.length - x.length) t x = altR w (w.length - x.length - (1 : Nat)) t x x') ∧
 x' < x_2 ∧
 True ∧
 (↑x_2 : Int) - (2 : Int) - (1 : Int) = (↑x' : Int) - (2 : Int) ∧
 w = w ∧ t = t ∧ x = x ∧ True) ∧
 ∀ (ys : List Int),
 pansR w (w.length - (x ++ [(↑x_2 : Int) - (2 : Int)]).length)
 (t - ((↑x_2 : Int) - (2 : Int)) * w.getD (↑x.length : Int).toNat (0 : Int))
 (x ++ [(↑x_2 : Int) - (2 : Int)]) =
 some ys →
 ys ≠ [] ∧ pansR w (w.length - x.length) t x = some ys) ∧
 (Fits IntKind.i64 (((↑x_2 : Int) - (2 : Int)) * w.getD (↑x.length : Int).toNat (0 : Int)) ∧
 Fits IntKind.i64 (t - ((↑x_2 : Int) - (2 : Int)) * w.getD (↑x.length : Int).toNat (0 : Int)) ∧
 Small ((0 : Nat) + x.length) ∧
 Small (x.length + ((0 : Nat) + (1 : Nat))) ∧
 ((Wts w ∧
 w.length ≤ (9 : Nat) ∧
 Fits IntKind.i64 (t - ((↑x_2 : Int) - (2 : Int)) * w.getD (↑x.length : Int).toNat (0 : Int)) ∧
 (x ++ [(↑x_2 : Int) - (2 : Int)]).length ≤ w.length) ∧
 m26
 (w, t - ((↑x_2 : Int) - (2 : Int)) * w.getD (↑x.length : Int).toNat (0 : Int),
 x ++ [(↑x_2 : Int) - (2 : Int)]) <
 m26 (w, t, x)) ∧
 (pansR w (w.length - (x ++ [(↑x_2 : Int) - (2 : Int)]).length)
 (t - ((↑x_2 : Int) - (2 : Int)) * w.getD (↑x.length : Int).toNat (0 : Int))
 (x ++ [(↑x_2 : Int) - (2 : Int)]) =
 none →
 Fits IntKind.i64 ((↑x_2 : Int) - (2 : Int) - (1 : Int)) ∧
 ∃ (x' : Nat),
 (x' ≤ (3 : Nat) ∧ pansR w (w.length - x.length) t x = altR w (w.length - x.length - (1 : Nat)) t x x') ∧
 x' < x_2 ∧
 True ∧
 (↑x_2 : Int) - (2 : Int) - (1 : Int) = (↑x' : Int) - (2 : Int) ∧ w = w ∧ t = t ∧ x = x ∧ True) ∧
 ∀ (ys : List Int),
 pansR w (w.length - (x ++ [(↑x_2 : Int) - (2 : Int)]).length)
 (t - ((↑x_2 : Int) - (2 : Int)) * w.getD (↑x.length : Int).toNat (0 : Int))
 (x ++ [(↑x_2 : Int) - (2 : Int)]) =
 some ys →
 ys ≠ [] ∧ pansR w (w.length - x.length) t x = some ys) ∧
 (Fits IntKind.i64 (((↑x_2 : Int) - (2 : Int)) * w.getD (↑x.length : Int).toNat (0 : Int)) ∧
 Fits IntKind.i64 (t - ((↑x_2 : Int) - (2 : Int)) * w.getD (↑x.length : Int).toNat (0 : Int)) ∧
 Small ((0 : Nat) + x.length) ∧
 Small (x.length + ((0 : Nat) + (1 : Nat))) ∧
 ((Wts w ∧
 w.length ≤ (9 : Nat) ∧
 Fits IntKind.i64 (t - ((↑x_2 : Int) - (2 : Int)) * w.getD (↑x.length : Int).toNat (0 : Int)) ∧
 (x ++ [(↑x_2 : Int) - (2 : Int)]).length ≤ w.length) ∧
 m26
 (w, t - ((↑x_2 : Int) - (2 : Int)) * w.getD (↑x.length : Int).toNat (0 : Int),
 x ++ [(↑x_2 : Int) - (2 : Int)]) <
 m26 (w, t, x)) ∧
 (pansR w (w.length - (x ++ [(↑x_2 : Int) - (2 : Int)]).length)
 (t - ((↑x_2 : Int) - (2 : Int)) * w.getD (↑x.length : Int).toNat (0 : Int))
 (x ++ [(↑x_2 : Int) - (2 : Int)]) =
 none →
 Fits IntKind.i64 ((↑x_2 : Int) - (2 : Int) - (1 : Int)) ∧
 ∃ (x' : Nat),
 (x' ≤ (3 : Nat) ∧ pansR w (w.length - x.length) t x = altR w (w.length - x.length - (1 : Nat)) t x x') ∧
 x' < x_2 ∧
 True ∧
 (↑x_2 : Int) - (2 : Int) - (1 : Int) = (↑x' : Int) - (2 : Int) ∧ w = w ∧ t = t ∧ x = x ∧ True) ∧
 ∀ (ys : List Int),
 pansR w (w.length - (x ++ [(↑x_2 : Int) - (2 : Int)]).length)
 (t - ((↑x_2 : Int) - (2 : Int)) * w.getD (↑x.length : Int).toNat (0 : Int))
 (x ++ [(↑x_2 : Int) - (2 : Int)]) =
 some ys →
 ys ≠ [] ∧ pansR w (w.length - x.length) t x = some ys) ∧
 Small ((0 : Nat) + x.length) ∧
 (Fits IntKind.i64 (((↑x_2 : Int) - (2 : Int)) * w.getD (↑x.length : Int).toNat (0 : Int)) ∧
 Fits IntKind.i64 (t - ((↑x_2 : Int) - (2 : Int)) * w.getD (↑x.length : Int).toNat (0 : Int)) ∧
 Small (x.length + ((0 : Nat) + (1 : Nat))) ∧
 ((Wts w ∧
 w.length ≤ (9 : Nat) ∧
 Fits IntKind.i64 (t - ((↑x_2 : Int) - (2 : Int)) * w.getD (↑x.length : Int).toNat (0 : Int)) ∧
 (x ++ [(↑x_2 : Int) - (2 : Int)]).length ≤ w.length) ∧
 m26
 (w, t - ((↑x_2 : Int) - (2 : Int)) * w.getD (↑x.length : Int).toNat (0 : Int),
 x ++ [(↑x_2 : Int) - (2 : Int)]) <
 m26 (w, t, x)) ∧
 (pansR w (w.length - (x ++ [(↑x_2 : Int) - (2 : Int)]).length)
 (t - ((↑x_2 : Int) - (2 : Int)) * w.getD (↑x.length : Int).toNat (0 : Int))
 (x ++ [(↑x_2 : Int) - (2 : Int)]) =
 none →
 Fits IntKind.i64 ((↑x_2 : Int) - (2 : Int) - (1 : Int)) ∧
 ∃ (x' : Nat),
 (x' ≤ (3 : Nat) ∧
 pansR w (w.length - x.length) t x = altR w (w.length - x.length - (1 : Nat)) t x x') ∧
 x' < x_2 ∧
 True ∧
 (↑x_2 : Int) - (2 : Int) - (1 : Int) = (↑x' : Int) - (2 : Int) ∧ w = w ∧ t = t ∧ x = x ∧ True) ∧
 ∀ (ys : List Int),
 pansR w (w.length - (x ++ [(↑x_2 : Int) - (2 : Int)]).length)
 (t - ((↑x_2 : Int) - (2 : Int)) * w.getD (↑x.length : Int).toNat (0 : Int))
 (x ++ [(↑x_2 : Int) - (2 : Int)]) =
 some ys →
 ys ≠ [] ∧ pansR w (w.length - x.length) t x = some ys) ∧
 Small (x.length + ((0 : Nat) + (1 : Nat))) ∧
 Fits IntKind.i64 (((↑x_2 : Int) - (2 : Int)) * w.getD (↑x.length : Int).toNat (0 : Int)) ∧
 Fits IntKind.i64 (t - ((↑x_2 : Int) - (2 : Int)) * w.getD (↑x.length : Int).toNat (0 : Int)) ∧
 ((Wts w ∧
 w.length ≤ (9 : Nat) ∧
 Fits IntKind.i64 (t - ((↑x_2 : Int) - (2 : Int)) * w.getD (↑x.length : Int).toNat (0 : Int)) ∧
 (x ++ [(↑x_2 : Int) - (2 : Int)]).length ≤ w.length) ∧
 m26
 (w, t - ((↑x_2 : Int) - (2 : Int)) * w.getD (↑x.length : Int).toNat (0 : Int),
 x ++ [(↑x_2 : Int) - (2 : Int)]) <
 m26 (w, t, x)) ∧
 (pansR w (w.length - (x ++ [(↑x_2 : Int) - (2 : Int)]).length)
 (t - ((↑x_2 : Int) - (2 : Int)) * w.getD (↑x.length : Int).toNat (0 : Int))
 (x ++ [(↑x_2 : Int) - (2 : Int)]) =
 none →
 Fits IntKind.i64 ((↑x_2 : Int) - (2 : Int) - (1 : Int)) ∧
 ∃ (x' : Nat),
 (x' ≤ (3 : Nat) ∧
 pansR w (w.length - x.length) t x = altR w (w.length - x.length - (1 : Nat)) t x x') ∧
 x' < x_2 ∧
 True ∧
 (↑x_2 : Int) - (2 : Int) - (1 : Int) = (↑x' : Int) - (2 : Int) ∧ w = w ∧ t = t ∧ x = x ∧ True) ∧
 ∀ (ys : List Int),
 pansR w (w.length - (x ++ [(↑x_2 : Int) - (2 : Int)]).length)
 (t - ((↑x_2 : Int) - (2 : Int)) * w.getD (↑x.length : Int).toNat (0 : Int))
 (x ++ [(↑x_2 : Int) - (2 : Int)]) =
 some ys →
 ys ≠ [] ∧ pansR w (w.length - x.length) t x = some ys) ∧
 (¬(-1 : Int) ≤ (↑x_2 : Int) - (2 : Int) → ¬(-1 : Int) ≤ (↑x_2 : Int) - (2 : Int) ∧ pansR w (w.length - x.length) t x = none)))))) := by
 kernel_rfl

theorem g5_eq (x : List Int) (t : Int) : g5 x t = (
 True ∧
 ((List.take (13 : Nat) x).length ≤ (1000 : Nat) ∧ Fits IntKind.i64 t) ∧
 (List.take (13 : Nat) x).length ≤ (1000 : Nat) ∧
 (¬checkF (List.take (13 : Nat) x) (12 : Int) = (3 : Int) →
 ¬checkF (List.take (13 : Nat) x) (12 : Int) = (3 : Int) ∧
 ¬checkF (List.take (13 : Nat) x) (12 : Int) = (3 : Int) ∧
 (t < (0 : Int) →
 t < (0 : Int) ∧
 t < (0 : Int) ∧
 ((9 : Int) < (↑(List.take (13 : Nat) x).length : Int) →
 (9 : Int) < (↑(List.take (13 : Nat) x).length : Int) ∧
 (¬(3 : Int) = (0 : Int) →
 ¬(3 : Int) = (0 : Int) ∧
 ((↑(pansF (List.take (13 : Nat) x) t).fst.length : Int) = (0 : Int) →
 (↑(pansF (List.take (13 : Nat) x) t).fst.length : Int) = (0 : Int) ∧
 (↑(pansF (List.take (13 : Nat) x) t).fst.length : Int) = (0 : Int) ∧
 ((pansF (List.take (13 : Nat) x) t).snd = (3 : Int) →
 (pansF (List.take (13 : Nat) x) t).snd = (3 : Int) ∧
 (pansF (List.take (13 : Nat) x) t).snd = (3 : Int) ∧ (pansF (List.take (13 : Nat) x) t).snd = (3 : Int) ∧ True ∧ true = true) ∧
 (¬(pansF (List.take (13 : Nat) x) t).snd = (3 : Int) →
 ¬(pansF (List.take (13 : Nat) x) t).snd = (3 : Int) ∧
 ¬(pansF (List.take (13 : Nat) x) t).snd = (3 : Int) ∧ ¬(pansF (List.take (13 : Nat) x) t).snd = (3 : Int) ∧ false = true)) ∧
 (¬(↑(pansF (List.take (13 : Nat) x) t).fst.length : Int) = (0 : Int) →
 ¬(↑(pansF (List.take (13 : Nat) x) t).fst.length : Int) = (0 : Int) ∧
 ¬(↑(pansF (List.take (13 : Nat) x) t).fst.length : Int) = (0 : Int) ∧ false = true)) ∧
 (¬¬(3 : Int) = (0 : Int) →
 ¬¬(3 : Int) = (0 : Int) ∧
 (Wts (List.take (13 : Nat) x) ∧ (List.take (13 : Nat) x).length ≤ (9 : Nat) ∧ Fits IntKind.i64 t ∧ (0 : Nat) ≤ (List.take (13 : Nat) x).length) ∧
 (pansR (List.take (13 : Nat) x) ((List.take (13 : Nat) x).length - (0 : Nat)) t (nilT Int) = none →
 ((↑(pansF (List.take (13 : Nat) x) t).fst.length : Int) = (0 : Int) →
 (↑(pansF (List.take (13 : Nat) x) t).fst.length : Int) = (0 : Int) ∧
 (↑(pansF (List.take (13 : Nat) x) t).fst.length : Int) = (0 : Int) ∧
 ((pansF (List.take (13 : Nat) x) t).snd = (5 : Int) →
 (pansF (List.take (13 : Nat) x) t).snd = (5 : Int) ∧
 (pansF (List.take (13 : Nat) x) t).snd = (5 : Int) ∧
 (pansF (List.take (13 : Nat) x) t).snd = (5 : Int) ∧ True ∧ true = true) ∧
 (¬(pansF (List.take (13 : Nat) x) t).snd = (5 : Int) →
 ¬(pansF (List.take (13 : Nat) x) t).snd = (5 : Int) ∧
 ¬(pansF (List.take (13 : Nat) x) t).snd = (5 : Int) ∧ ¬(pansF (List.take (13 : Nat) x) t).snd = (5 : Int) ∧ false = true)) ∧
 (¬(↑(pansF (List.take (13 : Nat) x) t).fst.length : Int) = (0 : Int) →
 ¬(↑(pansF (List.take (13 : Nat) x) t).fst.length : Int) = (0 : Int) ∧
 ¬(↑(pansF (List.take (13 : Nat) x) t).fst.length : Int) = (0 : Int) ∧ false = true)) ∧
 ∀ (ys : List Int),
 pansR (List.take (13 : Nat) x) ((List.take (13 : Nat) x).length - (0 : Nat)) t (nilT Int) = some ys →
 ys ≠ [] ∧
 ((pansF (List.take (13 : Nat) x) t).fst.length ≤ (1000 : Nat) ∧ ys.length ≤ (1000 : Nat)) ∧
 (decide ((pansF (List.take (13 : Nat) x) t).fst = ys) = true →
 decide ((pansF (List.take (13 : Nat) x) t).fst = ys) = true ∧
 decide ((pansF (List.take (13 : Nat) x) t).fst = ys) = true ∧
 ((pansF (List.take (13 : Nat) x) t).snd = (0 : Int) →
 (pansF (List.take (13 : Nat) x) t).snd = (0 : Int) ∧
 (pansF (List.take (13 : Nat) x) t).snd = (0 : Int) ∧
 (pansF (List.take (13 : Nat) x) t).snd = (0 : Int) ∧ True ∧ true = true) ∧
 (¬(pansF (List.take (13 : Nat) x) t).snd = (0 : Int) →
 ¬(pansF (List.take (13 : Nat) x) t).snd = (0 : Int) ∧
 ¬(pansF (List.take (13 : Nat) x) t).snd = (0 : Int) ∧
 ¬(pansF (List.take (13 : Nat) x) t).snd = (0 : Int) ∧ false = true)) ∧
 (decide ((pansF (List.take (13 : Nat) x) t).fst = ys) = false →
 decide ((pansF (List.take (13 : Nat) x) t).fst = ys) = false ∧
 decide ((pansF (List.take (13 : Nat) x) t).fst = ys) = false ∧ false = true))) ∧
 (¬(9 : Int) < (↑(List.take (13 : Nat) x).length : Int) →
 ¬(9 : Int) < (↑(List.take (13 : Nat) x).length : Int) ∧
 (¬(1 : Int) = (0 : Int) →
 ¬(1 : Int) = (0 : Int) ∧
 ((↑(pansF (List.take (13 : Nat) x) t).fst.length : Int) = (0 : Int) →
 (↑(pansF (List.take (13 : Nat) x) t).fst.length : Int) = (0 : Int) ∧
 (↑(pansF (List.take (13 : Nat) x) t).fst.length : Int) = (0 : Int) ∧
 ((pansF (List.take (13 : Nat) x) t).snd = (1 : Int) →
 (pansF (List.take (13 : Nat) x) t).snd = (1 : Int) ∧
 (pansF (List.take (13 : Nat) x) t).snd = (1 : Int) ∧ (pansF (List.take (13 : Nat) x) t).snd = (1 : Int) ∧ True ∧ true = true) ∧
 (¬(pansF (List.take (13 : Nat) x) t).snd = (1 : Int) →
 ¬(pansF (List.take (13 : Nat) x) t).snd = (1 : Int) ∧
 ¬(pansF (List.take (13 : Nat) x) t).snd = (1 : Int) ∧ ¬(pansF (List.take (13 : Nat) x) t).snd = (1 : Int) ∧ false = true)) ∧
 (¬(↑(pansF (List.take (13 : Nat) x) t).fst.length : Int) = (0 : Int) →
 ¬(↑(pansF (List.take (13 : Nat) x) t).fst.length : Int) = (0 : Int) ∧
 ¬(↑(pansF (List.take (13 : Nat) x) t).fst.length : Int) = (0 : Int) ∧ false = true)) ∧
 (¬¬(1 : Int) = (0 : Int) →
 ¬¬(1 : Int) = (0 : Int) ∧
 (Wts (List.take (13 : Nat) x) ∧ (List.take (13 : Nat) x).length ≤ (9 : Nat) ∧ Fits IntKind.i64 t ∧ (0 : Nat) ≤ (List.take (13 : Nat) x).length) ∧
 (pansR (List.take (13 : Nat) x) ((List.take (13 : Nat) x).length - (0 : Nat)) t (nilT Int) = none →
 ((↑(pansF (List.take (13 : Nat) x) t).fst.length : Int) = (0 : Int) →
 (↑(pansF (List.take (13 : Nat) x) t).fst.length : Int) = (0 : Int) ∧
 (↑(pansF (List.take (13 : Nat) x) t).fst.length : Int) = (0 : Int) ∧
 ((pansF (List.take (13 : Nat) x) t).snd = (5 : Int) →
 (pansF (List.take (13 : Nat) x) t).snd = (5 : Int) ∧
 (pansF (List.take (13 : Nat) x) t).snd = (5 : Int) ∧
 (pansF (List.take (13 : Nat) x) t).snd = (5 : Int) ∧ True ∧ true = true) ∧
 (¬(pansF (List.take (13 : Nat) x) t).snd = (5 : Int) →
 ¬(pansF (List.take (13 : Nat) x) t).snd = (5 : Int) ∧
 ¬(pansF (List.take (13 : Nat) x) t).snd = (5 : Int) ∧ ¬(pansF (List.take (13 : Nat) x) t).snd = (5 : Int) ∧ false = true)) ∧
 (¬(↑(pansF (List.take (13 : Nat) x) t).fst.length : Int) = (0 : Int) →
 ¬(↑(pansF (List.take (13 : Nat) x) t).fst.length : Int) = (0 : Int) ∧
 ¬(↑(pansF (List.take (13 : Nat) x) t).fst.length : Int) = (0 : Int) ∧ false = true)) ∧
 ∀ (ys : List Int),
 pansR (List.take (13 : Nat) x) ((List.take (13 : Nat) x).length - (0 : Nat)) t (nilT Int) = some ys →
 ys ≠ [] ∧
 ((pansF (List.take (13 : Nat) x) t).fst.length ≤ (1000 : Nat) ∧ ys.length ≤ (1000 : Nat)) ∧
 (decide ((pansF (List.take (13 : Nat) x) t).fst = ys) = true →
 decide ((pansF (List.take (13 : Nat) x) t).fst = ys) = true ∧
 decide ((pansF (List.take (13 : Nat) x) t).fst = ys) = true ∧
 ((pansF (List.take (13 : Nat) x) t).snd = (0 : Int) →
 (pansF (List.take (13 : Nat) x) t).snd = (0 : Int) ∧
 (pansF (List.take (13 : Nat) x) t).snd = (0 : Int) ∧
 (pansF (List.take (13 : Nat) x) t).snd = (0 : Int) ∧ True ∧ true = true) ∧
 (¬(pansF (List.take (13 : Nat) x) t).snd = (0 : Int) →
 ¬(pansF (List.take (13 : Nat) x) t).snd = (0 : Int) ∧
 ¬(pansF (List.take (13 : Nat) x) t).snd = (0 : Int) ∧
 ¬(pansF (List.take (13 : Nat) x) t).snd = (0 : Int) ∧ false = true)) ∧
 (decide ((pansF (List.take (13 : Nat) x) t).fst = ys) = false →
 decide ((pansF (List.take (13 : Nat) x) t).fst = ys) = false ∧
 decide ((pansF (List.take (13 : Nat) x) t).fst = ys) = false ∧ false = true)))) ∧
 (¬t < (0 : Int) →
 ¬t < (0 : Int) ∧
 ¬t < (0 : Int) ∧
 ((9 : Int) < (↑(List.take (13 : Nat) x).length : Int) →
 (9 : Int) < (↑(List.take (13 : Nat) x).length : Int) ∧
 (¬(3 : Int) = (0 : Int) →
 ¬(3 : Int) = (0 : Int) ∧
 ((↑(pansF (List.take (13 : Nat) x) t).fst.length : Int) = (0 : Int) →
 (↑(pansF (List.take (13 : Nat) x) t).fst.length : Int) = (0 : Int) ∧
 (↑(pansF (List.take (13 : Nat) x) t).fst.length : Int) = (0 : Int) ∧
 ((pansF (List.take (13 : Nat) x) t).snd = (3 : Int) →
 (pansF (List.take (13 : Nat) x) t).snd = (3 : Int) ∧
 (pansF (List.take (13 : Nat) x) t).snd = (3 : Int) ∧ (pansF (List.take (13 : Nat) x) t).snd = (3 : Int) ∧ True ∧ true = true) ∧
 (¬(pansF (List.take (13 : Nat) x) t).snd = (3 : Int) →
 ¬(pansF (List.take (13 : Nat) x) t).snd = (3 : Int) ∧
 ¬(pansF (List.take (13 : Nat) x) t).snd = (3 : Int) ∧ ¬(pansF (List.take (13 : Nat) x) t).snd = (3 : Int) ∧ false = true)) ∧
 (¬(↑(pansF (List.take (13 : Nat) x) t).fst.length : Int) = (0 : Int) →
 ¬(↑(pansF (List.take (13 : Nat) x) t).fst.length : Int) = (0 : Int) ∧
 ¬(↑(pansF (List.take (13 : Nat) x) t).fst.length : Int) = (0 : Int) ∧ false = true)) ∧
 (¬¬(3 : Int) = (0 : Int) →
 ¬¬(3 : Int) = (0 : Int) ∧
 (Wts (List.take (13 : Nat) x) ∧ (List.take (13 : Nat) x).length ≤ (9 : Nat) ∧ Fits IntKind.i64 t ∧ (0 : Nat) ≤ (List.take (13 : Nat) x).length) ∧
 (pansR (List.take (13 : Nat) x) ((List.take (13 : Nat) x).length - (0 : Nat)) t (nilT Int) = none →
 ((↑(pansF (List.take (13 : Nat) x) t).fst.length : Int) = (0 : Int) →
 (↑(pansF (List.take (13 : Nat) x) t).fst.length : Int) = (0 : Int) ∧
 (↑(pansF (List.take (13 : Nat) x) t).fst.length : Int) = (0 : Int) ∧
 ((pansF (List.take (13 : Nat) x) t).snd = (5 : Int) →
 (pansF (List.take (13 : Nat) x) t).snd = (5 : Int) ∧
 (pansF (List.take (13 : Nat) x) t).snd = (5 : Int) ∧
 (pansF (List.take (13 : Nat) x) t).snd = (5 : Int) ∧ True ∧ true = true) ∧
 (¬(pansF (List.take (13 : Nat) x) t).snd = (5 : Int) →
 ¬(pansF (List.take (13 : Nat) x) t).snd = (5 : Int) ∧
 ¬(pansF (List.take (13 : Nat) x) t).snd = (5 : Int) ∧ ¬(pansF (List.take (13 : Nat) x) t).snd = (5 : Int) ∧ false = true)) ∧
 (¬(↑(pansF (List.take (13 : Nat) x) t).fst.length : Int) = (0 : Int) →
 ¬(↑(pansF (List.take (13 : Nat) x) t).fst.length : Int) = (0 : Int) ∧
 ¬(↑(pansF (List.take (13 : Nat) x) t).fst.length : Int) = (0 : Int) ∧ false = true)) ∧
 ∀ (ys : List Int),
 pansR (List.take (13 : Nat) x) ((List.take (13 : Nat) x).length - (0 : Nat)) t (nilT Int) = some ys →
 ys ≠ [] ∧
 ((pansF (List.take (13 : Nat) x) t).fst.length ≤ (1000 : Nat) ∧ ys.length ≤ (1000 : Nat)) ∧
 (decide ((pansF (List.take (13 : Nat) x) t).fst = ys) = true →
 decide ((pansF (List.take (13 : Nat) x) t).fst = ys) = true ∧
 decide ((pansF (List.take (13 : Nat) x) t).fst = ys) = true ∧
 ((pansF (List.take (13 : Nat) x) t).snd = (0 : Int) →
 (pansF (List.take (13 : Nat) x) t).snd = (0 : Int) ∧
 (pansF (List.take (13 : Nat) x) t).snd = (0 : Int) ∧
 (pansF (List.take (13 : Nat) x) t).snd = (0 : Int) ∧ True ∧ true = true) ∧
 (¬(pansF (List.take (13 : Nat) x) t).snd = (0 : Int) →
 ¬(pansF (List.take (13 : Nat) x) t).snd = (0 : Int) ∧
 ¬(pansF (List.take (13 : Nat) x) t).snd = (0 : Int) ∧
 ¬(pansF (List.take (13 : Nat) x) t).snd = (0 : Int) ∧ false = true)) ∧
 (decide ((pansF (List.take (13 : Nat) x) t).fst = ys) = false →
 decide ((pansF (List.take (13 : Nat) x) t).fst = ys) = false ∧
 decide ((pansF (List.take (13 : Nat) x) t).fst = ys) = false ∧ false = true))) ∧
 (¬(9 : Int) < (↑(List.take (13 : Nat) x).length : Int) →
 ¬(9 : Int) < (↑(List.take (13 : Nat) x).length : Int) ∧
 (¬checkF (List.take (13 : Nat) x) (12 : Int) = (0 : Int) →
 ¬checkF (List.take (13 : Nat) x) (12 : Int) = (0 : Int) ∧
 ((↑(pansF (List.take (13 : Nat) x) t).fst.length : Int) = (0 : Int) →
 (↑(pansF (List.take (13 : Nat) x) t).fst.length : Int) = (0 : Int) ∧
 (↑(pansF (List.take (13 : Nat) x) t).fst.length : Int) = (0 : Int) ∧
 ((pansF (List.take (13 : Nat) x) t).snd = checkF (List.take (13 : Nat) x) (12 : Int) →
 (pansF (List.take (13 : Nat) x) t).snd = checkF (List.take (13 : Nat) x) (12 : Int) ∧
 (pansF (List.take (13 : Nat) x) t).snd = checkF (List.take (13 : Nat) x) (12 : Int) ∧
 (pansF (List.take (13 : Nat) x) t).snd = checkF (List.take (13 : Nat) x) (12 : Int) ∧ True ∧ true = true) ∧
 (¬(pansF (List.take (13 : Nat) x) t).snd = checkF (List.take (13 : Nat) x) (12 : Int) →
 ¬(pansF (List.take (13 : Nat) x) t).snd = checkF (List.take (13 : Nat) x) (12 : Int) ∧
 ¬(pansF (List.take (13 : Nat) x) t).snd = checkF (List.take (13 : Nat) x) (12 : Int) ∧
 ¬(pansF (List.take (13 : Nat) x) t).snd = checkF (List.take (13 : Nat) x) (12 : Int) ∧ false = true)) ∧
 (¬(↑(pansF (List.take (13 : Nat) x) t).fst.length : Int) = (0 : Int) →
 ¬(↑(pansF (List.take (13 : Nat) x) t).fst.length : Int) = (0 : Int) ∧
 ¬(↑(pansF (List.take (13 : Nat) x) t).fst.length : Int) = (0 : Int) ∧ false = true)) ∧
 (¬¬checkF (List.take (13 : Nat) x) (12 : Int) = (0 : Int) →
 ¬¬checkF (List.take (13 : Nat) x) (12 : Int) = (0 : Int) ∧
 (Wts (List.take (13 : Nat) x) ∧ (List.take (13 : Nat) x).length ≤ (9 : Nat) ∧ Fits IntKind.i64 t ∧ (0 : Nat) ≤ (List.take (13 : Nat) x).length) ∧
 (pansR (List.take (13 : Nat) x) ((List.take (13 : Nat) x).length - (0 : Nat)) t (nilT Int) = none →
 ((↑(pansF (List.take (13 : Nat) x) t).fst.length : Int) = (0 : Int) →
 (↑(pansF (List.take (13 : Nat) x) t).fst.length : Int) = (0 : Int) ∧
 (↑(pansF (List.take (13 : Nat) x) t).fst.length : Int) = (0 : Int) ∧
 ((pansF (List.take (13 : Nat) x) t).snd = (5 : Int) →
 (pansF (List.take (13 : Nat) x) t).snd = (5 : Int) ∧
 (pansF (List.take (13 : Nat) x) t).snd = (5 : Int) ∧
 (pansF (List.take (13 : Nat) x) t).snd = (5 : Int) ∧ True ∧ true = true) ∧
 (¬(pansF (List.take (13 : Nat) x) t).snd = (5 : Int) →
 ¬(pansF (List.take (13 : Nat) x) t).snd = (5 : Int) ∧
 ¬(pansF (List.take (13 : Nat) x) t).snd = (5 : Int) ∧ ¬(pansF (List.take (13 : Nat) x) t).snd = (5 : Int) ∧ false = true)) ∧
 (¬(↑(pansF (List.take (13 : Nat) x) t).fst.length : Int) = (0 : Int) →
 ¬(↑(pansF (List.take (13 : Nat) x) t).fst.length : Int) = (0 : Int) ∧
 ¬(↑(pansF (List.take (13 : Nat) x) t).fst.length : Int) = (0 : Int) ∧ false = true)) ∧
 ∀ (ys : List Int),
 pansR (List.take (13 : Nat) x) ((List.take (13 : Nat) x).length - (0 : Nat)) t (nilT Int) = some ys →
 ys ≠ [] ∧
 ((pansF (List.take (13 : Nat) x) t).fst.length ≤ (1000 : Nat) ∧ ys.length ≤ (1000 : Nat)) ∧
 (decide ((pansF (List.take (13 : Nat) x) t).fst = ys) = true →
 decide ((pansF (List.take (13 : Nat) x) t).fst = ys) = true ∧
 decide ((pansF (List.take (13 : Nat) x) t).fst = ys) = true ∧
 ((pansF (List.take (13 : Nat) x) t).snd = (0 : Int) →
 (pansF (List.take (13 : Nat) x) t).snd = (0 : Int) ∧
 (pansF (List.take (13 : Nat) x) t).snd = (0 : Int) ∧
 (pansF (List.take (13 : Nat) x) t).snd = (0 : Int) ∧ True ∧ true = true) ∧
 (¬(pansF (List.take (13 : Nat) x) t).snd = (0 : Int) →
 ¬(pansF (List.take (13 : Nat) x) t).snd = (0 : Int) ∧
 ¬(pansF (List.take (13 : Nat) x) t).snd = (0 : Int) ∧
 ¬(pansF (List.take (13 : Nat) x) t).snd = (0 : Int) ∧ false = true)) ∧
 (decide ((pansF (List.take (13 : Nat) x) t).fst = ys) = false →
 decide ((pansF (List.take (13 : Nat) x) t).fst = ys) = false ∧
 decide ((pansF (List.take (13 : Nat) x) t).fst = ys) = false ∧ false = true))))) ∧
 (¬¬checkF (List.take (13 : Nat) x) (12 : Int) = (3 : Int) →
 ¬¬checkF (List.take (13 : Nat) x) (12 : Int) = (3 : Int) ∧
 ¬¬checkF (List.take (13 : Nat) x) (12 : Int) = (3 : Int) ∧
 ((9 : Int) < (↑(List.take (13 : Nat) x).length : Int) →
 (9 : Int) < (↑(List.take (13 : Nat) x).length : Int) ∧
 (¬(3 : Int) = (0 : Int) →
 ¬(3 : Int) = (0 : Int) ∧
 ((↑(pansF (List.take (13 : Nat) x) t).fst.length : Int) = (0 : Int) →
 (↑(pansF (List.take (13 : Nat) x) t).fst.length : Int) = (0 : Int) ∧
 (↑(pansF (List.take (13 : Nat) x) t).fst.length : Int) = (0 : Int) ∧
 ((pansF (List.take (13 : Nat) x) t).snd = (3 : Int) →
 (pansF (List.take (13 : Nat) x) t).snd = (3 : Int) ∧
 (pansF (List.take (13 : Nat) x) t).snd = (3 : Int) ∧ (pansF (List.take (13 : Nat) x) t).snd = (3 : Int) ∧ True ∧ true = true) ∧
 (¬(pansF (List.take (13 : Nat) x) t).snd = (3 : Int) →
 ¬(pansF (List.take (13 : Nat) x) t).snd = (3 : Int) ∧
 ¬(pansF (List.take (13 : Nat) x) t).snd = (3 : Int) ∧ ¬(pansF (List.take (13 : Nat) x) t).snd = (3 : Int) ∧ false = true)) ∧
 (¬(↑(pansF (List.take (13 : Nat) x) t).fst.length : Int) = (0 : Int) →
 ¬(↑(pansF (List.take (13 : Nat) x) t).fst.length : Int) = (0 : Int) ∧
 ¬(↑(pansF (List.take (13 : Nat) x) t).fst.length : Int) = (0 : Int) ∧ false = true)) ∧
 (¬¬(3 : Int) = (0 : Int) →
 ¬¬(3 : Int) = (0 : Int) ∧
 (Wts (List.take (13 : Nat) x) ∧ (List.take (13 : Nat) x).length ≤ (9 : Nat) ∧ Fits IntKind.i64 t ∧ (0 : Nat) ≤ (List.take (13 : Nat) x).length) ∧
 (pansR (List.take (13 : Nat) x) ((List.take (13 : Nat) x).length - (0 : Nat)) t (nilT Int) = none →
 ((↑(pansF (List.take (13 : Nat) x) t).fst.length : Int) = (0 : Int) →
 (↑(pansF (List.take (13 : Nat) x) t).fst.length : Int) = (0 : Int) ∧
 (↑(pansF (List.take (13 : Nat) x) t).fst.length : Int) = (0 : Int) ∧
 ((pansF (List.take (13 : Nat) x) t).snd = (5 : Int) →
 (pansF (List.take (13 : Nat) x) t).snd = (5 : Int) ∧
 (pansF (List.take (13 : Nat) x) t).snd = (5 : Int) ∧ (pansF (List.take (13 : Nat) x) t).snd = (5 : Int) ∧ True ∧ true = true) ∧
 (¬(pansF (List.take (13 : Nat) x) t).snd = (5 : Int) →
 ¬(pansF (List.take (13 : Nat) x) t).snd = (5 : Int) ∧
 ¬(pansF (List.take (13 : Nat) x) t).snd = (5 : Int) ∧ ¬(pansF (List.take (13 : Nat) x) t).snd = (5 : Int) ∧ false = true)) ∧
 (¬(↑(pansF (List.take (13 : Nat) x) t).fst.length : Int) = (0 : Int) →
 ¬(↑(pansF (List.take (13 : Nat) x) t).fst.length : Int) = (0 : Int) ∧
 ¬(↑(pansF (List.take (13 : Nat) x) t).fst.length : Int) = (0 : Int) ∧ false = true)) ∧
 ∀ (ys : List Int),
 pansR (List.take (13 : Nat) x) ((List.take (13 : Nat) x).length - (0 : Nat)) t (nilT Int) = some ys →
 ys ≠ [] ∧
 ((pansF (List.take (13 : Nat) x) t).fst.length ≤ (1000 : Nat) ∧ ys.length ≤ (1000 : Nat)) ∧
 (decide ((pansF (List.take (13 : Nat) x) t).fst = ys) = true →
 decide ((pansF (List.take (13 : Nat) x) t).fst = ys) = true ∧
 decide ((pansF (List.take (13 : Nat) x) t).fst = ys) = true ∧
 ((pansF (List.take (13 : Nat) x) t).snd = (0 : Int) →
 (pansF (List.take (13 : Nat) x) t).snd = (0 : Int) ∧
 (pansF (List.take (13 : Nat) x) t).snd = (0 : Int) ∧ (pansF (List.take (13 : Nat) x) t).snd = (0 : Int) ∧ True ∧ true = true) ∧
 (¬(pansF (List.take (13 : Nat) x) t).snd = (0 : Int) →
 ¬(pansF (List.take (13 : Nat) x) t).snd = (0 : Int) ∧
 ¬(pansF (List.take (13 : Nat) x) t).snd = (0 : Int) ∧ ¬(pansF (List.take (13 : Nat) x) t).snd = (0 : Int) ∧ false = true)) ∧
 (decide ((pansF (List.take (13 : Nat) x) t).fst = ys) = false →
 decide ((pansF (List.take (13 : Nat) x) t).fst = ys) = false ∧
 decide ((pansF (List.take (13 : Nat) x) t).fst = ys) = false ∧ false = true))) ∧
 (¬(9 : Int) < (↑(List.take (13 : Nat) x).length : Int) →
 ¬(9 : Int) < (↑(List.take (13 : Nat) x).length : Int) ∧
 (¬checkF (List.take (13 : Nat) x) (12 : Int) = (0 : Int) →
 ¬checkF (List.take (13 : Nat) x) (12 : Int) = (0 : Int) ∧
 ((↑(pansF (List.take (13 : Nat) x) t).fst.length : Int) = (0 : Int) →
 (↑(pansF (List.take (13 : Nat) x) t).fst.length : Int) = (0 : Int) ∧
 (↑(pansF (List.take (13 : Nat) x) t).fst.length : Int) = (0 : Int) ∧
 ((pansF (List.take (13 : Nat) x) t).snd = checkF (List.take (13 : Nat) x) (12 : Int) →
 (pansF (List.take (13 : Nat) x) t).snd = checkF (List.take (13 : Nat) x) (12 : Int) ∧
 (pansF (List.take (13 : Nat) x) t).snd = checkF (List.take (13 : Nat) x) (12 : Int) ∧
 (pansF (List.take (13 : Nat) x) t).snd = checkF (List.take (13 : Nat) x) (12 : Int) ∧ True ∧ true = true) ∧
 (¬(pansF (List.take (13 : Nat) x) t).snd = checkF (List.take (13 : Nat) x) (12 : Int) →
 ¬(pansF (List.take (13 : Nat) x) t).snd = checkF (List.take (13 : Nat) x) (12 : Int) ∧
 ¬(pansF (List.take (13 : Nat) x) t).snd = checkF (List.take (13 : Nat) x) (12 : Int) ∧
 ¬(pansF (List.take (13 : Nat) x) t).snd = checkF (List.take (13 : Nat) x) (12 : Int) ∧ false = true)) ∧
 (¬(↑(pansF (List.take (13 : Nat) x) t).fst.length : Int) = (0 : Int) →
 ¬(↑(pansF (List.take (13 : Nat) x) t).fst.length : Int) = (0 : Int) ∧
 ¬(↑(pansF (List.take (13 : Nat) x) t).fst.length : Int) = (0 : Int) ∧ false = true)) ∧
 (¬¬checkF (List.take (13 : Nat) x) (12 : Int) = (0 : Int) →
 ¬¬checkF (List.take (13 : Nat) x) (12 : Int) = (0 : Int) ∧
 (Wts (List.take (13 : Nat) x) ∧ (List.take (13 : Nat) x).length ≤ (9 : Nat) ∧ Fits IntKind.i64 t ∧ (0 : Nat) ≤ (List.take (13 : Nat) x).length) ∧
 (pansR (List.take (13 : Nat) x) ((List.take (13 : Nat) x).length - (0 : Nat)) t (nilT Int) = none →
 ((↑(pansF (List.take (13 : Nat) x) t).fst.length : Int) = (0 : Int) →
 (↑(pansF (List.take (13 : Nat) x) t).fst.length : Int) = (0 : Int) ∧
 (↑(pansF (List.take (13 : Nat) x) t).fst.length : Int) = (0 : Int) ∧
 ((pansF (List.take (13 : Nat) x) t).snd = (5 : Int) →
 (pansF (List.take (13 : Nat) x) t).snd = (5 : Int) ∧
 (pansF (List.take (13 : Nat) x) t).snd = (5 : Int) ∧ (pansF (List.take (13 : Nat) x) t).snd = (5 : Int) ∧ True ∧ true = true) ∧
 (¬(pansF (List.take (13 : Nat) x) t).snd = (5 : Int) →
 ¬(pansF (List.take (13 : Nat) x) t).snd = (5 : Int) ∧
 ¬(pansF (List.take (13 : Nat) x) t).snd = (5 : Int) ∧ ¬(pansF (List.take (13 : Nat) x) t).snd = (5 : Int) ∧ false = true)) ∧
 (¬(↑(pansF (List.take (13 : Nat) x) t).fst.length : Int) = (0 : Int) →
 ¬(↑(pansF (List.take (13 : Nat) x) t).fst.length : Int) = (0 : Int) ∧
 ¬(↑(pansF (List.take (13 : Nat) x) t).fst.length : Int) = (0 : Int) ∧ false = true)) ∧
 ∀ (ys : List Int),
 pansR (List.take (13 : Nat) x) ((List.take (13 : Nat) x).length - (0 : Nat)) t (nilT Int) = some ys →
 ys ≠ [] ∧
 ((pansF (List.take (13 : Nat) x) t).fst.length ≤ (1000 : Nat) ∧ ys.length ≤ (1000 : Nat)) ∧
 (decide ((pansF (List.take (13 : Nat) x) t).fst = ys) = true →
 decide ((pansF (List.take (13 : Nat) x) t).fst = ys) = true ∧
 decide ((pansF (List.take (13 : Nat) x) t).fst = ys) = true ∧
 ((pansF (List.take (13 : Nat) x) t).snd = (0 : Int) →
 (pansF (List.take (13 : Nat) x) t).snd = (0 : Int) ∧
 (pansF (List.take (13 : Nat) x) t).snd = (0 : Int) ∧ (pansF (List.take (13 : Nat) x) t).snd = (0 : Int) ∧ True ∧ true = true) ∧
 (¬(pansF (List.take (13 : Nat) x) t).snd = (0 : Int) →
 ¬(pansF (List.take (13 : Nat) x) t).snd = (0 : Int) ∧
 ¬(pansF (List.take (13 : Nat) x) t).snd = (0 : Int) ∧ ¬(pansF (List.take (13 : Nat) x) t).snd = (0 : Int) ∧ false = true)) ∧
 (decide ((pansF (List.take (13 : Nat) x) t).fst = ys) = false →
 decide ((pansF (List.take (13 : Nat) x) t).fst = ys) = false ∧
 decide ((pansF (List.take (13 : Nat) x) t).fst = ys) = false ∧ false = true))))) := by
 kernel_rfl

end Go.SX.We

/- Chapter 08: the laws of Subsets, Distinct, Conway and Pans, proved. -/
namespace Go.SX.We
open Go Go.Proofs

theorem best_len {S : List Int} {t : Int} (hS : S.length ≤ 4096) : ∀ k, k ≤ S.length → (bestK S t k).length ≤ 12
  | 0, _ => by simp [bestK]
  | k + 1, h => by
    have ih := best_len (t := t) hS k (by omega)
    rw [bestK]
    cases decide (S.getD k 0 = t) with
    | false => exact ih
    | true =>
      simp only [cond_true]
      unfold stepS
      cases (decide ((bestK S t k).length = 0) || beforeF (idxF k) (bestK S t k)) with
      | false => exact ih
      | true => exact idx_len (by omega)
theorem ok24 : p24.OK Try.prog := p24.ok (fn := Try.f24) (fun p => C24 (!decide (p.2 = 0)) p) (fun _ => cx_ok (cs := [p53.ci, p54.ci, p35.ci]) ⟨PC.OK.ci ok53, PC.OK.ci ok54, PC.OK.ci ok35, trivial⟩ _) (by kernel_rfl) (by kernel_rfl) (by kernel_rfl) fun p hp => by
  have hpos : ∀ (l : List Int) (t : Int), Wts l → 0 ≤ t → ¬ t = 0 → g24a l t := fun l t hw ht hne => by
    refine (g24a_eq l t).mpr ?_
    simp only [pp1, eq_self, and_true, true_and, and_self, Int.toNat_natCast, nilT]
    obtain ⟨hS1, hS2⟩ := sums_len hw.len
    have hz := fun k => @sum_idx_pos l hw.lo k
    have hl := sumsR_length l
    have eF : refS l t = (bestK (sumsR l) t (sumsR l).length, manyK (sumsR l) t (sumsR l).length) := rfl
    rw [eF]
    rw [← hl] at hz
    generalize sumsR l = S at hS1 hS2 hz
    refine ⟨⟨hw.len, fun v h => by have := hw.lo v h; have := hw.hi v h; omega⟩, ⟨0, by omega, rfl, rfl, rfl⟩, fun k hk => ⟨fun h1 => ⟨by omega, fun h2 => ?_, fun h2 => ?_⟩, fun h1 => ?_⟩⟩
    · exact ⟨fi (by omega) (by omega), k + 1, by omega, by omega, by rw [manyK, decide_eq_false h2]; rfl, by rw [bestK, decide_eq_false h2]; rfl, by omega⟩
    · have h2 := Classical.not_not.1 h2
      have hm := manyK_nonneg S t k
      have e1 : manyK S t (k + 1) = manyK S t k + 1 := by rw [manyK, decide_eq_true h2]; rfl
      have e2 : bestK S t (k + 1) = stepS (bestK S t k) (idxF k) := by rw [bestK, decide_eq_true h2]; rfl
      have hkne : idxF k ≠ [] := by
        apply idx_ne
        rcases Nat.eq_zero_or_pos k with h | h
        · subst h
          have := (hz 0 (by omega)).2 rfl
          omega
        · exact h
      have l1 := idx_len (n := k) (by omega)
      have l2 := best_len (t := t) hS2 k hk
      unfold stepS at e2
      refine ⟨fi (by omega) (by omega), by omega, fun h3 => ?_, fun h3 => ⟨by omega, fun h4 => ?_, fun h4 => ?_⟩⟩
      · rw [decide_eq_true h3, Bool.true_or, cond_true] at e2
        exact ⟨fi (by omega) (by omega), k + 1, by omega, by omega, by rw [e1], ⟨by rw [e2], by rw [e2]; exact hkne⟩, by omega⟩
      · rw [h4, Bool.or_true, cond_true] at e2
        exact ⟨fi (by omega) (by omega), k + 1, by omega, by omega, by rw [e1], ⟨by rw [e2], by rw [e2]; exact hkne⟩, by omega⟩
      · rw [decide_eq_false h3, h4, Bool.false_or, cond_false] at e2
        exact ⟨fi (by omega) (by omega), k + 1, by omega, by omega, by rw [e1], by rw [e2], by omega⟩
    · have ek : k = S.length := by omega
      subst ek
      rfl
  have hzero : ∀ (l : List Int), Wts l → g24b l 0 := fun l hw => by
    refine (g24b_eq l 0).mpr ?_
    simp only [pp1, eq_self, and_true, true_and, and_self, Int.toNat_natCast, nilT]
    obtain ⟨hS1, hS2⟩ := sums_len hw.len
    have hz := fun k => @sum_idx_pos l hw.lo k
    have hl := sumsR_length l
    have hb := best_zero hw.lo
    have eF : refS l 0 = (bestK (sumsR l) 0 (sumsR l).length, manyK (sumsR l) 0 (sumsR l).length) := rfl
    rw [eF]
    rw [← hl] at hz
    generalize sumsR l = S at hS1 hS2 hz hb
    refine ⟨⟨hw.len, fun v h => by have := hw.lo v h; have := hw.hi v h; omega⟩, ⟨0, by omega, rfl, rfl, rfl⟩, fun k hk => ⟨fun h1 => ⟨by omega, fun h2 => ?_, fun h2 => ?_⟩, fun h1 => ?_⟩⟩
    · exact ⟨fi (by omega) (by omega), k + 1, by omega, by omega, by rw [manyK, decide_eq_false h2]; rfl, by rw [bestK, decide_eq_false h2]; rfl, by omega⟩
    · have h2 := Classical.not_not.1 h2
      have hm := manyK_nonneg S 0 k
      have e1 : manyK S 0 (k + 1) = manyK S 0 k + 1 := by rw [manyK, decide_eq_true h2]; rfl
      have hk0 : k = 0 := (hz k (by omega)).1 h2
      have b1 := hb (k + 1) (by omega)
      have b0 := hb k (by omega)
      have i0 : idxF k = [] := by subst hk0; rfl
      rw [b0, i0]
      exact ⟨fi (by omega) (by omega), by omega, ⟨fi (by omega) (by omega), k + 1, by omega, by omega, by rw [e1], by rw [b1], by omega⟩, ⟨by simp, by simp⟩,
        fun _ => ⟨fi (by omega) (by omega), k + 1, by omega, by omega, by rw [e1], by rw [b1], by omega⟩, fun _ => ⟨fi (by omega) (by omega), k + 1, by omega, by omega, by rw [e1], by rw [b1], by omega⟩⟩
    · have ek : k = S.length := by omega
      subst ek
      rfl
  have key : ∀ (l : List Int) (t : Int), Wts l → 0 ≤ t → p24.VC (C24 (!decide (t = 0)) (l, t)) Try.f24 (l, t) := fun l t hw ht => by
    by_cases h : t = 0
    · subst h; exact hzero l hw
    · rw [decide_eq_false h]; exact hpos l t hw ht h
  exact key p.1 p.2 hp.1 hp.2

theorem ok8 : p8.OK Try.prog := p8.ok (fn := Try.f8) C8 (fun _ => cx_ok (cs := [p28.ci, p27.ci, p16.ci, p36.ci, p19.ci]) ⟨PC.OK.ci ok28, PC.OK.ci ok27, PC.OK.ci ok16, PC.OK.ci ok36, PC.OK.ci ok19, trivial⟩ _) (by kernel_rfl) (by kernel_rfl) (by kernel_rfl) fun p hp => by
  have key : ∀ n : Int, 0 ≤ n → n ≤ 255 → g8 n := fun n h0 h1 => by
    refine (g8_eq n).mpr ?_
    simp only [pp1, eq_self, and_true, true_and, and_self]
    obtain ⟨m, hm⟩ : ∃ m : Nat, n % 12 + 1 = (m : Int) := ⟨(n % 12 + 1).toNat, by omega⟩
    rw [hm]
    have hm1 : 1 ≤ m := by omega
    have hm2 : m ≤ 12 := by omega
    have eS : SetF (m : Int) = (setF m, 0) := by
      unfold SetF
      rw [decide_eq_false (show ¬ (m : Int) < 1 by omega), decide_eq_false (show ¬ (12 : Int) < (m : Int) by omega)]; rfl
    have eG : GuyF (m : Int) = (guyF m, 0) := by
      unfold GuyF
      rw [decide_eq_false (show ¬ (m : Int) < 0 by omega), decide_eq_false (show ¬ (60 : Int) < (m : Int) by omega)]; rfl
    obtain ⟨c1, c2, c3⟩ := set_wts m (by omega) (by omega)
    have hw := check_ok.1 c1
    have eD := dist_of hw
    have hl := setF_length m
    have hd := dist_set hm2
    have e1 : ((m : Int) - 1).toNat = m - 1 := by omega
    have hp2 := pow2_12 (m - 1) (by omega)
    rw [eS, eG]
    simp only [eD, hl, hd, e1, c2]
    have hne : ∀ {a b : Int}, a = b → ¬ a = b → (false = true) := fun h1 h2 => absurd h1 h2
    refine ⟨fi (by omega) (by omega), by omega, fi (by omega) (by omega), by omega, fun _ => ⟨fun _ => ⟨fun _ => ⟨fun _ => ⟨fun _ => ⟨fi (by omega) (by omega), by omega, fun _ => ⟨fi (by omega) (by omega), by omega, fi (by omega) (by omega), fun _ => ⟨⟨hm2, fun v h => ?_⟩, fun _ => ?_, ?_⟩, fun h => ?_⟩, ?_⟩, ?_⟩, ?_⟩, ?_⟩, ?_⟩, ?_⟩
    · have := hw.lo v h; have := hw.hi v h; omega
    all_goals first | trivial | (intro h; cases h) | (intro h; exact absurd rfl h) | omega
  exact key p hp.1 hp.2
end Go.SX.We

/- Chapter 08: the laws of Distinct, Subsets and Pans, proved. -/
namespace Go.SX.We
open Go Go.Proofs

theorem take13 (l : List Int) : (l.take 13).length ≤ 13 := by rw [List.length_take]; omega
theorem ok3 : p3.OK Try.prog := p3.ok (fn := Try.f3) C3 (fun _ => cx_ok (cs := [p15.ci, p16.ci, p17.ci, p18.ci, p19.ci, p20.ci, p21.ci]) ⟨PC.OK.ci ok15, PC.OK.ci ok16, PC.OK.ci ok17, PC.OK.ci ok18, PC.OK.ci ok19, PC.OK.ci ok20, PC.OK.ci ok21, trivial⟩ _) (by kernel_rfl) (by kernel_rfl) (by kernel_rfl) fun p _ => by
  have key : ∀ x : List Int, g3 x := fun x => by
    refine (g3_eq x).mpr ?_
    simp only [pp1, eq_self, and_true, true_and, and_self, same_def]
    have hL := take13 x
    generalize x.take 13 = L at hL
    by_cases hc : checkF L 12 = 0
    · have hw := check_ok.1 hc
      have hD := dist_of hw
      cases hd : distF L with
      | true =>
        have e1 := clashF_none hw hd
        have e2 := refC_none hw.lo hd
        rw [hD, e1, e2, hd]
        refine ⟨by omega, by omega, by omega, fun h => absurd hc h, fun _ => ⟨⟨hw.len, fun v h => by have := hw.lo v h; have := hw.hi v h; omega⟩, ?_⟩⟩
        simp
        exact fi (by decide) (by decide)
      | false =>
        obtain ⟨u, v, e1, e2, _⟩ := refC_some hw hd
        have hsm : SmP (accC (sumsR L) ((sumsR L).length - 1)) := accC_sm (sums_len hw.len).2 _ (by have := sums_len hw.len; omega)
        have a1 : (refC L).1.length ≤ 12 := hsm.1
        have a2 : (refC L).2.1.length ≤ 12 := hsm.2
        rw [e2] at a1 a2
        rw [hD, e1, e2, hd]
        have a1 : u.length ≤ 12 := a1
        have a2 : v.length ≤ 12 := a2
        refine ⟨by omega, by omega, by omega, fun h => absurd hc h, fun _ => ⟨⟨hw.len, fun v h => by have := hw.lo v h; have := hw.hi v h; omega⟩, ?_⟩⟩
        have s1 : sameF u u = true := decide_eq_true rfl
        have s2 : sameF v v = true := decide_eq_true rfl
        simp only [s1, s2]
        simp
        omega
    · have e1 : distinctF L = (false, checkF L 12) := by unfold distinctF; rw [decide_eq_false hc]; rfl
      have e2 : clashF L = ([], [], checkF L 12) := by unfold clashF; rw [decide_eq_false hc]; rfl
      rw [e1, e2]
      refine ⟨by omega, by omega, by omega, fun _ => ?_, fun h => absurd hc h⟩
      simp
      exact fi (by decide) (by decide)
  exact key p

theorem check3 {L : List Int} : checkF L 12 = 3 ↔ 12 < L.length := by
  unfold checkF
  by_cases h : (12 : Int) < (L.length : Int)
  · rw [decide_eq_true h]; simp; omega
  · rw [decide_eq_false h]
    simp only [cond_false]
    refine ⟨fun e => ?_, fun e => by omega⟩
    cases hb : (decide (L.length = 0) || decide (L.getD 0 0 < 1) || decide (100000 < L.getD (L.length - 1) 0)) with
    | true => rw [hb] at e; simp at e
    | false => rw [hb] at e; cases hu : upF L <;> rw [hu] at e <;> simp at e
theorem tot12 (L : List Int) (t : Int) : totalF L 12 t = if ¬ checkF L 12 = 3 ∧ t < 0 then 1 else checkF L 12 := by
  unfold totalF
  by_cases h : L.length ≤ 12
  · have h3 : ¬ checkF L 12 = 3 := fun e => by have := check3.1 e; omega
    rw [decide_eq_true (show (L.length : Int) ≤ 12 by omega)]
    by_cases ht : t < 0
    · rw [decide_eq_true ht, if_pos ⟨h3, ht⟩]; rfl
    · rw [decide_eq_false ht, if_neg (fun e => ht e.2)]; rfl
  · have h3 : checkF L 12 = 3 := check3.2 (by omega)
    rw [decide_eq_false (show ¬ (L.length : Int) ≤ 12 by omega), if_neg (fun e => e.1 h3)]; rfl
theorem ok4 : p4.OK Try.prog := p4.ok (fn := Try.f4) C4 (fun _ => cx_ok (cs := [p15.ci, p22.ci, p23.ci, p18.ci, p19.ci, p24.ci, p21.ci]) ⟨PC.OK.ci ok15, PC.OK.ci ok22, PC.OK.ci ok23, PC.OK.ci ok18, PC.OK.ci ok19, PC.OK.ci ok24, PC.OK.ci ok21, trivial⟩ _) (by kernel_rfl) (by kernel_rfl) (by kernel_rfl) fun p _ => by
  have key : ∀ (x : List Int) (t : Int), g4 x t := fun x t => by
    refine (g4_eq x t).mpr ?_
    simp only [pp1, eq_self, and_true, true_and, and_self, same_def]
    have hL := take13 x
    generalize x.take 13 = L at hL
    refine ⟨by omega, by omega, by omega, ?_⟩
    have ht := tot12 L t
    by_cases hz : totalF L 12 t = 0
    · obtain ⟨hw, h0⟩ := total_ok.1 hz
      have hc := check_ok.2 hw
      have hW := ways_of hw h0
      have hm := refS_many L t
      have hb : (refS L t).1.length ≤ 12 := best_len (sums_len hw.len).2 _ (Nat.le_refl _)
      have hss : sameF (refS L t).1 (refS L t).1 = true := decide_eq_true rfl
      rw [hc, hW, ← hm]
      rcases subset_eq hw h0 with ⟨e1, e2⟩ | ⟨e1, e2⟩
      · rw [e1]
        have ht' : ¬ t < 0 := by omega
        simp [hw, h0, e2, hss, ht']
        omega
      · rw [e1, e2]
        have ht' : ¬ t < 0 := by omega
        simp [hw, h0, ht']
    · have e1 : subsetF L t = ([], totalF L 12 t) := by unfold subsetF; rw [decide_eq_false hz]; rfl
      have e2 : waysF L t = (0, totalF L 12 t) := by unfold waysF; rw [decide_eq_false hz]; rfl
      rw [e1, e2]
      by_cases h3 : checkF L 12 = 3
      · have : totalF L 12 t = 3 := by rw [ht, if_neg (fun e => e.1 h3), h3]
        rw [this, h3]; simp
      · by_cases hn : t < 0
        · have : totalF L 12 t = 1 := by rw [ht, if_pos ⟨h3, hn⟩]
          rw [this]; simp [h3, hn]
        · have : totalF L 12 t = checkF L 12 := by rw [ht, if_neg (fun e => hn e.2)]
          rw [this] at hz ⊢
          simp [h3, hn, hz]
  exact key p.1 p.2

theorem ok26 : NilOK Try.prog n26 := n26.rec_ok (fn := Try.f26) m26 C26 (fun p h => cx_ok (cs := [NC.ci (n26.below m26 (m26 p))]) ⟨NilOK.ci h, trivial⟩ _) (by kernel_rfl) (by kernel_rfl) (by kernel_rfl) fun p hp => by
  have key : ∀ (w : List Int) (t : Int) (x : List Int), Wts w → w.length ≤ 9 → Fits .i64 t → x.length ≤ w.length → g26 w t x := fun w t x hw h9 ht hx => by
    refine (g26_eq w t x).mpr ?_
    simp only [pp1, eq_self, and_true, true_and, and_self, Int.toNat_natCast]
    have hr : ∀ k, x.length + k ≤ w.length → 0 ≤ restK w x.length k ∧ restK w x.length k ≤ 100000 * (k : Int) := by
      intro k
      induction k with
      | zero => intro _; simp [restK]
      | succ k ih =>
        intro h
        have := ih (by omega)
        have h1 := hw.lo _ (getD_mem w 0 (k := x.length + k) (by omega))
        have h2 := hw.hi _ (getD_mem w 0 (k := x.length + k) (by omega))
        rw [restK]
        omega
    refine ⟨⟨0, by omega, rfl, rfl⟩, fun k hk => ⟨fun h1 => ?_, fun h1 => ?_⟩⟩
    · have h2 := hr k hk
      have h3 := hr (k + 1) (by omega)
      have e : restK w x.length (k + 1) = restK w x.length k + w.getD (x.length + k) 0 := rfl
      rw [← e]
      exact ⟨by omega, fi (by omega) (by omega), fi (by omega) (by omega), k + 1, by omega, by omega, rfl, by omega⟩
    · obtain ⟨n, hn⟩ : ∃ n, w.length - x.length = n := ⟨_, rfl⟩
      have ek : k = n := by omega
      subst ek
      rw [hn]
      have h2 := hr k hk
      refine ⟨fun h3 => pansR_none (.inl h3), fun h3 => ⟨fi (by omega) (by omega), fun h4 => pansR_none (.inr (by omega)), fun h4 => ⟨fun h5 => ?_, fun h5 => ?_⟩⟩⟩
      · have : k = 0 := by omega
        subst this
        unfold pansR
        simp only [restK] at h3 h4
        rw [decide_eq_false h3, decide_eq_false (show ¬ t < 0 by omega)]; rfl
      · obtain ⟨m, hm⟩ : ∃ m, k = m + 1 := ⟨k - 1, by omega⟩
        subst hm
        have ep : pansR w (m + 1) t x = altR w m t x 3 := by
          rw [altR_3]
          conv => lhs; unfold pansR
          rw [decide_eq_false h3, decide_eq_false (show ¬ t < -restK w x.length (m + 1) by omega)]; rfl
        rw [Nat.add_sub_cancel]
        refine ⟨⟨3, ⟨by omega, ep⟩, by omega⟩, fun j ⟨hj, hpj⟩ => ⟨fun h6 => ?_, fun h6 => ?_⟩⟩
        · obtain ⟨i, hi⟩ : ∃ i, j = i + 1 := ⟨j - 1, by omega⟩
          subst hi
          have ev : ((i + 1 : Nat) : Int) - 2 = (i : Int) - 1 := by omega
          rw [ev]
          have hw1 := hw.lo _ (getD_mem w 0 (k := x.length) (by omega))
          have hw2 := hw.hi _ (getD_mem w 0 (k := x.length) (by omega))
          have hv : (i : Int) - 1 = 1 ∨ (i : Int) - 1 = 0 ∨ (i : Int) - 1 = -1 := by omega
          have hmul : -100000 ≤ ((i : Int) - 1) * w.getD x.length 0 ∧ ((i : Int) - 1) * w.getD x.length 0 ≤ 100000 := by
            rcases hv with h | h | h <;> rw [h] <;> omega
          have hlen : w.length - (x ++ [(i : Int) - 1]).length = m := by simp; omega
          have hA : Fits .i64 (((i : Int) - 1) * w.getD x.length 0) := fi (by omega) (by omega)
          have hB : Fits .i64 (t - ((i : Int) - 1) * w.getD x.length 0) := fi (by omega) (by omega)
          have hC : Small (0 + x.length) := by unfold Small; omega
          have hD : Small (x.length + (0 + 1)) := by unfold Small; omega
          have hE : (Wts w ∧ w.length ≤ 9 ∧ Fits .i64 (t - ((i : Int) - 1) * w.getD x.length 0) ∧ (x ++ [(i : Int) - 1]).length ≤ w.length) ∧ m26 (w, t - ((i : Int) - 1) * w.getD x.length 0, x ++ [(i : Int) - 1]) < m26 (w, t, x) := by
            refine ⟨⟨hw, h9, hB, by simp; omega⟩, ?_⟩
            show w.length - (x ++ [(i : Int) - 1]).length < w.length - x.length
            simp; omega
          rw [hlen]
          have hF : pansR w m (t - ((i : Int) - 1) * w.getD x.length 0) (x ++ [(i : Int) - 1]) = none → Fits .i64 ((i : Int) - 1 - 1) ∧ ∃ x', (x' ≤ 3 ∧ pansR w (m + 1) t x = altR w m t x x') ∧ x' < i + 1 ∧ (i : Int) - 1 - 1 = (x' : Int) - 2 := fun h7 => by
            refine ⟨fi (by omega) (by omega), i, ⟨by omega, ?_⟩, by omega, by omega⟩
            rw [hpj, altR, h7]; rfl
          have hG : ∀ ys, pansR w m (t - ((i : Int) - 1) * w.getD x.length 0) (x ++ [(i : Int) - 1]) = some ys → ys ≠ [] ∧ pansR w (m + 1) t x = some ys := fun ys h7 => by
            refine ⟨fun e => ?_, by rw [hpj, altR, h7]; rfl⟩
            have := pansR_length _ _ _ _ h7
            rw [e] at this
            simp at this
            omega
          have hO : 0 ≤ (x.length : Int) ∧ (x.length : Int) < (w.length : Int) := by omega
          repeat' (first | assumption | apply And.intro)
        · have : j = 0 := by omega
          subst this
          rw [hpj]; rfl
  exact key p.1 p.2.1 p.2.2 hp.1 hp.2.1 hp.2.2.1 hp.2.2.2

theorem tot9 (L : List Int) (t : Int) : totalF L 9 t = if 9 < L.length then 3 else if t < 0 then 1 else checkF L 12 := by
  unfold totalF
  by_cases h : L.length ≤ 9
  · rw [decide_eq_true (show (L.length : Int) ≤ 9 by omega), if_neg (by omega)]
    by_cases ht : t < 0
    · rw [decide_eq_true ht, if_pos ht]; rfl
    · rw [decide_eq_false ht, if_neg ht]
      simp only [Bool.true_and, cond_false]
      exact checkF_most (m := 9) (m' := 12) (by omega) (by omega)
  · rw [decide_eq_false (show ¬ (L.length : Int) ≤ 9 by omega), if_pos (by omega)]
    simp only [Bool.false_and, cond_false]
    unfold checkF
    rw [decide_eq_true (show (9 : Int) < (L.length : Int) by omega)]; rfl
theorem ok5 : p5.OK Try.prog := p5.ok (fn := Try.f5) C5 (fun _ => cx_ok (cs := [p15.ci, p25.ci, p18.ci, p19.ci, n26.ci, p21.ci]) ⟨PC.OK.ci ok15, PC.OK.ci ok25, PC.OK.ci ok18, PC.OK.ci ok19, NilOK.ci ok26, PC.OK.ci ok21, trivial⟩ _) (by kernel_rfl) (by kernel_rfl) (by kernel_rfl) fun p hp => by
  have key : ∀ (x : List Int) (t : Int), Fits .i64 t → g5 x t := fun x t hfit => by
    refine (g5_eq x t).mpr ?_
    simp only [pp1, eq_self, and_true, true_and, and_self, same_def, nilT]
    have hL := take13 x
    generalize x.take 13 = L at hL
    refine ⟨⟨by omega, hfit⟩, by omega, ?_⟩
    have ht := tot9 L t
    by_cases hz : totalF L 9 t = 0
    · obtain ⟨⟨hw, h9⟩, h0⟩ := total9.1 hz
      have hc := check_ok.2 hw
      have hP : pansF L t = (match (pansL L).find? (goodP L t) with | none => ([], 5) | some x => (x, 0)) := by
        unfold pansF; rw [decide_eq_true hz]; rfl
      have hR : pansR L L.length t [] = (pansL L).find? (goodP L t) := pansR_eq hw.lo t L.length t [] (by simp) (by simp [dotF])
      rw [hc, hP, Nat.sub_zero, hR]
      have ht' : ¬ t < 0 := by omega
      have h9' : ¬ (9 : Int) < (L.length : Int) := by omega
      cases hf : (pansL L).find? (goodP L t) with
      | none => simp [hw, h9, hfit, ht', h9']
      | some y =>
        have hm := (mem_pansL.1 (List.mem_of_find?_eq_some hf)).1
        have hss : sameF y y = true := decide_eq_true rfl
        have hp := hw.pos
        have hy : y ≠ [] := fun e => by rw [e] at hm; simp at hm; omega
        simp [hw, h9, hfit, ht', h9', hy, hss]
        omega
    · have e1 : pansF L t = ([], totalF L 9 t) := by unfold pansF; rw [decide_eq_false hz]; rfl
      rw [e1]
      by_cases h9 : 9 < L.length
      · have e : totalF L 9 t = 3 := by rw [ht, if_pos h9]
        have h9' : (9 : Int) < (L.length : Int) := by omega
        rw [e]; simp [h9', h9]
      · have h9' : ¬ (9 : Int) < (L.length : Int) := by omega
        have hc3 : ¬ checkF L 12 = 3 := fun e => by have := check3.1 e; omega
        by_cases hn : t < 0
        · have e : totalF L 9 t = 1 := by rw [ht, if_neg h9, if_pos hn]
          rw [e]; simp [h9', hc3, hn]
        · have e : totalF L 9 t = checkF L 12 := by rw [ht, if_neg h9, if_neg hn]
          rw [e] at hz ⊢
          simp [h9', hc3, hn, hz]
  exact key p.1 p.2 hp
end Go.SX.We
