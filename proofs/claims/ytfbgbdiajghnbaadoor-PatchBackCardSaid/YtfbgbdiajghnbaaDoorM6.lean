/- Parts of the proof, one after the other: Pa13 Pa13E Pa13Q. -/
import Derived.Test.YtfbgbdiajghnbaaDoorM5
/- Chapter 06, part 13: the laws' makers of inputs; the laws PatchCount, PatchKonig, PatchEdges. -/
namespace Go.SX.Pa
open Go Go.Proofs
noncomputable section
@[reducible] def p33 : PC := ⟨33, [aB2s], [aEds], fun x => x.length ≤ maxLen ∧ ∀ p ∈ x, Byte2 p, graphX⟩
@[reducible] def A33 (x : List Ed) : Ann where
  τ := Nat
  pre := []
  preC := []
  keep := [0]
  slots k := [(4, .c (.int .i64 k)), (3, .c (.own 0 1))]
  ents k := [(0, .row 58 tEd 0 (graphTo x k))]
  ok k := k ≤ x.length ∧ k ≤ 12
  m k := 12 - k
@[reducible] def C33 (x : List Ed) : Ctx := cx [] [(0, fun _ => A33 x)]
def g33 (x : List Ed) : Prop := p33.VC (C33 x) Tryd.f33 x
@[reducible] def p36 : PC := ⟨36, [aIs, aI, aI], [aB], fun p => p.1.length ≤ 1000 ∧ -1000 ≤ p.2.2 ∧ p.2.2 ≤ 1000, fun p => decide ((∀ x ∈ p.1, 0 ≤ x ∧ x < p.2.2) ∧ (p.1.length : Int) = p.2.1)⟩
@[reducible] def C36 (p : List Int × Int × Int) : Ctx := cx [p21.ci] [(0, fun _ => upTo p.1.length 7 [0, 1, 2] fun k => ∀ x ∈ p.1.take k, 0 ≤ x ∧ x < p.2.2)]
def g36 (l : List Int) (n r : Int) : Prop := p36.VC (C36 (l, n, r)) Tryd.f36 (l, n, r)
@[reducible] def p37 : PC := ⟨37, [aB3], [aI, aI, aI], Byte3, netF⟩
def g37 (x : Int × Int × Int) : Prop := p37.VC (cx [] []) Tryd.f37 x

@[reducible] def p6 : PC := ⟨6, [aB2s], [aB], fun x => x.length ≤ maxLen ∧ ∀ p ∈ x, Byte2 p, fun _ => true⟩
@[reducible] def A6 (c : List Int) : Ann where
  τ := Nat
  pre := []
  preC := []
  keep := [3, 4, 5]
  slots k := [(7, .c (.int .i64 k)), (6, .c (.own 0 1))]
  ents k := [(0, .row 3 (.int .i64) 0 (seenF (c.take k)))]
  ok k := k ≤ c.length
  m k := c.length - k
@[reducible] def C6 (x : List Ed) : Ctx := cx [p33.ci, p26.ci, p34.ci, p35.ci, p30.ci, p36.ci, p25.ci] [(0, fun _ => A6 (colorsF 6 6 (graphX x)).1)]
def g6 (x : List Ed) : Prop := p6.VC (C6 x) Tryd.f6 x

@[reducible] def p7 : PC := ⟨7, [aB3, aBs], [aB], fun p => Byte3 p.1 ∧ Bytes p.2, fun _ => true⟩
@[reducible] def A7 (n r : Int) (perm : List Int) : Ann where
  τ := Nat
  pre := []
  preC := []
  keep := [5, 6, 8]
  slots k := [(10, .c (.int .i64 k)), (9, .c (.own 1 1))]
  ents k := [(1, .row 58 tEd 0 (edgesTo n perm k))]
  ok k := k ≤ n * r
  m k := (n * r).toNat - k
@[reducible] def C7 (p : (Int × Int × Int) × List Int) : Ctx := cx [p37.ci, p25.ci, p31.ci, p38.ci, p26.ci, p28.ci, p35.ci] [(0, fun _ => A7 (netF p.1).1 (netF p.1).2.1 (nthTo p.2 ((netF p.1).1 * (netF p.1).2.1).toNat))]
def g7 (x : Int × Int × Int) (code : List Int) : Prop := p7.VC (C7 (x, code)) Tryd.f7 (x, code)

@[reducible] def p5 : PC := ⟨5, [aU], [aB], fun x => 0 ≤ x ∧ x ≤ 255, fun _ => true⟩
def kOf (x : Int) : Nat := (x % 2 + 1).toNat
@[reducible] def A5a (K : Nat) : Ann where
  τ := Nat
  pre := []
  preC := []
  keep := [4]
  slots i := [(3, .c (.int .i64 K)), (6, .c (.int .i64 i)), (5, .c (.int .i64 (facN (i - 1))))]
  ents _ := []
  ok i := 2 ≤ i ∧ i ≤ 2 ^ K + 1
  m i := 2 ^ K + 1 - i
@[reducible] def A5b (K : Nat) : Ann where
  τ := Nat
  pre := []
  preC := []
  keep := [3]
  slots p := [(7, .c (.int .i64 p)), (4, .c (.int .i64 (sumTo K p))), (5, .c (.int .i64 (facN (2 ^ K))))]
  ents _ := []
  ok p := p ≤ facN (2 ^ K)
  m p := facN (2 ^ K) - p
@[reducible] def A5c (K : Nat) (p : Nat) : Ann where
  τ := Nat
  pre := []
  preC := []
  keep := [3, 4, 5, 7]
  slots i := [(10, .c (.int .i64 i)), (9, .c (.int .i64 (codeTo p i).2)), (8, .c (.own 0 1))]
  ents i := [(0, .row 5 (.int .u8) 0 (codeTo p i).1)]
  ok i := i ≤ 2 ^ K
  m i := 2 ^ K - i
@[reducible] def C5 (x : Int) : Ctx := cx [p31.ci, p18.ci, p19.ci, p32.ci, p25.ci] [(0, fun _ => A5a (kOf x)), (1, fun _ => A5b (kOf x)), (2, withI 7 fun p => A5c (kOf x) p.toNat)]
def g5 (x : Int) : Prop := p5.VC (C5 x) Tryd.f5 x
end
end Go.SX.Pa

/- Printed by VC.lean: what the executor asks. -/
namespace Go.SX.Pa
open Go Go.Proofs
theorem g33_eq (x : List Ed) : g33 x = (
 (∃ (x0 : Nat), (x0 ≤ x.length ∧ x0 ≤ (12 : Nat)) ∧ ([] = graphTo x x0 ∧ True) ∧ (0 : Int) = (↑x0 : Int) ∧ True ∧ x = x ∧ True) ∧
 ∀ (x_1 : Nat),
 x_1 ≤ x.length ∧ x_1 ≤ (12 : Nat) →
 ((↑x_1 : Int) < (↑x.length : Int) →
 (↑x_1 : Int) < (↑x.length : Int) ∧
 (↑x_1 : Int) < (↑x.length : Int) ∧
 ((↑x_1 : Int) < (12 : Int) →
 (↑x_1 : Int) < (12 : Int) ∧
 (↑x_1 : Int) < (12 : Int) ∧
 ((0 : Int) ≤ (↑x_1 : Int) ∧ (↑x_1 : Int) < (↑x.length : Int)) ∧
 Fits IntKind.i64 (x.getD (↑x_1 : Int).toNat ((0 : Int), (0 : Int))).fst ∧
 ((0 : Int) ≤ (x.getD (↑x_1 : Int).toNat ((0 : Int), (0 : Int))).fst ∧ (0 : Int) < (6 : Int)) ∧
 ((0 : Int) ≤ (↑x_1 : Int) ∧ (↑x_1 : Int) < (↑x.length : Int)) ∧
 Fits IntKind.i64 (x.getD (↑x_1 : Int).toNat ((0 : Int), (0 : Int))).snd ∧
 ((0 : Int) ≤ (x.getD (↑x_1 : Int).toNat ((0 : Int), (0 : Int))).snd ∧ (0 : Int) < (6 : Int)) ∧
 Small ((graphTo x x_1).length + ((0 : Nat) + (1 : Nat))) ∧
 Fits IntKind.i64 ((↑x_1 : Int) + (1 : Int)) ∧
 ∃ (x' : Nat),
 (x' ≤ x.length ∧ x' ≤ (12 : Nat)) ∧
 (12 : Nat) - x' < (12 : Nat) - x_1 ∧
 (graphTo x x_1 ++
 [((x.getD (↑x_1 : Int).toNat ((0 : Int), (0 : Int))).fst % (6 : Int),
 (x.getD (↑x_1 : Int).toNat ((0 : Int), (0 : Int))).snd % (6 : Int))] =
 graphTo x x' ∧
 True) ∧
 (↑x_1 : Int) + (1 : Int) = (↑x' : Int) ∧ True ∧ x = x ∧ True) ∧
 (¬(↑x_1 : Int) < (12 : Int) → ¬(↑x_1 : Int) < (12 : Int) ∧ ¬(↑x_1 : Int) < (12 : Int) ∧ graphTo x x_1 = graphX x)) ∧
 (¬(↑x_1 : Int) < (↑x.length : Int) → ¬(↑x_1 : Int) < (↑x.length : Int) ∧ ¬(↑x_1 : Int) < (↑x.length : Int) ∧ graphTo x x_1 = graphX x)) := by
 kernel_rfl

theorem g36_eq (l : List Int) (n : Int) (r : Int) : g36 l n r = (
 (∃ (x0 : Nat), (x0 ≤ l.length ∧ ∀ (x : Int), x ∈ List.take x0 l → (0 : Int) ≤ x ∧ x < r) ∧ True ∧ (0 : Int) = (↑x0 : Int) ∧ l = l ∧ n = n ∧ r = r ∧ True) ∧
 ∀ (x : Nat),
 (x ≤ l.length ∧ ∀ (x_1 : Int), x_1 ∈ List.take x l → (0 : Int) ≤ x_1 ∧ x_1 < r) →
 ((↑x : Int) < (↑l.length : Int) →
 (↑x : Int) < (↑l.length : Int) ∧
 ((0 : Int) ≤ (↑x : Int) ∧ (↑x : Int) < (↑l.length : Int)) ∧
 Fits IntKind.i64 (r - (1 : Int)) ∧
 True ∧
 ((!decide ((0 : Int) ≤ l.getD (↑x : Int).toNat (0 : Int) ∧ l.getD (↑x : Int).toNat (0 : Int) ≤ r - (1 : Int))) = true →
 (!decide ((0 : Int) ≤ l.getD (↑x : Int).toNat (0 : Int) ∧ l.getD (↑x : Int).toNat (0 : Int) ≤ r - (1 : Int))) = true ∧
 false = decide ((∀ (x : Int), x ∈ l → (0 : Int) ≤ x ∧ x < r) ∧ (↑l.length : Int) = n)) ∧
 ((!decide ((0 : Int) ≤ l.getD (↑x : Int).toNat (0 : Int) ∧ l.getD (↑x : Int).toNat (0 : Int) ≤ r - (1 : Int))) = false →
 (!decide ((0 : Int) ≤ l.getD (↑x : Int).toNat (0 : Int) ∧ l.getD (↑x : Int).toNat (0 : Int) ≤ r - (1 : Int))) = false ∧
 Fits IntKind.i64 ((↑x : Int) + (1 : Int)) ∧
 ∃ (x' : Nat),
 (x' ≤ l.length ∧ ∀ (x : Int), x ∈ List.take x' l → (0 : Int) ≤ x ∧ x < r) ∧
 l.length - x' < l.length - x ∧ True ∧ (↑x : Int) + (1 : Int) = (↑x' : Int) ∧ l = l ∧ n = n ∧ r = r ∧ True)) ∧
 (¬(↑x : Int) < (↑l.length : Int) →
 ¬(↑x : Int) < (↑l.length : Int) ∧ decide ((↑l.length : Int) = n) = decide ((∀ (x : Int), x ∈ l → (0 : Int) ≤ x ∧ x < r) ∧ (↑l.length : Int) = n))) := by
 kernel_rfl

theorem g37_eq (x : Int × Int × Int) : g37 x = (
 Fits IntKind.i64 x.fst ∧
 ((0 : Int) ≤ x.fst ∧ (0 : Int) < (12 : Int)) ∧
 Fits IntKind.i64 (x.fst % (12 : Int) + (1 : Int)) ∧
 Fits IntKind.i64 x.snd.fst ∧
 ((0 : Int) ≤ (12 : Int) ∧ (0 : Int) < x.fst % (12 : Int) + (1 : Int)) ∧
 Fits IntKind.i64 ((12 : Int) / (x.fst % (12 : Int) + (1 : Int))) ∧
 ((0 : Int) ≤ x.snd.fst ∧ (0 : Int) < (12 : Int) / (x.fst % (12 : Int) + (1 : Int))) ∧
 Fits IntKind.i64 (x.snd.fst % ((12 : Int) / (x.fst % (12 : Int) + (1 : Int))) + (1 : Int)) ∧
 Fits IntKind.i64 x.snd.snd ∧
 ((0 : Int) ≤ x.snd.snd ∧ (0 : Int) < (12 : Int)) ∧
 Fits IntKind.i64 (x.snd.snd % (12 : Int) + (1 : Int)) ∧
 (x.fst % (12 : Int) + (1 : Int), x.snd.fst % ((12 : Int) / (x.fst % (12 : Int) + (1 : Int))) + (1 : Int), x.snd.snd % (12 : Int) + (1 : Int)) = netF x) := by
 kernel_rfl

theorem g6_eq (x : List Ed) : g6 x = (
 (x.length ≤ maxLen ∧ ∀ (p : Int × Int), p ∈ x → ((0 : Int) ≤ p.fst ∧ p.fst ≤ (255 : Int)) ∧ (0 : Int) ≤ p.snd ∧ p.snd ≤ (255 : Int)) ∧
 (graphX x).length ≤ (1000 : Nat) ∧
 (∃ (x0 : Nat),
 x0 ≤ (colorsF (6 : Int) (6 : Int) (graphX x)).fst.length ∧
 ([] = seenF (List.take x0 (colorsF (6 : Int) (6 : Int) (graphX x)).fst) ∧ True) ∧
 (0 : Int) = (↑x0 : Int) ∧
 True ∧
 (colorsF (6 : Int) (6 : Int) (graphX x)).snd = (colorsF (6 : Int) (6 : Int) (graphX x)).snd ∧
 (colorsF (6 : Int) (6 : Int) (graphX x)).fst = (colorsF (6 : Int) (6 : Int) (graphX x)).fst ∧ graphX x = graphX x ∧ True) ∧
 ∀ (x_1 : Nat),
 x_1 ≤ (colorsF (6 : Int) (6 : Int) (graphX x)).fst.length →
 ((↑x_1 : Int) < (↑(colorsF (6 : Int) (6 : Int) (graphX x)).fst.length : Int) →
 (↑x_1 : Int) < (↑(colorsF (6 : Int) (6 : Int) (graphX x)).fst.length : Int) ∧
 ((0 : Int) ≤ (↑x_1 : Int) ∧ (↑x_1 : Int) < (↑(colorsF (6 : Int) (6 : Int) (graphX x)).fst.length : Int)) ∧
 (seenF (List.take x_1 (colorsF (6 : Int) (6 : Int) (graphX x)).fst)).length ≤ (1000 : Nat) ∧
 ((!decide
 ((colorsF (6 : Int) (6 : Int) (graphX x)).fst.getD (↑x_1 : Int).toNat (0 : Int) ∈
 seenF (List.take x_1 (colorsF (6 : Int) (6 : Int) (graphX x)).fst))) =
 true →
 (!decide
 ((colorsF (6 : Int) (6 : Int) (graphX x)).fst.getD (↑x_1 : Int).toNat (0 : Int) ∈
 seenF (List.take x_1 (colorsF (6 : Int) (6 : Int) (graphX x)).fst))) =
 true ∧
 ((0 : Int) ≤ (↑x_1 : Int) ∧ (↑x_1 : Int) < (↑(colorsF (6 : Int) (6 : Int) (graphX x)).fst.length : Int)) ∧
 Small ((seenF (List.take x_1 (colorsF (6 : Int) (6 : Int) (graphX x)).fst)).length + ((0 : Nat) + (1 : Nat))) ∧
 Fits IntKind.i64 ((↑x_1 : Int) + (1 : Int)) ∧
 ∃ (x' : Nat),
 x' ≤ (colorsF (6 : Int) (6 : Int) (graphX x)).fst.length ∧
 (colorsF (6 : Int) (6 : Int) (graphX x)).fst.length - x' < (colorsF (6 : Int) (6 : Int) (graphX x)).fst.length - x_1 ∧
 (seenF (List.take x_1 (colorsF (6 : Int) (6 : Int) (graphX x)).fst) ++
 [(colorsF (6 : Int) (6 : Int) (graphX x)).fst.getD (↑x_1 : Int).toNat (0 : Int)] =
 seenF (List.take x' (colorsF (6 : Int) (6 : Int) (graphX x)).fst) ∧
 True) ∧
 (↑x_1 : Int) + (1 : Int) = (↑x' : Int) ∧
 True ∧
 (colorsF (6 : Int) (6 : Int) (graphX x)).snd = (colorsF (6 : Int) (6 : Int) (graphX x)).snd ∧
 (colorsF (6 : Int) (6 : Int) (graphX x)).fst = (colorsF (6 : Int) (6 : Int) (graphX x)).fst ∧ graphX x = graphX x ∧ True) ∧
 ((!decide
 ((colorsF (6 : Int) (6 : Int) (graphX x)).fst.getD (↑x_1 : Int).toNat (0 : Int) ∈
 seenF (List.take x_1 (colorsF (6 : Int) (6 : Int) (graphX x)).fst))) =
 false →
 (!decide
 ((colorsF (6 : Int) (6 : Int) (graphX x)).fst.getD (↑x_1 : Int).toNat (0 : Int) ∈
 seenF (List.take x_1 (colorsF (6 : Int) (6 : Int) (graphX x)).fst))) =
 false ∧
 Fits IntKind.i64 ((↑x_1 : Int) + (1 : Int)) ∧
 ∃ (x' : Nat),
 x' ≤ (colorsF (6 : Int) (6 : Int) (graphX x)).fst.length ∧
 (colorsF (6 : Int) (6 : Int) (graphX x)).fst.length - x' < (colorsF (6 : Int) (6 : Int) (graphX x)).fst.length - x_1 ∧
 (seenF (List.take x_1 (colorsF (6 : Int) (6 : Int) (graphX x)).fst) = seenF (List.take x' (colorsF (6 : Int) (6 : Int) (graphX x)).fst) ∧ True) ∧
 (↑x_1 : Int) + (1 : Int) = (↑x' : Int) ∧
 True ∧
 (colorsF (6 : Int) (6 : Int) (graphX x)).snd = (colorsF (6 : Int) (6 : Int) (graphX x)).snd ∧
 (colorsF (6 : Int) (6 : Int) (graphX x)).fst = (colorsF (6 : Int) (6 : Int) (graphX x)).fst ∧ graphX x = graphX x ∧ True)) ∧
 (¬(↑x_1 : Int) < (↑(colorsF (6 : Int) (6 : Int) (graphX x)).fst.length : Int) →
 ¬(↑x_1 : Int) < (↑(colorsF (6 : Int) (6 : Int) (graphX x)).fst.length : Int) ∧
 ((colorsF (6 : Int) (6 : Int) (graphX x)).snd = (0 : Int) →
 (colorsF (6 : Int) (6 : Int) (graphX x)).snd = (0 : Int) ∧
 (colorsF (6 : Int) (6 : Int) (graphX x)).snd = (0 : Int) ∧
 ((↑(colorsF (6 : Int) (6 : Int) (graphX x)).fst.length : Int) = (↑(graphX x).length : Int) →
 (↑(colorsF (6 : Int) (6 : Int) (graphX x)).fst.length : Int) = (↑(graphX x).length : Int) ∧
 (↑(colorsF (6 : Int) (6 : Int) (graphX x)).fst.length : Int) = (↑(graphX x).length : Int) ∧
 (↑(colorsF (6 : Int) (6 : Int) (graphX x)).fst.length : Int) = (↑(graphX x).length : Int) ∧
 ((graphX x).length ≤ (1000 : Nat) ∧ (colorsF (6 : Int) (6 : Int) (graphX x)).fst.length ≤ (graphX x).length) ∧
 (properF (graphX x) (colorsF (6 : Int) (6 : Int) (graphX x)).fst = true →
 properF (graphX x) (colorsF (6 : Int) (6 : Int) (graphX x)).fst = true ∧
 properF (graphX x) (colorsF (6 : Int) (6 : Int) (graphX x)).fst = true ∧
 properF (graphX x) (colorsF (6 : Int) (6 : Int) (graphX x)).fst = true ∧
 (graphX x).length ≤ (1000 : Nat) ∧
 ((↑(seenF (List.take x_1 (colorsF (6 : Int) (6 : Int) (graphX x)).fst)).length : Int) = degR (graphX x) (6 : Nat) →
 (↑(seenF (List.take x_1 (colorsF (6 : Int) (6 : Int) (graphX x)).fst)).length : Int) = degR (graphX x) (6 : Nat) ∧
 (↑(seenF (List.take x_1 (colorsF (6 : Int) (6 : Int) (graphX x)).fst)).length : Int) = degR (graphX x) (6 : Nat) ∧
 (↑(seenF (List.take x_1 (colorsF (6 : Int) (6 : Int) (graphX x)).fst)).length : Int) = degR (graphX x) (6 : Nat) ∧
 (graphX x).length ≤ (1000 : Nat) ∧
 ((colorsF (6 : Int) (6 : Int) (graphX x)).fst.length ≤ (1000 : Nat) ∧
 (-1000 : Int) ≤ max (degR (graphX x) (6 : Nat)) (1 : Int) ∧
 max (degR (graphX x) (6 : Nat)) (1 : Int) ≤ (1000 : Int)) ∧
 (decide
 ((∀ (x_2 : Int),
 x_2 ∈ (colorsF (6 : Int) (6 : Int) (graphX x)).fst →
 (0 : Int) ≤ x_2 ∧ x_2 < max (degR (graphX x) (6 : Nat)) (1 : Int)) ∧
 (↑(colorsF (6 : Int) (6 : Int) (graphX x)).fst.length : Int) = (↑(graphX x).length : Int)) =
 true →
 decide
 ((∀ (x_2 : Int),
 x_2 ∈ (colorsF (6 : Int) (6 : Int) (graphX x)).fst →
 (0 : Int) ≤ x_2 ∧ x_2 < max (degR (graphX x) (6 : Nat)) (1 : Int)) ∧
 (↑(colorsF (6 : Int) (6 : Int) (graphX x)).fst.length : Int) = (↑(graphX x).length : Int)) =
 true ∧
 decide
 ((∀ (x_2 : Int),
 x_2 ∈ (colorsF (6 : Int) (6 : Int) (graphX x)).fst →
 (0 : Int) ≤ x_2 ∧ x_2 < max (degR (graphX x) (6 : Nat)) (1 : Int)) ∧
 (↑(colorsF (6 : Int) (6 : Int) (graphX x)).fst.length : Int) = (↑(graphX x).length : Int)) =
 true ∧
 decide
 ((∀ (x_2 : Int),
 x_2 ∈ (colorsF (6 : Int) (6 : Int) (graphX x)).fst →
 (0 : Int) ≤ x_2 ∧ x_2 < max (degR (graphX x) (6 : Nat)) (1 : Int)) ∧
 (↑(colorsF (6 : Int) (6 : Int) (graphX x)).fst.length : Int) = (↑(graphX x).length : Int)) =
 true ∧
 True ∧ true = true) ∧
 (decide
 ((∀ (x_2 : Int),
 x_2 ∈ (colorsF (6 : Int) (6 : Int) (graphX x)).fst →
 (0 : Int) ≤ x_2 ∧ x_2 < max (degR (graphX x) (6 : Nat)) (1 : Int)) ∧
 (↑(colorsF (6 : Int) (6 : Int) (graphX x)).fst.length : Int) = (↑(graphX x).length : Int)) =
 false →
 decide
 ((∀ (x_2 : Int),
 x_2 ∈ (colorsF (6 : Int) (6 : Int) (graphX x)).fst →
 (0 : Int) ≤ x_2 ∧ x_2 < max (degR (graphX x) (6 : Nat)) (1 : Int)) ∧
 (↑(colorsF (6 : Int) (6 : Int) (graphX x)).fst.length : Int) = (↑(graphX x).length : Int)) =
 false ∧
 decide
 ((∀ (x_2 : Int),
 x_2 ∈ (colorsF (6 : Int) (6 : Int) (graphX x)).fst →
 (0 : Int) ≤ x_2 ∧ x_2 < max (degR (graphX x) (6 : Nat)) (1 : Int)) ∧
 (↑(colorsF (6 : Int) (6 : Int) (graphX x)).fst.length : Int) = (↑(graphX x).length : Int)) =
 false ∧
 decide
 ((∀ (x_2 : Int),
 x_2 ∈ (colorsF (6 : Int) (6 : Int) (graphX x)).fst →
 (0 : Int) ≤ x_2 ∧ x_2 < max (degR (graphX x) (6 : Nat)) (1 : Int)) ∧
 (↑(colorsF (6 : Int) (6 : Int) (graphX x)).fst.length : Int) = (↑(graphX x).length : Int)) =
 false ∧
 false = true)) ∧
 (¬(↑(seenF (List.take x_1 (colorsF (6 : Int) (6 : Int) (graphX x)).fst)).length : Int) = degR (graphX x) (6 : Nat) →
 ¬(↑(seenF (List.take x_1 (colorsF (6 : Int) (6 : Int) (graphX x)).fst)).length : Int) = degR (graphX x) (6 : Nat) ∧
 ¬(↑(seenF (List.take x_1 (colorsF (6 : Int) (6 : Int) (graphX x)).fst)).length : Int) = degR (graphX x) (6 : Nat) ∧
 ¬(↑(seenF (List.take x_1 (colorsF (6 : Int) (6 : Int) (graphX x)).fst)).length : Int) = degR (graphX x) (6 : Nat) ∧
 false = true)) ∧
 (properF (graphX x) (colorsF (6 : Int) (6 : Int) (graphX x)).fst = false →
 properF (graphX x) (colorsF (6 : Int) (6 : Int) (graphX x)).fst = false ∧
 properF (graphX x) (colorsF (6 : Int) (6 : Int) (graphX x)).fst = false ∧
 properF (graphX x) (colorsF (6 : Int) (6 : Int) (graphX x)).fst = false ∧ false = true)) ∧
 (¬(↑(colorsF (6 : Int) (6 : Int) (graphX x)).fst.length : Int) = (↑(graphX x).length : Int) →
 ¬(↑(colorsF (6 : Int) (6 : Int) (graphX x)).fst.length : Int) = (↑(graphX x).length : Int) ∧
 ¬(↑(colorsF (6 : Int) (6 : Int) (graphX x)).fst.length : Int) = (↑(graphX x).length : Int) ∧
 ¬(↑(colorsF (6 : Int) (6 : Int) (graphX x)).fst.length : Int) = (↑(graphX x).length : Int) ∧ false = true)) ∧
 (¬(colorsF (6 : Int) (6 : Int) (graphX x)).snd = (0 : Int) →
 ¬(colorsF (6 : Int) (6 : Int) (graphX x)).snd = (0 : Int) ∧ ¬(colorsF (6 : Int) (6 : Int) (graphX x)).snd = (0 : Int) ∧ false = true))) := by
 kernel_rfl

theorem g7_eq (x : Int × Int × Int) (code : List Int) : g7 x code = (
 (((0 : Int) ≤ x.fst ∧ x.fst ≤ (255 : Int)) ∧ ((0 : Int) ≤ x.snd.fst ∧ x.snd.fst ≤ (255 : Int)) ∧ (0 : Int) ≤ x.snd.snd ∧ x.snd.snd ≤ (255 : Int)) ∧
 ((6 : Int) < (netF (x.fst, x.snd.fst, x.snd.snd)).snd.fst → (6 : Int) < (netF (x.fst, x.snd.fst, x.snd.snd)).snd.fst ∧ True ∧ true = true) ∧
 (¬(6 : Int) < (netF (x.fst, x.snd.fst, x.snd.snd)).snd.fst →
 ¬(6 : Int) < (netF (x.fst, x.snd.fst, x.snd.snd)).snd.fst ∧
 Fits IntKind.i64 ((netF (x.fst, x.snd.fst, x.snd.snd)).fst * (netF (x.fst, x.snd.fst, x.snd.snd)).snd.fst) ∧
 (((0 : Int) ≤ (netF (x.fst, x.snd.fst, x.snd.snd)).fst * (netF (x.fst, x.snd.fst, x.snd.snd)).snd.fst ∧
 (netF (x.fst, x.snd.fst, x.snd.snd)).fst * (netF (x.fst, x.snd.fst, x.snd.snd)).snd.fst ≤ (100 : Int)) ∧
 code.length ≤ maxLen ∧ ∀ (b : Int), b ∈ code → (0 : Int) ≤ b ∧ b ≤ (255 : Int)) ∧
 (∃ (x0 : Nat),
 (↑x0 : Int) ≤ (netF x).fst * (netF x).snd.fst ∧
 ((x.fst = x.fst ∧ x.snd.fst = x.snd.fst ∧ x.snd.snd = x.snd.snd ∧ True) ∧
 [] = edgesTo (netF x).fst (nthTo code ((netF x).fst * (netF x).snd.fst).toNat) x0 ∧ True) ∧
 (0 : Int) = (↑x0 : Int) ∧
 True ∧
 nthTo code ((netF (x.fst, x.snd.fst, x.snd.snd)).fst * (netF (x.fst, x.snd.fst, x.snd.snd)).snd.fst).toNat =
 nthTo code ((netF (x.fst, x.snd.fst, x.snd.snd)).fst * (netF (x.fst, x.snd.fst, x.snd.snd)).snd.fst).toNat ∧
 (netF (x.fst, x.snd.fst, x.snd.snd)).snd.fst = (netF (x.fst, x.snd.fst, x.snd.snd)).snd.fst ∧
 (netF (x.fst, x.snd.fst, x.snd.snd)).fst = (netF (x.fst, x.snd.fst, x.snd.snd)).fst ∧ True) ∧
 ∀ (x_1 : Nat),
 (↑x_1 : Int) ≤ (netF x).fst * (netF x).snd.fst →
 Fits IntKind.i64 ((netF (x.fst, x.snd.fst, x.snd.snd)).fst * (netF (x.fst, x.snd.fst, x.snd.snd)).snd.fst) ∧
 ((↑x_1 : Int) < (netF (x.fst, x.snd.fst, x.snd.snd)).fst * (netF (x.fst, x.snd.fst, x.snd.snd)).snd.fst →
 (↑x_1 : Int) < (netF (x.fst, x.snd.fst, x.snd.snd)).fst * (netF (x.fst, x.snd.fst, x.snd.snd)).snd.fst ∧
 ((0 : Int) ≤ (↑x_1 : Int) ∧ (0 : Int) < (netF (x.fst, x.snd.fst, x.snd.snd)).fst) ∧
 Fits IntKind.i64 ((↑x_1 : Int) / (netF (x.fst, x.snd.fst, x.snd.snd)).fst) ∧
 ((0 : Int) ≤ (↑x_1 : Int) ∧
 (↑x_1 : Int) < (↑(nthTo code ((netF (x.fst, x.snd.fst, x.snd.snd)).fst * (netF (x.fst, x.snd.fst, x.snd.snd)).snd.fst).toNat).length : Int)) ∧
 ((0 : Int) ≤
 (nthTo code ((netF (x.fst, x.snd.fst, x.snd.snd)).fst * (netF (x.fst, x.snd.fst, x.snd.snd)).snd.fst).toNat).getD (↑x_1 : Int).toNat
 (0 : Int) ∧
 (0 : Int) < (netF (x.fst, x.snd.fst, x.snd.snd)).fst) ∧
 Fits IntKind.i64
 ((nthTo code ((netF (x.fst, x.snd.fst, x.snd.snd)).fst * (netF (x.fst, x.snd.fst, x.snd.snd)).snd.fst).toNat).getD (↑x_1 : Int).toNat
 (0 : Int) /
 (netF (x.fst, x.snd.fst, x.snd.snd)).fst) ∧
 Small ((edgesTo (netF x).fst (nthTo code ((netF x).fst * (netF x).snd.fst).toNat) x_1).length + ((0 : Nat) + (1 : Nat))) ∧
 Fits IntKind.i64 ((↑x_1 : Int) + (1 : Int)) ∧
 ∃ (x' : Nat),
 (↑x' : Int) ≤ (netF x).fst * (netF x).snd.fst ∧
 ((netF x).fst * (netF x).snd.fst).toNat - x' < ((netF x).fst * (netF x).snd.fst).toNat - x_1 ∧
 ((x.fst = x.fst ∧ x.snd.fst = x.snd.fst ∧ x.snd.snd = x.snd.snd ∧ True) ∧
 edgesTo (netF x).fst (nthTo code ((netF x).fst * (netF x).snd.fst).toNat) x_1 ++
 [((↑x_1 : Int) / (netF (x.fst, x.snd.fst, x.snd.snd)).fst,
 (nthTo code ((netF (x.fst, x.snd.fst, x.snd.snd)).fst * (netF (x.fst, x.snd.fst, x.snd.snd)).snd.fst).toNat).getD
 (↑x_1 : Int).toNat (0 : Int) /
 (netF (x.fst, x.snd.fst, x.snd.snd)).fst)] =
 edgesTo (netF x).fst (nthTo code ((netF x).fst * (netF x).snd.fst).toNat) x' ∧
 True) ∧
 (↑x_1 : Int) + (1 : Int) = (↑x' : Int) ∧
 True ∧
 nthTo code ((netF (x.fst, x.snd.fst, x.snd.snd)).fst * (netF (x.fst, x.snd.fst, x.snd.snd)).snd.fst).toNat =
 nthTo code ((netF (x.fst, x.snd.fst, x.snd.snd)).fst * (netF (x.fst, x.snd.fst, x.snd.snd)).snd.fst).toNat ∧
 (netF (x.fst, x.snd.fst, x.snd.snd)).snd.fst = (netF (x.fst, x.snd.fst, x.snd.snd)).snd.fst ∧
 (netF (x.fst, x.snd.fst, x.snd.snd)).fst = (netF (x.fst, x.snd.fst, x.snd.snd)).fst ∧ True) ∧
 (¬(↑x_1 : Int) < (netF (x.fst, x.snd.fst, x.snd.snd)).fst * (netF (x.fst, x.snd.fst, x.snd.snd)).snd.fst →
 ¬(↑x_1 : Int) < (netF (x.fst, x.snd.fst, x.snd.snd)).fst * (netF (x.fst, x.snd.fst, x.snd.snd)).snd.fst ∧
 (nthTo code ((netF (x.fst, x.snd.fst, x.snd.snd)).fst * (netF (x.fst, x.snd.fst, x.snd.snd)).snd.fst).toNat).length ≤ (1000 : Nat) ∧
 (edgesTo (netF x).fst (nthTo code ((netF x).fst * (netF x).snd.fst).toNat) x_1).length ≤ (1000 : Nat) ∧
 ((routeF (netF (x.fst, x.snd.fst, x.snd.snd)).fst (netF (x.fst, x.snd.fst, x.snd.snd)).snd.fst (netF (x.fst, x.snd.fst, x.snd.snd)).fst
 (nthTo code ((netF (x.fst, x.snd.fst, x.snd.snd)).fst * (netF (x.fst, x.snd.fst, x.snd.snd)).snd.fst).toNat)).snd =
 (0 : Int) →
 (routeF (netF (x.fst, x.snd.fst, x.snd.snd)).fst (netF (x.fst, x.snd.fst, x.snd.snd)).snd.fst (netF (x.fst, x.snd.fst, x.snd.snd)).fst
 (nthTo code ((netF (x.fst, x.snd.fst, x.snd.snd)).fst * (netF (x.fst, x.snd.fst, x.snd.snd)).snd.fst).toNat)).snd =
 (0 : Int) ∧
 (routeF (netF (x.fst, x.snd.fst, x.snd.snd)).fst (netF (x.fst, x.snd.fst, x.snd.snd)).snd.fst (netF (x.fst, x.snd.fst, x.snd.snd)).fst
 (nthTo code ((netF (x.fst, x.snd.fst, x.snd.snd)).fst * (netF (x.fst, x.snd.fst, x.snd.snd)).snd.fst).toNat)).snd =
 (0 : Int) ∧
 ((colorsF (netF (x.fst, x.snd.fst, x.snd.snd)).snd.fst (netF (x.fst, x.snd.fst, x.snd.snd)).snd.fst
 (edgesTo (netF x).fst (nthTo code ((netF x).fst * (netF x).snd.fst).toNat) x_1)).snd =
 (0 : Int) →
 (colorsF (netF (x.fst, x.snd.fst, x.snd.snd)).snd.fst (netF (x.fst, x.snd.fst, x.snd.snd)).snd.fst
 (edgesTo (netF x).fst (nthTo code ((netF x).fst * (netF x).snd.fst).toNat) x_1)).snd =
 (0 : Int) ∧
 (colorsF (netF (x.fst, x.snd.fst, x.snd.snd)).snd.fst (netF (x.fst, x.snd.fst, x.snd.snd)).snd.fst
 (edgesTo (netF x).fst (nthTo code ((netF x).fst * (netF x).snd.fst).toNat) x_1)).snd =
 (0 : Int) ∧
 (colorsF (netF (x.fst, x.snd.fst, x.snd.snd)).snd.fst (netF (x.fst, x.snd.fst, x.snd.snd)).snd.fst
 (edgesTo (netF x).fst (nthTo code ((netF x).fst * (netF x).snd.fst).toNat) x_1)).snd =
 (0 : Int) ∧
 ((routeF (netF (x.fst, x.snd.fst, x.snd.snd)).fst (netF (x.fst, x.snd.fst, x.snd.snd)).snd.fst
 (netF (x.fst, x.snd.fst, x.snd.snd)).fst
 (nthTo code
 ((netF (x.fst, x.snd.fst, x.snd.snd)).fst * (netF (x.fst, x.snd.fst, x.snd.snd)).snd.fst).toNat)).fst.length ≤
 (1000 : Nat) ∧
 (colorsF (netF (x.fst, x.snd.fst, x.snd.snd)).snd.fst (netF (x.fst, x.snd.fst, x.snd.snd)).snd.fst
 (edgesTo (netF x).fst (nthTo code ((netF x).fst * (netF x).snd.fst).toNat) x_1)).fst.length ≤
 (1000 : Nat)) ∧
 (decide
 ((routeF (netF (x.fst, x.snd.fst, x.snd.snd)).fst (netF (x.fst, x.snd.fst, x.snd.snd)).snd.fst
 (netF (x.fst, x.snd.fst, x.snd.snd)).fst
 (nthTo code ((netF (x.fst, x.snd.fst, x.snd.snd)).fst * (netF (x.fst, x.snd.fst, x.snd.snd)).snd.fst).toNat)).fst =
 (colorsF (netF (x.fst, x.snd.fst, x.snd.snd)).snd.fst (netF (x.fst, x.snd.fst, x.snd.snd)).snd.fst
 (edgesTo (netF x).fst (nthTo code ((netF x).fst * (netF x).snd.fst).toNat) x_1)).fst) =
 true →
 decide
 ((routeF (netF (x.fst, x.snd.fst, x.snd.snd)).fst (netF (x.fst, x.snd.fst, x.snd.snd)).snd.fst
 (netF (x.fst, x.snd.fst, x.snd.snd)).fst
 (nthTo code
 ((netF (x.fst, x.snd.fst, x.snd.snd)).fst * (netF (x.fst, x.snd.fst, x.snd.snd)).snd.fst).toNat)).fst =
 (colorsF (netF (x.fst, x.snd.fst, x.snd.snd)).snd.fst (netF (x.fst, x.snd.fst, x.snd.snd)).snd.fst
 (edgesTo (netF x).fst (nthTo code ((netF x).fst * (netF x).snd.fst).toNat) x_1)).fst) =
 true ∧
 decide
 ((routeF (netF (x.fst, x.snd.fst, x.snd.snd)).fst (netF (x.fst, x.snd.fst, x.snd.snd)).snd.fst
 (netF (x.fst, x.snd.fst, x.snd.snd)).fst
 (nthTo code
 ((netF (x.fst, x.snd.fst, x.snd.snd)).fst * (netF (x.fst, x.snd.fst, x.snd.snd)).snd.fst).toNat)).fst =
 (colorsF (netF (x.fst, x.snd.fst, x.snd.snd)).snd.fst (netF (x.fst, x.snd.fst, x.snd.snd)).snd.fst
 (edgesTo (netF x).fst (nthTo code ((netF x).fst * (netF x).snd.fst).toNat) x_1)).fst) =
 true ∧
 decide
 ((routeF (netF (x.fst, x.snd.fst, x.snd.snd)).fst (netF (x.fst, x.snd.fst, x.snd.snd)).snd.fst
 (netF (x.fst, x.snd.fst, x.snd.snd)).fst
 (nthTo code
 ((netF (x.fst, x.snd.fst, x.snd.snd)).fst * (netF (x.fst, x.snd.fst, x.snd.snd)).snd.fst).toNat)).fst =
 (colorsF (netF (x.fst, x.snd.fst, x.snd.snd)).snd.fst (netF (x.fst, x.snd.fst, x.snd.snd)).snd.fst
 (edgesTo (netF x).fst (nthTo code ((netF x).fst * (netF x).snd.fst).toNat) x_1)).fst) =
 true ∧
 ((edgesTo (netF x).fst (nthTo code ((netF x).fst * (netF x).snd.fst).toNat) x_1).length ≤ (1000 : Nat) ∧
 (routeF (netF (x.fst, x.snd.fst, x.snd.snd)).fst (netF (x.fst, x.snd.fst, x.snd.snd)).snd.fst
 (netF (x.fst, x.snd.fst, x.snd.snd)).fst
 (nthTo code
 ((netF (x.fst, x.snd.fst, x.snd.snd)).fst *
 (netF (x.fst, x.snd.fst, x.snd.snd)).snd.fst).toNat)).fst.length ≤
 (edgesTo (netF x).fst (nthTo code ((netF x).fst * (netF x).snd.fst).toNat) x_1).length) ∧
 (properF (edgesTo (netF x).fst (nthTo code ((netF x).fst * (netF x).snd.fst).toNat) x_1)
 (routeF (netF (x.fst, x.snd.fst, x.snd.snd)).fst (netF (x.fst, x.snd.fst, x.snd.snd)).snd.fst
 (netF (x.fst, x.snd.fst, x.snd.snd)).fst
 (nthTo code
 ((netF (x.fst, x.snd.fst, x.snd.snd)).fst * (netF (x.fst, x.snd.fst, x.snd.snd)).snd.fst).toNat)).fst =
 true →
 properF (edgesTo (netF x).fst (nthTo code ((netF x).fst * (netF x).snd.fst).toNat) x_1)
 (routeF (netF (x.fst, x.snd.fst, x.snd.snd)).fst (netF (x.fst, x.snd.fst, x.snd.snd)).snd.fst
 (netF (x.fst, x.snd.fst, x.snd.snd)).fst
 (nthTo code
 ((netF (x.fst, x.snd.fst, x.snd.snd)).fst *
 (netF (x.fst, x.snd.fst, x.snd.snd)).snd.fst).toNat)).fst =
 true ∧
 properF (edgesTo (netF x).fst (nthTo code ((netF x).fst * (netF x).snd.fst).toNat) x_1)
 (routeF (netF (x.fst, x.snd.fst, x.snd.snd)).fst (netF (x.fst, x.snd.fst, x.snd.snd)).snd.fst
 (netF (x.fst, x.snd.fst, x.snd.snd)).fst
 (nthTo code
 ((netF (x.fst, x.snd.fst, x.snd.snd)).fst *
 (netF (x.fst, x.snd.fst, x.snd.snd)).snd.fst).toNat)).fst =
 true ∧
 properF (edgesTo (netF x).fst (nthTo code ((netF x).fst * (netF x).snd.fst).toNat) x_1)
 (routeF (netF (x.fst, x.snd.fst, x.snd.snd)).fst (netF (x.fst, x.snd.fst, x.snd.snd)).snd.fst
 (netF (x.fst, x.snd.fst, x.snd.snd)).fst
 (nthTo code
 ((netF (x.fst, x.snd.fst, x.snd.snd)).fst *
 (netF (x.fst, x.snd.fst, x.snd.snd)).snd.fst).toNat)).fst =
 true ∧
 True ∧ true = true) ∧
 (properF (edgesTo (netF x).fst (nthTo code ((netF x).fst * (netF x).snd.fst).toNat) x_1)
 (routeF (netF (x.fst, x.snd.fst, x.snd.snd)).fst (netF (x.fst, x.snd.fst, x.snd.snd)).snd.fst
 (netF (x.fst, x.snd.fst, x.snd.snd)).fst
 (nthTo code
 ((netF (x.fst, x.snd.fst, x.snd.snd)).fst * (netF (x.fst, x.snd.fst, x.snd.snd)).snd.fst).toNat)).fst =
 false →
 properF (edgesTo (netF x).fst (nthTo code ((netF x).fst * (netF x).snd.fst).toNat) x_1)
 (routeF (netF (x.fst, x.snd.fst, x.snd.snd)).fst (netF (x.fst, x.snd.fst, x.snd.snd)).snd.fst
 (netF (x.fst, x.snd.fst, x.snd.snd)).fst
 (nthTo code
 ((netF (x.fst, x.snd.fst, x.snd.snd)).fst *
 (netF (x.fst, x.snd.fst, x.snd.snd)).snd.fst).toNat)).fst =
 false ∧
 properF (edgesTo (netF x).fst (nthTo code ((netF x).fst * (netF x).snd.fst).toNat) x_1)
 (routeF (netF (x.fst, x.snd.fst, x.snd.snd)).fst (netF (x.fst, x.snd.fst, x.snd.snd)).snd.fst
 (netF (x.fst, x.snd.fst, x.snd.snd)).fst
 (nthTo code
 ((netF (x.fst, x.snd.fst, x.snd.snd)).fst *
 (netF (x.fst, x.snd.fst, x.snd.snd)).snd.fst).toNat)).fst =
 false ∧
 properF (edgesTo (netF x).fst (nthTo code ((netF x).fst * (netF x).snd.fst).toNat) x_1)
 (routeF (netF (x.fst, x.snd.fst, x.snd.snd)).fst (netF (x.fst, x.snd.fst, x.snd.snd)).snd.fst
 (netF (x.fst, x.snd.fst, x.snd.snd)).fst
 (nthTo code
 ((netF (x.fst, x.snd.fst, x.snd.snd)).fst *
 (netF (x.fst, x.snd.fst, x.snd.snd)).snd.fst).toNat)).fst =
 false ∧
 false = true)) ∧
 (decide
 ((routeF (netF (x.fst, x.snd.fst, x.snd.snd)).fst (netF (x.fst, x.snd.fst, x.snd.snd)).snd.fst
 (netF (x.fst, x.snd.fst, x.snd.snd)).fst
 (nthTo code ((netF (x.fst, x.snd.fst, x.snd.snd)).fst * (netF (x.fst, x.snd.fst, x.snd.snd)).snd.fst).toNat)).fst =
 (colorsF (netF (x.fst, x.snd.fst, x.snd.snd)).snd.fst (netF (x.fst, x.snd.fst, x.snd.snd)).snd.fst
 (edgesTo (netF x).fst (nthTo code ((netF x).fst * (netF x).snd.fst).toNat) x_1)).fst) =
 false →
 decide
 ((routeF (netF (x.fst, x.snd.fst, x.snd.snd)).fst (netF (x.fst, x.snd.fst, x.snd.snd)).snd.fst
 (netF (x.fst, x.snd.fst, x.snd.snd)).fst
 (nthTo code
 ((netF (x.fst, x.snd.fst, x.snd.snd)).fst * (netF (x.fst, x.snd.fst, x.snd.snd)).snd.fst).toNat)).fst =
 (colorsF (netF (x.fst, x.snd.fst, x.snd.snd)).snd.fst (netF (x.fst, x.snd.fst, x.snd.snd)).snd.fst
 (edgesTo (netF x).fst (nthTo code ((netF x).fst * (netF x).snd.fst).toNat) x_1)).fst) =
 false ∧
 decide
 ((routeF (netF (x.fst, x.snd.fst, x.snd.snd)).fst (netF (x.fst, x.snd.fst, x.snd.snd)).snd.fst
 (netF (x.fst, x.snd.fst, x.snd.snd)).fst
 (nthTo code
 ((netF (x.fst, x.snd.fst, x.snd.snd)).fst * (netF (x.fst, x.snd.fst, x.snd.snd)).snd.fst).toNat)).fst =
 (colorsF (netF (x.fst, x.snd.fst, x.snd.snd)).snd.fst (netF (x.fst, x.snd.fst, x.snd.snd)).snd.fst
 (edgesTo (netF x).fst (nthTo code ((netF x).fst * (netF x).snd.fst).toNat) x_1)).fst) =
 false ∧
 decide
 ((routeF (netF (x.fst, x.snd.fst, x.snd.snd)).fst (netF (x.fst, x.snd.fst, x.snd.snd)).snd.fst
 (netF (x.fst, x.snd.fst, x.snd.snd)).fst
 (nthTo code
 ((netF (x.fst, x.snd.fst, x.snd.snd)).fst * (netF (x.fst, x.snd.fst, x.snd.snd)).snd.fst).toNat)).fst =
 (colorsF (netF (x.fst, x.snd.fst, x.snd.snd)).snd.fst (netF (x.fst, x.snd.fst, x.snd.snd)).snd.fst
 (edgesTo (netF x).fst (nthTo code ((netF x).fst * (netF x).snd.fst).toNat) x_1)).fst) =
 false ∧
 false = true)) ∧
 (¬(colorsF (netF (x.fst, x.snd.fst, x.snd.snd)).snd.fst (netF (x.fst, x.snd.fst, x.snd.snd)).snd.fst
 (edgesTo (netF x).fst (nthTo code ((netF x).fst * (netF x).snd.fst).toNat) x_1)).snd =
 (0 : Int) →
 ¬(colorsF (netF (x.fst, x.snd.fst, x.snd.snd)).snd.fst (netF (x.fst, x.snd.fst, x.snd.snd)).snd.fst
 (edgesTo (netF x).fst (nthTo code ((netF x).fst * (netF x).snd.fst).toNat) x_1)).snd =
 (0 : Int) ∧
 ¬(colorsF (netF (x.fst, x.snd.fst, x.snd.snd)).snd.fst (netF (x.fst, x.snd.fst, x.snd.snd)).snd.fst
 (edgesTo (netF x).fst (nthTo code ((netF x).fst * (netF x).snd.fst).toNat) x_1)).snd =
 (0 : Int) ∧
 ¬(colorsF (netF (x.fst, x.snd.fst, x.snd.snd)).snd.fst (netF (x.fst, x.snd.fst, x.snd.snd)).snd.fst
 (edgesTo (netF x).fst (nthTo code ((netF x).fst * (netF x).snd.fst).toNat) x_1)).snd =
 (0 : Int) ∧
 false = true)) ∧
 (¬(routeF (netF (x.fst, x.snd.fst, x.snd.snd)).fst (netF (x.fst, x.snd.fst, x.snd.snd)).snd.fst (netF (x.fst, x.snd.fst, x.snd.snd)).fst
 (nthTo code ((netF (x.fst, x.snd.fst, x.snd.snd)).fst * (netF (x.fst, x.snd.fst, x.snd.snd)).snd.fst).toNat)).snd =
 (0 : Int) →
 ¬(routeF (netF (x.fst, x.snd.fst, x.snd.snd)).fst (netF (x.fst, x.snd.fst, x.snd.snd)).snd.fst (netF (x.fst, x.snd.fst, x.snd.snd)).fst
 (nthTo code ((netF (x.fst, x.snd.fst, x.snd.snd)).fst * (netF (x.fst, x.snd.fst, x.snd.snd)).snd.fst).toNat)).snd =
 (0 : Int) ∧
 ¬(routeF (netF (x.fst, x.snd.fst, x.snd.snd)).fst (netF (x.fst, x.snd.fst, x.snd.snd)).snd.fst (netF (x.fst, x.snd.fst, x.snd.snd)).fst
 (nthTo code ((netF (x.fst, x.snd.fst, x.snd.snd)).fst * (netF (x.fst, x.snd.fst, x.snd.snd)).snd.fst).toNat)).snd =
 (0 : Int) ∧
 false = true)))) := by
 kernel_rfl

theorem g5_eq (x : Int) : g5 x = (
 Fits IntKind.i64 x ∧
 ((0 : Int) ≤ x ∧ (0 : Int) < (2 : Int)) ∧
 Fits IntKind.i64 (x % (2 : Int) + (1 : Int)) ∧
 (∃ (x0 : Nat),
 ((2 : Nat) ≤ x0 ∧ x0 ≤ (2 : Nat) ^ kOf x + (1 : Nat)) ∧
 True ∧ x % (2 : Int) + (1 : Int) = (↑(kOf x) : Int) ∧ (2 : Int) = (↑x0 : Int) ∧ (1 : Int) = (↑(facN (x0 - (1 : Nat))) : Int) ∧ (0 : Int) = (0 : Int) ∧ True) ∧
 ∀ (x_1 : Nat),
 (2 : Nat) ≤ x_1 ∧ x_1 ≤ (2 : Nat) ^ kOf x + (1 : Nat) →
 ((0 : Int) ≤ (↑(kOf x) : Int) ∧ (↑(kOf x) : Int) < (64 : Int)) ∧
 Fits IntKind.i64 ((1 : Int) * (2 : Int) ^ (↑(kOf x) : Int).toNat) ∧
 ((↑x_1 : Int) ≤ (1 : Int) * (2 : Int) ^ (↑(kOf x) : Int).toNat →
 (↑x_1 : Int) ≤ (1 : Int) * (2 : Int) ^ (↑(kOf x) : Int).toNat ∧
 Fits IntKind.i64 ((↑(facN (x_1 - (1 : Nat))) : Int) * (↑x_1 : Int)) ∧
 Fits IntKind.i64 ((↑x_1 : Int) + (1 : Int)) ∧
 ∃ (x' : Nat),
 ((2 : Nat) ≤ x' ∧ x' ≤ (2 : Nat) ^ kOf x + (1 : Nat)) ∧
 (2 : Nat) ^ kOf x + (1 : Nat) - x' < (2 : Nat) ^ kOf x + (1 : Nat) - x_1 ∧
 True ∧
 (↑(kOf x) : Int) = (↑(kOf x) : Int) ∧
 (↑x_1 : Int) + (1 : Int) = (↑x' : Int) ∧
 (↑(facN (x_1 - (1 : Nat))) : Int) * (↑x_1 : Int) = (↑(facN (x' - (1 : Nat))) : Int) ∧ (0 : Int) = (0 : Int) ∧ True) ∧
 (¬(↑x_1 : Int) ≤ (1 : Int) * (2 : Int) ^ (↑(kOf x) : Int).toNat →
 ¬(↑x_1 : Int) ≤ (1 : Int) * (2 : Int) ^ (↑(kOf x) : Int).toNat ∧
 (∃ (x0 : Nat),
 x0 ≤ facN ((2 : Nat) ^ kOf x) ∧
 True ∧
 (0 : Int) = (↑x0 : Int) ∧
 (0 : Int) = (↑(sumTo (kOf x) x0) : Int) ∧
 (↑(facN (x_1 - (1 : Nat))) : Int) = (↑(facN ((2 : Nat) ^ kOf x)) : Int) ∧ (↑(kOf x) : Int) = (↑(kOf x) : Int) ∧ True) ∧
 ∀ (x_2 : Nat),
 x_2 ≤ facN ((2 : Nat) ^ kOf x) →
 ((↑x_2 : Int) < (↑(facN ((2 : Nat) ^ kOf x)) : Int) →
 (↑x_2 : Int) < (↑(facN ((2 : Nat) ^ kOf x)) : Int) ∧
 (∃ (x0 : Nat),
 x0 ≤ (2 : Nat) ^ kOf x ∧
 ([] = (codeTo (↑x_2 : Int).toNat x0).fst ∧ True) ∧
 (0 : Int) = (↑x0 : Int) ∧
 (↑x_2 : Int) = (↑(codeTo (↑x_2 : Int).toNat x0).snd : Int) ∧
 True ∧
 (↑x_2 : Int) = (↑x_2 : Int) ∧
 (↑(sumTo (kOf x) x_2) : Int) = (↑(sumTo (kOf x) x_2) : Int) ∧
 (↑(facN ((2 : Nat) ^ kOf x)) : Int) = (↑(facN ((2 : Nat) ^ kOf x)) : Int) ∧ (↑(kOf x) : Int) = (↑(kOf x) : Int) ∧ True) ∧
 ∀ (x_3 : Nat),
 x_3 ≤ (2 : Nat) ^ kOf x →
 ((0 : Int) ≤ (↑(kOf x) : Int) ∧ (↑(kOf x) : Int) < (64 : Int)) ∧
 Fits IntKind.i64 ((1 : Int) * (2 : Int) ^ (↑(kOf x) : Int).toNat) ∧
 ((↑x_3 : Int) < (1 : Int) * (2 : Int) ^ (↑(kOf x) : Int).toNat →
 (↑x_3 : Int) < (1 : Int) * (2 : Int) ^ (↑(kOf x) : Int).toNat ∧
 Fits IntKind.i64 ((↑x_3 : Int) + (1 : Int)) ∧
 ((0 : Int) ≤ (↑(codeTo (↑x_2 : Int).toNat x_3).snd : Int) ∧ (0 : Int) < (↑x_3 : Int) + (1 : Int)) ∧
 Small ((codeTo (↑x_2 : Int).toNat x_3).fst.length + ((0 : Nat) + (1 : Nat))) ∧
 Fits IntKind.i64 ((↑x_3 : Int) + (1 : Int)) ∧
 ((0 : Int) ≤ (↑(codeTo (↑x_2 : Int).toNat x_3).snd : Int) ∧ (0 : Int) < (↑x_3 : Int) + (1 : Int)) ∧
 Fits IntKind.i64 ((↑(codeTo (↑x_2 : Int).toNat x_3).snd : Int) / ((↑x_3 : Int) + (1 : Int))) ∧
 Fits IntKind.i64 ((↑x_3 : Int) + (1 : Int)) ∧
 ∃ (x' : Nat),
 x' ≤ (2 : Nat) ^ kOf x ∧
 (2 : Nat) ^ kOf x - x' < (2 : Nat) ^ kOf x - x_3 ∧
 ((codeTo (↑x_2 : Int).toNat x_3).fst ++
 [IntKind.u8.wrap ((↑(codeTo (↑x_2 : Int).toNat x_3).snd : Int) % ((↑x_3 : Int) + (1 : Int)))] =
 (codeTo (↑x_2 : Int).toNat x').fst ∧
 True) ∧
 (↑x_3 : Int) + (1 : Int) = (↑x' : Int) ∧
 (↑(codeTo (↑x_2 : Int).toNat x_3).snd : Int) / ((↑x_3 : Int) + (1 : Int)) =
 (↑(codeTo (↑x_2 : Int).toNat x').snd : Int) ∧
 True ∧
 (↑x_2 : Int) = (↑x_2 : Int) ∧
 (↑(sumTo (kOf x) x_2) : Int) = (↑(sumTo (kOf x) x_2) : Int) ∧
 (↑(facN ((2 : Nat) ^ kOf x)) : Int) = (↑(facN ((2 : Nat) ^ kOf x)) : Int) ∧
 (↑(kOf x) : Int) = (↑(kOf x) : Int) ∧ True) ∧
 (¬(↑x_3 : Int) < (1 : Int) * (2 : Int) ^ (↑(kOf x) : Int).toNat →
 ¬(↑x_3 : Int) < (1 : Int) * (2 : Int) ^ (↑(kOf x) : Int).toNat ∧
 ((0 : Int) ≤ (↑(kOf x) : Int) ∧ (↑(kOf x) : Int) < (64 : Int)) ∧
 Fits IntKind.i64 ((1 : Int) * (2 : Int) ^ (↑(kOf x) : Int).toNat) ∧
 (((0 : Int) ≤ (1 : Int) * (2 : Int) ^ (↑(kOf x) : Int).toNat ∧ (1 : Int) * (2 : Int) ^ (↑(kOf x) : Int).toNat ≤ (100 : Int)) ∧
 (codeTo (↑x_2 : Int).toNat x_3).fst.length ≤ maxLen ∧
 ∀ (b : Int), b ∈ (codeTo (↑x_2 : Int).toNat x_3).fst → (0 : Int) ≤ b ∧ b ≤ (255 : Int)) ∧
 (nthTo (codeTo (↑x_2 : Int).toNat x_3).fst ((1 : Int) * (2 : Int) ^ (↑(kOf x) : Int).toNat).toNat).length ≤ (1000 : Nat) ∧
 (¬(waysF (↑(kOf x) : Int)
 (nthTo (codeTo (↑x_2 : Int).toNat x_3).fst ((1 : Int) * (2 : Int) ^ (↑(kOf x) : Int).toNat).toNat)).snd =
 (0 : Int) →
 ¬(waysF (↑(kOf x) : Int)
 (nthTo (codeTo (↑x_2 : Int).toNat x_3).fst ((1 : Int) * (2 : Int) ^ (↑(kOf x) : Int).toNat).toNat)).snd =
 (0 : Int) ∧
 ¬(waysF (↑(kOf x) : Int)
 (nthTo (codeTo (↑x_2 : Int).toNat x_3).fst ((1 : Int) * (2 : Int) ^ (↑(kOf x) : Int).toNat).toNat)).snd =
 (0 : Int) ∧
 false = true) ∧
 (¬¬(waysF (↑(kOf x) : Int)
 (nthTo (codeTo (↑x_2 : Int).toNat x_3).fst ((1 : Int) * (2 : Int) ^ (↑(kOf x) : Int).toNat).toNat)).snd =
 (0 : Int) →
 ¬¬(waysF (↑(kOf x) : Int)
 (nthTo (codeTo (↑x_2 : Int).toNat x_3).fst ((1 : Int) * (2 : Int) ^ (↑(kOf x) : Int).toNat).toNat)).snd =
 (0 : Int) ∧
 ¬¬(waysF (↑(kOf x) : Int)
 (nthTo (codeTo (↑x_2 : Int).toNat x_3).fst
 ((1 : Int) * (2 : Int) ^ (↑(kOf x) : Int).toNat).toNat)).snd =
 (0 : Int) ∧
 ((waysF (↑(kOf x) : Int)
 (nthTo (codeTo (↑x_2 : Int).toNat x_3).fst
 ((1 : Int) * (2 : Int) ^ (↑(kOf x) : Int).toNat).toNat)).fst <
 (1 : Int) →
 (waysF (↑(kOf x) : Int)
 (nthTo (codeTo (↑x_2 : Int).toNat x_3).fst
 ((1 : Int) * (2 : Int) ^ (↑(kOf x) : Int).toNat).toNat)).fst <
 (1 : Int) ∧
 (waysF (↑(kOf x) : Int)
 (nthTo (codeTo (↑x_2 : Int).toNat x_3).fst
 ((1 : Int) * (2 : Int) ^ (↑(kOf x) : Int).toNat).toNat)).fst <
 (1 : Int) ∧
 false = true) ∧
 (¬(waysF (↑(kOf x) : Int)
 (nthTo (codeTo (↑x_2 : Int).toNat x_3).fst
 ((1 : Int) * (2 : Int) ^ (↑(kOf x) : Int).toNat).toNat)).fst <
 (1 : Int) →
 ¬(waysF (↑(kOf x) : Int)
 (nthTo (codeTo (↑x_2 : Int).toNat x_3).fst
 ((1 : Int) * (2 : Int) ^ (↑(kOf x) : Int).toNat).toNat)).fst <
 (1 : Int) ∧
 ¬(waysF (↑(kOf x) : Int)
 (nthTo (codeTo (↑x_2 : Int).toNat x_3).fst
 ((1 : Int) * (2 : Int) ^ (↑(kOf x) : Int).toNat).toNat)).fst <
 (1 : Int) ∧
 Fits IntKind.i64
 ((↑(sumTo (kOf x) x_2) : Int) +
 (waysF (↑(kOf x) : Int)
 (nthTo (codeTo (↑x_2 : Int).toNat x_3).fst
 ((1 : Int) * (2 : Int) ^ (↑(kOf x) : Int).toNat).toNat)).fst) ∧
 Fits IntKind.i64 ((↑x_2 : Int) + (1 : Int)) ∧
 ∃ (x' : Nat),
 x' ≤ facN ((2 : Nat) ^ kOf x) ∧
 facN ((2 : Nat) ^ kOf x) - x' < facN ((2 : Nat) ^ kOf x) - x_2 ∧
 True ∧
 (↑x_2 : Int) + (1 : Int) = (↑x' : Int) ∧
 (↑(sumTo (kOf x) x_2) : Int) +
 (waysF (↑(kOf x) : Int)
 (nthTo (codeTo (↑x_2 : Int).toNat x_3).fst
 ((1 : Int) * (2 : Int) ^ (↑(kOf x) : Int).toNat).toNat)).fst =
 (↑(sumTo (kOf x) x') : Int) ∧
 (↑(facN ((2 : Nat) ^ kOf x)) : Int) = (↑(facN ((2 : Nat) ^ kOf x)) : Int) ∧
 (↑(kOf x) : Int) = (↑(kOf x) : Int) ∧ True)))) ∧
 (¬(↑x_2 : Int) < (↑(facN ((2 : Nat) ^ kOf x)) : Int) →
 ¬(↑x_2 : Int) < (↑(facN ((2 : Nat) ^ kOf x)) : Int) ∧
 True ∧
 ((1 : Int) ≤ (↑(kOf x) : Int) ∧ (↑(kOf x) : Int) ≤ (3 : Int)) ∧
 ((0 : Int) ≤ switchesF (↑(kOf x) : Int) ∧ switchesF (↑(kOf x) : Int) < (64 : Int)) ∧
 Fits IntKind.i64 ((1 : Int) * (2 : Int) ^ (switchesF (↑(kOf x) : Int)).toNat) ∧
 ((↑(sumTo (kOf x) x_2) : Int) = (1 : Int) * (2 : Int) ^ (switchesF (↑(kOf x) : Int)).toNat →
 (↑(sumTo (kOf x) x_2) : Int) = (1 : Int) * (2 : Int) ^ (switchesF (↑(kOf x) : Int)).toNat ∧
 (↑(sumTo (kOf x) x_2) : Int) = (1 : Int) * (2 : Int) ^ (switchesF (↑(kOf x) : Int)).toNat ∧
 ((waksF (↑(kOf x) : Int)).snd = (0 : Int) →
 (waksF (↑(kOf x) : Int)).snd = (0 : Int) ∧
 (waksF (↑(kOf x) : Int)).snd = (0 : Int) ∧
 (waksF (↑(kOf x) : Int)).snd = (0 : Int) ∧
 ((0 : Int) ≤ (waksF (↑(kOf x) : Int)).fst ∧ (waksF (↑(kOf x) : Int)).fst < (64 : Int)) ∧
 Fits IntKind.i64 ((1 : Int) * (2 : Int) ^ (waksF (↑(kOf x) : Int)).fst.toNat) ∧
 ((↑(facN ((2 : Nat) ^ kOf x)) : Int) ≤ (1 : Int) * (2 : Int) ^ (waksF (↑(kOf x) : Int)).fst.toNat →
 (↑(facN ((2 : Nat) ^ kOf x)) : Int) ≤ (1 : Int) * (2 : Int) ^ (waksF (↑(kOf x) : Int)).fst.toNat ∧
 (↑(facN ((2 : Nat) ^ kOf x)) : Int) ≤ (1 : Int) * (2 : Int) ^ (waksF (↑(kOf x) : Int)).fst.toNat ∧
 (↑(facN ((2 : Nat) ^ kOf x)) : Int) ≤ (1 : Int) * (2 : Int) ^ (waksF (↑(kOf x) : Int)).fst.toNat ∧
 True ∧ true = true) ∧
 (¬(↑(facN ((2 : Nat) ^ kOf x)) : Int) ≤ (1 : Int) * (2 : Int) ^ (waksF (↑(kOf x) : Int)).fst.toNat →
 ¬(↑(facN ((2 : Nat) ^ kOf x)) : Int) ≤ (1 : Int) * (2 : Int) ^ (waksF (↑(kOf x) : Int)).fst.toNat ∧
 ¬(↑(facN ((2 : Nat) ^ kOf x)) : Int) ≤ (1 : Int) * (2 : Int) ^ (waksF (↑(kOf x) : Int)).fst.toNat ∧
 ¬(↑(facN ((2 : Nat) ^ kOf x)) : Int) ≤ (1 : Int) * (2 : Int) ^ (waksF (↑(kOf x) : Int)).fst.toNat ∧
 false = true)) ∧
 (¬(waksF (↑(kOf x) : Int)).snd = (0 : Int) →
 ¬(waksF (↑(kOf x) : Int)).snd = (0 : Int) ∧
 ¬(waksF (↑(kOf x) : Int)).snd = (0 : Int) ∧ ¬(waksF (↑(kOf x) : Int)).snd = (0 : Int) ∧ false = true)) ∧
 (¬(↑(sumTo (kOf x) x_2) : Int) = (1 : Int) * (2 : Int) ^ (switchesF (↑(kOf x) : Int)).toNat →
 ¬(↑(sumTo (kOf x) x_2) : Int) = (1 : Int) * (2 : Int) ^ (switchesF (↑(kOf x) : Int)).toNat ∧
 ¬(↑(sumTo (kOf x) x_2) : Int) = (1 : Int) * (2 : Int) ^ (switchesF (↑(kOf x) : Int)).toNat ∧ false = true)))) := by
 kernel_rfl

end Go.SX.Pa

/- Chapter 06, part 13: contracts: the makers of inputs; PatchKonig, PatchEdges, PatchCount. -/
namespace Go.SX.Pa
open Go Go.Proofs

theorem graphTo_succ (x : List Ed) (k : Nat) (h : k < x.length) : graphTo x (k + 1) = graphTo x k ++ [((x.getD k (0, 0)).1 % 6, (x.getD k (0, 0)).2 % 6)] := by
  unfold graphTo; rw [take_snoc x (0, 0) k h, List.map_append]; rfl
theorem graphTo_length (x : List Ed) (k : Nat) : (graphTo x k).length ≤ k := by unfold graphTo; simp; omega
theorem graphX_ok {x : List Ed} (h : ∀ p ∈ x, Byte2 p) : (graphX x).length ≤ 12 ∧ ∀ e ∈ graphX x, (0 ≤ e.1 ∧ e.1 < 6) ∧ 0 ≤ e.2 ∧ e.2 < 6 := by
  refine ⟨graphTo_length x 12, fun e he => ?_⟩
  obtain ⟨p, hp, rfl⟩ := List.mem_map.1 he
  have := h p (List.mem_of_mem_take hp)
  unfold Byte2 at this
  simp only
  omega

theorem ok33 : p33.OK Tryd.prog := p33.ok C33 (fun _ => cx0) (fn := Tryd.f33) rfl (by decide +kernel) rfl fun (x : List Ed) hp => by
  refine (g33_eq x).mpr ?_
  have hp : x.length ≤ maxLen ∧ ∀ p ∈ x, Byte2 p := hp
  simp only [pp1, eq_self, and_true, and_self, Int.toNat_natCast]
  refine ⟨⟨0, by omega, rfl, rfl⟩, fun k hk => ⟨fun h1 => ⟨fun h2 => ?_, fun h2 => ?_⟩, fun h1 => ?_⟩⟩
  · have hk' : k < x.length := by omega
    have hb := hp.2 _ (getD_mem x (0, 0) hk')
    unfold Byte2 at hb
    have hl := graphTo_length x k
    refine ⟨by omega, fits_i64 (by omega) (by omega), by omega, by omega, fits_i64 (by omega) (by omega), by omega, ?_, fits_i64 (by omega) (by omega), k + 1, by omega, by omega, (graphTo_succ x k hk').symm, by omega⟩
    unfold Small; omega
  · rw [show k = 12 by omega]; rfl
  · unfold graphX graphTo
    rw [List.take_of_length_le (by omega), List.take_of_length_le (by omega)]

theorem ok36 : p36.OK Tryd.prog := p36.ok C36 (fun _ => cx1 (PC.OK.ci ok21)) (fn := Tryd.f36) rfl (by decide +kernel) rfl fun (p : List Int × Int × Int) hp => by
  obtain ⟨l, n, r⟩ := p
  refine (g36_eq l n r).mpr ?_
  have hp : l.length ≤ 1000 ∧ -1000 ≤ r ∧ r ≤ 1000 := hp
  simp only [pp1, eq_self, and_true, true_and, and_self, Int.toNat_natCast]
  refine ⟨⟨0, ⟨by omega, fun x hx => by simp at hx⟩, rfl⟩, fun k hk => ⟨fun h1 => ?_, fun h1 => ?_⟩⟩
  · have hk' : k < l.length := by omega
    refine ⟨by omega, fits_i64 (by omega) (by omega), fun h2 => ?_, fun h2 => ⟨fits_nat (by omega), k + 1, ⟨by omega, fun y hy => ?_⟩, by omega, by omega⟩⟩
    · symm
      rw [decide_eq_false_iff_not]
      rintro ⟨h3, _⟩
      have := h3 _ (getD_mem l 0 hk')
      rw [Bool.not_eq_true', decide_eq_false_iff_not] at h2
      omega
    · rw [Bool.not_eq_false', decide_eq_true_eq] at h2
      rcases (take_mem l 0 y k hk').1 hy with h3 | h3
      · exact hk.2 y h3
      · omega
  · have : k = l.length := by omega
    subst this
    rw [List.take_length] at hk
    apply decide_eq_decide.2
    exact ⟨fun h => ⟨hk.2, h⟩, fun h => h.2⟩
theorem ok37 : p37.OK Tryd.prog := p37.ok (fun _ => cx [] []) (fun _ => cx0) (fn := Tryd.f37) rfl (by decide +kernel) rfl fun (x : Int × Int × Int) hx => by
  obtain ⟨a, b, c⟩ := x
  have hx : Byte3 (a, b, c) := hx
  refine (g37_eq (a, b, c)).mpr ?_
  have hn := net_ok hx
  unfold Byte3 at hx
  unfold netF ClosP at hn
  simp only at hx hn ⊢
  have h3 : 1 ≤ 12 / (a % 12 + 1) := Int.le_ediv_of_mul_le (by omega) (by omega)
  have h4 : 12 / (a % 12 + 1) * (a % 12 + 1) ≤ 12 := Int.ediv_mul_le _ (by omega)
  have h5 : 12 / (a % 12 + 1) * 1 ≤ 12 / (a % 12 + 1) * (a % 12 + 1) := Int.mul_le_mul_of_nonneg_left (by omega) (by omega)
  refine ⟨fits_i64 (by omega) (by omega), by omega, fits_i64 (by omega) (by omega), fits_i64 (by omega) (by omega), by omega, fits_i64 (by omega) (by omega), by omega, fits_i64 (by omega) (by omega), fits_i64 (by omega) (by omega), by omega, fits_i64 (by omega) (by omega), rfl⟩

/-! ### PatchKonig -/
theorem colors_found {a : Int} {es : List Ed} (ha : 1 ≤ a) (ha6 : a ≤ 6) (hl : es.length ≤ 12) (hb : ∀ e ∈ es, (0 ≤ e.1 ∧ e.1 < a) ∧ 0 ≤ e.2 ∧ e.2 < a) : ∃ l, colorsF a a es = (l, 0) ∧ colF es (degF es) = some l ∧ GoodC es (degF es) l := by
  obtain ⟨l, h⟩ := colF_some (es := es) (Int.le_refl _)
  refine ⟨l, ?_, h, colF_good (degF_bound es).1 h⟩
  unfold colorsF
  rw [if_neg (by omega), if_neg, h]
  · rfl
  · rintro (h1 | h1 | h1)
    · omega
    · omega
    · obtain ⟨e, he, h2⟩ := List.any_eq_true.1 h1
      have := hb e he
      unfold badEd at h2
      rw [decide_eq_true_eq] at h2
      omega
theorem good_proper {es : List Ed} {m : Int} {l : List Int} (h : GoodC es m l) : properF es l = true := proper_good h.2.2

theorem ok6 : p6.OK Tryd.prog := p6.ok C6 (fun _ => cx_ok (cs := [p33.ci, p26.ci, p34.ci, p35.ci, p30.ci, p36.ci, p25.ci]) ⟨PC.OK.ci ok33, PC.OK.ci ok26, PC.OK.ci ok34, PC.OK.ci ok35, PC.OK.ci ok30, PC.OK.ci ok36, PC.OK.ci ok25, trivial⟩ _) (fn := Tryd.f6) rfl (by decide +kernel) rfl fun (x : List Ed) hp => by
  refine (g6_eq x).mpr ?_
  have hp : x.length ≤ maxLen ∧ ∀ p ∈ x, Byte2 p := hp
  obtain ⟨h1, h2⟩ := graphX_ok hp.2
  obtain ⟨l, h3, h4, h5⟩ := colors_found (a := 6) (by omega) (by omega) h1 h2
  have h6 := good_proper h5
  have h7 := seen_deg h4
  have h8 := degF_degR (graphX x) h2
  have h9 := degF_bound (graphX x)
  obtain ⟨g1, g2, g3⟩ := h5
  simp only [pp1, eq_self, and_true, true_and, and_self, Int.toNat_natCast, h3]
  rw [h8] at g2 h7 h9
  refine ⟨hp, by omega, ⟨0, by omega, rfl, rfl⟩, fun k hk => ⟨fun q1 => ?_, fun q1 => ?_⟩⟩
  · have hk' : k < l.length := by omega
    have hs := seenF_succ l k hk'
    have hsl := seenF_length (l.take k)
    have htl : (l.take k).length ≤ k := by simp; omega
    refine ⟨by omega, by omega, fun q2 => ⟨by omega, by unfold Small; omega, fits_nat (by omega), k + 1, by omega, by omega, ?_, by omega⟩, fun q2 => ⟨fits_nat (by omega), k + 1, by omega, by omega, ?_, by omega⟩⟩
    · rw [hs, if_neg (by simpa using q2)]
    · rw [hs, if_pos (by simpa using q2)]
  · have hk' : k = l.length := by omega
    subst hk'
    rw [List.take_length, h7]
    refine yes trivial (yes (by omega) ⟨by omega, yesB h6 ⟨by omega, yes rfl ⟨by omega, by omega, fun h => h, fun h => ?_⟩⟩⟩)
    rw [decide_eq_false_iff_not] at h
    exact absurd ⟨fun y hy => by have := g2 y hy; omega, by omega⟩ h

/-! ### PatchEdges -/
theorem badEd_no {a : Int} {es : List Ed} (h : ∀ e ∈ es, (0 ≤ e.1 ∧ e.1 < a) ∧ 0 ≤ e.2 ∧ e.2 < a) : es.any (badEd a a) = false := by
  rw [List.any_eq_false]
  intro e he h2
  have := h e he
  unfold badEd at h2
  rw [decide_eq_true_eq] at h2
  omega
theorem edgesF_in {n r : Int} {perm : List Int} (hn : 1 ≤ n) (hp : PermP perm (n * r)) : ∀ e ∈ edgesF n perm, (0 ≤ e.1 ∧ e.1 < r) ∧ 0 ≤ e.2 ∧ e.2 < r := by
  intro e he
  obtain ⟨hl, hb, _⟩ := hp
  unfold edgesF edgesTo at he
  obtain ⟨i, hi, rfl⟩ := List.mem_map.1 he
  have hi' := List.mem_range.1 hi
  have hx := hb _ (getD_mem perm 0 hi')
  have key : ∀ y : Int, 0 ≤ y → y < n * r → 0 ≤ y / n ∧ y / n < r := fun y h0 h1 => ⟨Int.ediv_nonneg h0 (by omega), Int.ediv_lt_of_lt_mul (by omega) (by rw [Int.mul_comm]; exact h1)⟩
  exact ⟨key _ (by omega) (by omega), key _ hx.1 hx.2⟩
theorem route_found {n r m : Int} {perm : List Int} (hc : ClosP n r m) (hp : PermP perm (n * r)) (hm : n ≤ m) : ∃ l, routeF n r m perm = (l, 0) ∧ colF (edgesF n perm) m = some l ∧ GoodC (edgesF n perm) m l := by
  have hc' := hc
  obtain ⟨c1, c2, c3, c4⟩ := hc'
  have hd := perm_deg c1.1 c2.1 hp
  obtain ⟨l, h⟩ := colF_some (es := edgesF n perm) (m := m) (by omega)
  refine ⟨l, ?_, h, colF_good (by omega) h⟩
  unfold routeF
  rw [if_pos hc, if_pos hp, h]
theorem edges_found {n r : Int} {perm : List Int} (hc : ClosP n r n) (h6 : r ≤ 6) (hp : PermP perm (n * r)) : ∃ l, routeF n r n perm = (l, 0) ∧ colorsF r r (edgesF n perm) = (l, 0) ∧ GoodC (edgesF n perm) n l := by
  obtain ⟨l, h1, h2, h3⟩ := route_found hc hp (Int.le_refl n)
  obtain ⟨c1, c2, c3, c4⟩ := hc
  have hd := perm_deg c1.1 c2.1 hp
  have hl := edgesF_length n perm
  have hpl := hp.1
  refine ⟨l, h1, ?_, h3⟩
  unfold colorsF
  rw [if_neg (by omega), if_neg, hd, h2]
  · rfl
  · rintro (q | q | q)
    · omega
    · omega
    · rw [badEd_no (edgesF_in c1.1 hp)] at q; cases q
theorem edgesTo_succ' (n : Int) (perm : List Int) (k : Nat) : edgesTo n perm (k + 1) = edgesTo n perm k ++ [((k : Int) / n, perm.getD k 0 / n)] := by
  unfold edgesTo; rw [List.range_succ, List.map_append]; rfl

theorem ok7 : p7.OK Tryd.prog := p7.ok C7 (fun _ => cx_ok (cs := [p37.ci, p25.ci, p31.ci, p38.ci, p26.ci, p28.ci, p35.ci]) ⟨PC.OK.ci ok37, PC.OK.ci ok25, PC.OK.ci ok31, PC.OK.ci ok38, PC.OK.ci ok26, PC.OK.ci ok28, PC.OK.ci ok35, trivial⟩ _) (fn := Tryd.f7) rfl (by decide +kernel) rfl fun (p : (Int × Int × Int) × List Int) hp => by
  obtain ⟨x, code⟩ := p
  refine (g7_eq x code).mpr ?_
  have hp : Byte3 x ∧ Bytes code := hp
  have hnet := net_ok hp.1
  simp only [pp1, eq_self, and_true, true_and, and_self, Int.toNat_natCast, peta]
  generalize netF x = N at hnet ⊢
  obtain ⟨n, r, m⟩ := N
  simp only at hnet ⊢
  obtain ⟨hc, hN1, hN2⟩ := hnet
  have hperm := nth_perm code (n * r).toNat
  rw [Int.toNat_of_nonneg (by omega)] at hperm
  generalize nthTo code (n * r).toNat = perm at hperm ⊢
  have hpl := hperm.1
  refine ⟨hp.1, fun h => h, fun h6 => ⟨fits_i64 (by omega) (by omega), ⟨by omega, hp.2⟩, ⟨0, by omega, rfl, rfl⟩, fun k hk => ⟨fits_i64 (by omega) (by omega), fun q1 => ?_, fun q1 => ?_⟩⟩⟩
  · have hk' : k < perm.length := by omega
    have hb := hperm.2.1 _ (getD_mem perm 0 hk')
    have c1 := hc.1
    have d1 : (k : Int) / n ≤ k := Int.ediv_le_self _ (by omega)
    have d2 : perm.getD k 0 / n ≤ perm.getD k 0 := Int.ediv_le_self _ (by omega)
    have d3 : 0 ≤ (k : Int) / n := Int.ediv_nonneg (by omega) (by omega)
    have d4 : 0 ≤ perm.getD k 0 / n := Int.ediv_nonneg (by omega) (by omega)
    refine ⟨by omega, fits_i64 (by omega) (by omega), by omega, by omega, fits_i64 (by omega) (by omega), ?_, fits_nat (by omega), k + 1, by omega, by omega, (edgesTo_succ' n perm k).symm, by omega⟩
    rw [edgesTo_length]; unfold Small; omega
  · have hk' : k = perm.length := by omega
    subst hk'
    obtain ⟨l, h1, h2, h3⟩ := edges_found (r := r) (perm := perm) (n := n) ⟨hc.1, hc.2.1, hc.2.2.1, hc.1⟩ (by omega) hperm
    have hl := edgesF_length n perm
    have he : edgesTo n perm perm.length = edgesF n perm := rfl
    rw [he, h1, h2]
    have hg := good_proper h3
    have hgl := h3.1
    refine ⟨by omega, by omega, yes rfl (yes rfl ⟨⟨by simp only; omega, by simp only; omega⟩, yesB (decide_eq_true rfl) ⟨⟨by omega, by simp only; omega⟩, fun h => h, fun h => ?_⟩⟩)⟩
    rw [show (l, (0 : Int)).1 = l from rfl, hg] at h
    cases h
end Go.SX.Pa
