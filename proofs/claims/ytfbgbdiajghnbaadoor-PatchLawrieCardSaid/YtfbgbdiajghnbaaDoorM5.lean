/- Parts of the proof, one after the other: Pa13 Pa13E Pa13Q Pa14 PaV Pa15 Pa15E Pa15Q. -/
import Derived.Test.YtfbgbdiajghnbaaDoorM4
/- Chapter 06, part 13: the laws' makers of inputs; the laws PatchCount, PatchKonig, PatchEdges. -/
namespace Go.SX.Pa
open Go Go.Proofs
noncomputable section
@[reducible] def p33 : PC := ⟨33, [aB2s], [aEds], fun x => x.length ≤ maxLen ∧ ∀ p ∈ x, Byte2 p, graphX⟩
@[reducible] def A33 (x : List Ed) : Ann where
  τ := Nat
  pre := []
  preC := []
  keep := [0]
  slots k := [(4, .c (.int .i64 k)), (3, .c (.own 0 1))]
  ents k := [(0, .row 58 tEd 0 (graphTo x k))]
  ok k := k ≤ x.length ∧ k ≤ 12
  m k := 12 - k
@[reducible] def C33 (x : List Ed) : Ctx := cx [] [(0, fun _ => A33 x)]
def g33 (x : List Ed) : Prop := p33.VC (C33 x) Tryd.f33 x
@[reducible] def p36 : PC := ⟨36, [aIs, aI, aI], [aB], fun p => p.1.length ≤ 1000 ∧ -1000 ≤ p.2.2 ∧ p.2.2 ≤ 1000, fun p => decide ((∀ x ∈ p.1, 0 ≤ x ∧ x < p.2.2) ∧ (p.1.length : Int) = p.2.1)⟩
@[reducible] def C36 (p : List Int × Int × Int) : Ctx := cx [p21.ci] [(0, fun _ => upTo p.1.length 7 [0, 1, 2] fun k => ∀ x ∈ p.1.take k, 0 ≤ x ∧ x < p.2.2)]
def g36 (l : List Int) (n r : Int) : Prop := p36.VC (C36 (l, n, r)) Tryd.f36 (l, n, r)
@[reducible] def p37 : PC := ⟨37, [aB3], [aI, aI, aI], Byte3, netF⟩
def g37 (x : Int × Int × Int) : Prop := p37.VC (cx [] []) Tryd.f37 x

@[reducible] def p6 : PC := ⟨6, [aB2s], [aB], fun x => x.length ≤ maxLen ∧ ∀ p ∈ x, Byte2 p, fun _ => true⟩
@[reducible] def A6 (c : List Int) : Ann where
  τ := Nat
  pre := []
  preC := []
  keep := [3, 4, 5]
  slots k := [(7, .c (.int .i64 k)), (6, .c (.own 0 1))]
  ents k := [(0, .row 3 (.int .i64) 0 (seenF (c.take k)))]
  ok k := k ≤ c.length
  m k := c.length - k
@[reducible] def C6 (x : List Ed) : Ctx := cx [p33.ci, p26.ci, p34.ci, p35.ci, p30.ci, p36.ci, p25.ci] [(0, fun _ => A6 (colorsF 6 6 (graphX x)).1)]
def g6 (x : List Ed) : Prop := p6.VC (C6 x) Tryd.f6 x

@[reducible] def p7 : PC := ⟨7, [aB3, aBs], [aB], fun p => Byte3 p.1 ∧ Bytes p.2, fun _ => true⟩
@[reducible] def A7 (n r : Int) (perm : List Int) : Ann where
  τ := Nat
  pre := []
  preC := []
  keep := [5, 6, 8]
  slots k := [(10, .c (.int .i64 k)), (9, .c (.own 1 1))]
  ents k := [(1, .row 58 tEd 0 (edgesTo n perm k))]
  ok k := k ≤ n * r
  m k := (n * r).toNat - k
@[reducible] def C7 (p : (Int × Int × Int) × List Int) : Ctx := cx [p37.ci, p25.ci, p31.ci, p38.ci, p26.ci, p28.ci, p35.ci] [(0, fun _ => A7 (netF p.1).1 (netF p.1).2.1 (nthTo p.2 ((netF p.1).1 * (netF p.1).2.1).toNat))]
def g7 (x : Int × Int × Int) (code : List Int) : Prop := p7.VC (C7 (x, code)) Tryd.f7 (x, code)

@[reducible] def p5 : PC := ⟨5, [aU], [aB], fun x => 0 ≤ x ∧ x ≤ 255, fun _ => true⟩
def kOf (x : Int) : Nat := (x % 2 + 1).toNat
@[reducible] def A5a (K : Nat) : Ann where
  τ := Nat
  pre := []
  preC := []
  keep := [4]
  slots i := [(3, .c (.int .i64 K)), (6, .c (.int .i64 i)), (5, .c (.int .i64 (facN (i - 1))))]
  ents _ := []
  ok i := 2 ≤ i ∧ i ≤ 2 ^ K + 1
  m i := 2 ^ K + 1 - i
@[reducible] def A5b (K : Nat) : Ann where
  τ := Nat
  pre := []
  preC := []
  keep := [3]
  slots p := [(7, .c (.int .i64 p)), (4, .c (.int .i64 (sumTo K p))), (5, .c (.int .i64 (facN (2 ^ K))))]
  ents _ := []
  ok p := p ≤ facN (2 ^ K)
  m p := facN (2 ^ K) - p
@[reducible] def A5c (K : Nat) (p : Nat) : Ann where
  τ := Nat
  pre := []
  preC := []
  keep := [3, 4, 5, 7]
  slots i := [(10, .c (.int .i64 i)), (9, .c (.int .i64 (codeTo p i).2)), (8, .c (.own 0 1))]
  ents i := [(0, .row 5 (.int .u8) 0 (codeTo p i).1)]
  ok i := i ≤ 2 ^ K
  m i := 2 ^ K - i
@[reducible] def C5 (x : Int) : Ctx := cx [p31.ci, p18.ci, p19.ci, p32.ci, p25.ci] [(0, fun _ => A5a (kOf x)), (1, fun _ => A5b (kOf x)), (2, withI 7 fun p => A5c (kOf x) p.toNat)]
def g5 (x : Int) : Prop := p5.VC (C5 x) Tryd.f5 x
end
end Go.SX.Pa

/- Printed by VC.lean: what the executor asks. -/
namespace Go.SX.Pa
open Go Go.Proofs
theorem g33_eq (x : List Ed) : g33 x = (
 (∃ (x0 : Nat), (x0 ≤ x.length ∧ x0 ≤ (12 : Nat)) ∧ ([] = graphTo x x0 ∧ True) ∧ (0 : Int) = (↑x0 : Int) ∧ True ∧ x = x ∧ True) ∧
 ∀ (x_1 : Nat),
 x_1 ≤ x.length ∧ x_1 ≤ (12 : Nat) →
 ((↑x_1 : Int) < (↑x.length : Int) →
 (↑x_1 : Int) < (↑x.length : Int) ∧
 (↑x_1 : Int) < (↑x.length : Int) ∧
 ((↑x_1 : Int) < (12 : Int) →
 (↑x_1 : Int) < (12 : Int) ∧
 (↑x_1 : Int) < (12 : Int) ∧
 ((0 : Int) ≤ (↑x_1 : Int) ∧ (↑x_1 : Int) < (↑x.length : Int)) ∧
 Fits IntKind.i64 (x.getD (↑x_1 : Int).toNat ((0 : Int), (0 : Int))).fst ∧
 ((0 : Int) ≤ (x.getD (↑x_1 : Int).toNat ((0 : Int), (0 : Int))).fst ∧ (0 : Int) < (6 : Int)) ∧
 ((0 : Int) ≤ (↑x_1 : Int) ∧ (↑x_1 : Int) < (↑x.length : Int)) ∧
 Fits IntKind.i64 (x.getD (↑x_1 : Int).toNat ((0 : Int), (0 : Int))).snd ∧
 ((0 : Int) ≤ (x.getD (↑x_1 : Int).toNat ((0 : Int), (0 : Int))).snd ∧ (0 : Int) < (6 : Int)) ∧
 Small ((graphTo x x_1).length + ((0 : Nat) + (1 : Nat))) ∧
 Fits IntKind.i64 ((↑x_1 : Int) + (1 : Int)) ∧
 ∃ (x' : Nat),
 (x' ≤ x.length ∧ x' ≤ (12 : Nat)) ∧
 (12 : Nat) - x' < (12 : Nat) - x_1 ∧
 (graphTo x x_1 ++
 [((x.getD (↑x_1 : Int).toNat ((0 : Int), (0 : Int))).fst % (6 : Int),
 (x.getD (↑x_1 : Int).toNat ((0 : Int), (0 : Int))).snd % (6 : Int))] =
 graphTo x x' ∧
 True) ∧
 (↑x_1 : Int) + (1 : Int) = (↑x' : Int) ∧ True ∧ x = x ∧ True) ∧
 (¬(↑x_1 : Int) < (12 : Int) → ¬(↑x_1 : Int) < (12 : Int) ∧ ¬(↑x_1 : Int) < (12 : Int) ∧ graphTo x x_1 = graphX x)) ∧
 (¬(↑x_1 : Int) < (↑x.length : Int) → ¬(↑x_1 : Int) < (↑x.length : Int) ∧ ¬(↑x_1 : Int) < (↑x.length : Int) ∧ graphTo x x_1 = graphX x)) := by
 kernel_rfl

theorem g36_eq (l : List Int) (n : Int) (r : Int) : g36 l n r = (
 (∃ (x0 : Nat), (x0 ≤ l.length ∧ ∀ (x : Int), x ∈ List.take x0 l → (0 : Int) ≤ x ∧ x < r) ∧ True ∧ (0 : Int) = (↑x0 : Int) ∧ l = l ∧ n = n ∧ r = r ∧ True) ∧
 ∀ (x : Nat),
 (x ≤ l.length ∧ ∀ (x_1 : Int), x_1 ∈ List.take x l → (0 : Int) ≤ x_1 ∧ x_1 < r) →
 ((↑x : Int) < (↑l.length : Int) →
 (↑x : Int) < (↑l.length : Int) ∧
 ((0 : Int) ≤ (↑x : Int) ∧ (↑x : Int) < (↑l.length : Int)) ∧
 Fits IntKind.i64 (r - (1 : Int)) ∧
 True ∧
 ((!decide ((0 : Int) ≤ l.getD (↑x : Int).toNat (0 : Int) ∧ l.getD (↑x : Int).toNat (0 : Int) ≤ r - (1 : Int))) = true →
 (!decide ((0 : Int) ≤ l.getD (↑x : Int).toNat (0 : Int) ∧ l.getD (↑x : Int).toNat (0 : Int) ≤ r - (1 : Int))) = true ∧
 false = decide ((∀ (x : Int), x ∈ l → (0 : Int) ≤ x ∧ x < r) ∧ (↑l.length : Int) = n)) ∧
 ((!decide ((0 : Int) ≤ l.getD (↑x : Int).toNat (0 : Int) ∧ l.getD (↑x : Int).toNat (0 : Int) ≤ r - (1 : Int))) = false →
 (!decide ((0 : Int) ≤ l.getD (↑x : Int).toNat (0 : Int) ∧ l.getD (↑x : Int).toNat (0 : Int) ≤ r - (1 : Int))) = false ∧
 Fits IntKind.i64 ((↑x : Int) + (1 : Int)) ∧
 ∃ (x' : Nat),
 (x' ≤ l.length ∧ ∀ (x : Int), x ∈ List.take x' l → (0 : Int) ≤ x ∧ x < r) ∧
 l.length - x' < l.length - x ∧ True ∧ (↑x : Int) + (1 : Int) = (↑x' : Int) ∧ l = l ∧ n = n ∧ r = r ∧ True)) ∧
 (¬(↑x : Int) < (↑l.length : Int) →
 ¬(↑x : Int) < (↑l.length : Int) ∧ decide ((↑l.length : Int) = n) = decide ((∀ (x : Int), x ∈ l → (0 : Int) ≤ x ∧ x < r) ∧ (↑l.length : Int) = n))) := by
 kernel_rfl

theorem g37_eq (x : Int × Int × Int) : g37 x = (
 Fits IntKind.i64 x.fst ∧
 ((0 : Int) ≤ x.fst ∧ (0 : Int) < (12 : Int)) ∧
 Fits IntKind.i64 (x.fst % (12 : Int) + (1 : Int)) ∧
 Fits IntKind.i64 x.snd.fst ∧
 ((0 : Int) ≤ (12 : Int) ∧ (0 : Int) < x.fst % (12 : Int) + (1 : Int)) ∧
 Fits IntKind.i64 ((12 : Int) / (x.fst % (12 : Int) + (1 : Int))) ∧
 ((0 : Int) ≤ x.snd.fst ∧ (0 : Int) < (12 : Int) / (x.fst % (12 : Int) + (1 : Int))) ∧
 Fits IntKind.i64 (x.snd.fst % ((12 : Int) / (x.fst % (12 : Int) + (1 : Int))) + (1 : Int)) ∧
 Fits IntKind.i64 x.snd.snd ∧
 ((0 : Int) ≤ x.snd.snd ∧ (0 : Int) < (12 : Int)) ∧
 Fits IntKind.i64 (x.snd.snd % (12 : Int) + (1 : Int)) ∧
 (x.fst % (12 : Int) + (1 : Int), x.snd.fst % ((12 : Int) / (x.fst % (12 : Int) + (1 : Int))) + (1 : Int), x.snd.snd % (12 : Int) + (1 : Int)) = netF x) := by
 kernel_rfl

theorem g6_eq (x : List Ed) : g6 x = (
 (x.length ≤ maxLen ∧ ∀ (p : Int × Int), p ∈ x → ((0 : Int) ≤ p.fst ∧ p.fst ≤ (255 : Int)) ∧ (0 : Int) ≤ p.snd ∧ p.snd ≤ (255 : Int)) ∧
 (graphX x).length ≤ (1000 : Nat) ∧
 (∃ (x0 : Nat),
 x0 ≤ (colorsF (6 : Int) (6 : Int) (graphX x)).fst.length ∧
 ([] = seenF (List.take x0 (colorsF (6 : Int) (6 : Int) (graphX x)).fst) ∧ True) ∧
 (0 : Int) = (↑x0 : Int) ∧
 True ∧
 (colorsF (6 : Int) (6 : Int) (graphX x)).snd = (colorsF (6 : Int) (6 : Int) (graphX x)).snd ∧
 (colorsF (6 : Int) (6 : Int) (graphX x)).fst = (colorsF (6 : Int) (6 : Int) (graphX x)).fst ∧ graphX x = graphX x ∧ True) ∧
 ∀ (x_1 : Nat),
 x_1 ≤ (colorsF (6 : Int) (6 : Int) (graphX x)).fst.length →
 ((↑x_1 : Int) < (↑(colorsF (6 : Int) (6 : Int) (graphX x)).fst.length : Int) →
 (↑x_1 : Int) < (↑(colorsF (6 : Int) (6 : Int) (graphX x)).fst.length : Int) ∧
 ((0 : Int) ≤ (↑x_1 : Int) ∧ (↑x_1 : Int) < (↑(colorsF (6 : Int) (6 : Int) (graphX x)).fst.length : Int)) ∧
 (seenF (List.take x_1 (colorsF (6 : Int) (6 : Int) (graphX x)).fst)).length ≤ (1000 : Nat) ∧
 ((!decide
 ((colorsF (6 : Int) (6 : Int) (graphX x)).fst.getD (↑x_1 : Int).toNat (0 : Int) ∈
 seenF (List.take x_1 (colorsF (6 : Int) (6 : Int) (graphX x)).fst))) =
 true →
 (!decide
 ((colorsF (6 : Int) (6 : Int) (graphX x)).fst.getD (↑x_1 : Int).toNat (0 : Int) ∈
 seenF (List.take x_1 (colorsF (6 : Int) (6 : Int) (graphX x)).fst))) =
 true ∧
 ((0 : Int) ≤ (↑x_1 : Int) ∧ (↑x_1 : Int) < (↑(colorsF (6 : Int) (6 : Int) (graphX x)).fst.length : Int)) ∧
 Small ((seenF (List.take x_1 (colorsF (6 : Int) (6 : Int) (graphX x)).fst)).length + ((0 : Nat) + (1 : Nat))) ∧
 Fits IntKind.i64 ((↑x_1 : Int) + (1 : Int)) ∧
 ∃ (x' : Nat),
 x' ≤ (colorsF (6 : Int) (6 : Int) (graphX x)).fst.length ∧
 (colorsF (6 : Int) (6 : Int) (graphX x)).fst.length - x' < (colorsF (6 : Int) (6 : Int) (graphX x)).fst.length - x_1 ∧
 (seenF (List.take x_1 (colorsF (6 : Int) (6 : Int) (graphX x)).fst) ++
 [(colorsF (6 : Int) (6 : Int) (graphX x)).fst.getD (↑x_1 : Int).toNat (0 : Int)] =
 seenF (List.take x' (colorsF (6 : Int) (6 : Int) (graphX x)).fst) ∧
 True) ∧
 (↑x_1 : Int) + (1 : Int) = (↑x' : Int) ∧
 True ∧
 (colorsF (6 : Int) (6 : Int) (graphX x)).snd = (colorsF (6 : Int) (6 : Int) (graphX x)).snd ∧
 (colorsF (6 : Int) (6 : Int) (graphX x)).fst = (colorsF (6 : Int) (6 : Int) (graphX x)).fst ∧ graphX x = graphX x ∧ True) ∧
 ((!decide
 ((colorsF (6 : Int) (6 : Int) (graphX x)).fst.getD (↑x_1 : Int).toNat (0 : Int) ∈
 seenF (List.take x_1 (colorsF (6 : Int) (6 : Int) (graphX x)).fst))) =
 false →
 (!decide
 ((colorsF (6 : Int) (6 : Int) (graphX x)).fst.getD (↑x_1 : Int).toNat (0 : Int) ∈
 seenF (List.take x_1 (colorsF (6 : Int) (6 : Int) (graphX x)).fst))) =
 false ∧
 Fits IntKind.i64 ((↑x_1 : Int) + (1 : Int)) ∧
 ∃ (x' : Nat),
 x' ≤ (colorsF (6 : Int) (6 : Int) (graphX x)).fst.length ∧
 (colorsF (6 : Int) (6 : Int) (graphX x)).fst.length - x' < (colorsF (6 : Int) (6 : Int) (graphX x)).fst.length - x_1 ∧
 (seenF (List.take x_1 (colorsF (6 : Int) (6 : Int) (graphX x)).fst) = seenF (List.take x' (colorsF (6 : Int) (6 : Int) (graphX x)).fst) ∧ True) ∧
 (↑x_1 : Int) + (1 : Int) = (↑x' : Int) ∧
 True ∧
 (colorsF (6 : Int) (6 : Int) (graphX x)).snd = (colorsF (6 : Int) (6 : Int) (graphX x)).snd ∧
 (colorsF (6 : Int) (6 : Int) (graphX x)).fst = (colorsF (6 : Int) (6 : Int) (graphX x)).fst ∧ graphX x = graphX x ∧ True)) ∧
 (¬(↑x_1 : Int) < (↑(colorsF (6 : Int) (6 : Int) (graphX x)).fst.length : Int) →
 ¬(↑x_1 : Int) < (↑(colorsF (6 : Int) (6 : Int) (graphX x)).fst.length : Int) ∧
 ((colorsF (6 : Int) (6 : Int) (graphX x)).snd = (0 : Int) →
 (colorsF (6 : Int) (6 : Int) (graphX x)).snd = (0 : Int) ∧
 (colorsF (6 : Int) (6 : Int) (graphX x)).snd = (0 : Int) ∧
 ((↑(colorsF (6 : Int) (6 : Int) (graphX x)).fst.length : Int) = (↑(graphX x).length : Int) →
 (↑(colorsF (6 : Int) (6 : Int) (graphX x)).fst.length : Int) = (↑(graphX x).length : Int) ∧
 (↑(colorsF (6 : Int) (6 : Int) (graphX x)).fst.length : Int) = (↑(graphX x).length : Int) ∧
 (↑(colorsF (6 : Int) (6 : Int) (graphX x)).fst.length : Int) = (↑(graphX x).length : Int) ∧
 ((graphX x).length ≤ (1000 : Nat) ∧ (colorsF (6 : Int) (6 : Int) (graphX x)).fst.length ≤ (graphX x).length) ∧
 (properF (graphX x) (colorsF (6 : Int) (6 : Int) (graphX x)).fst = true →
 properF (graphX x) (colorsF (6 : Int) (6 : Int) (graphX x)).fst = true ∧
 properF (graphX x) (colorsF (6 : Int) (6 : Int) (graphX x)).fst = true ∧
 properF (graphX x) (colorsF (6 : Int) (6 : Int) (graphX x)).fst = true ∧
 (graphX x).length ≤ (1000 : Nat) ∧
 ((↑(seenF (List.take x_1 (colorsF (6 : Int) (6 : Int) (graphX x)).fst)).length : Int) = degR (graphX x) (6 : Nat) →
 (↑(seenF (List.take x_1 (colorsF (6 : Int) (6 : Int) (graphX x)).fst)).length : Int) = degR (graphX x) (6 : Nat) ∧
 (↑(seenF (List.take x_1 (colorsF (6 : Int) (6 : Int) (graphX x)).fst)).length : Int) = degR (graphX x) (6 : Nat) ∧
 (↑(seenF (List.take x_1 (colorsF (6 : Int) (6 : Int) (graphX x)).fst)).length : Int) = degR (graphX x) (6 : Nat) ∧
 (graphX x).length ≤ (1000 : Nat) ∧
 ((colorsF (6 : Int) (6 : Int) (graphX x)).fst.length ≤ (1000 : Nat) ∧
 (-1000 : Int) ≤ max (degR (graphX x) (6 : Nat)) (1 : Int) ∧
 max (degR (graphX x) (6 : Nat)) (1 : Int) ≤ (1000 : Int)) ∧
 (decide
 ((∀ (x_2 : Int),
 x_2 ∈ (colorsF (6 : Int) (6 : Int) (graphX x)).fst →
 (0 : Int) ≤ x_2 ∧ x_2 < max (degR (graphX x) (6 : Nat)) (1 : Int)) ∧
 (↑(colorsF (6 : Int) (6 : Int) (graphX x)).fst.length : Int) = (↑(graphX x).length : Int)) =
 true →
 decide
 ((∀ (x_2 : Int),
 x_2 ∈ (colorsF (6 : Int) (6 : Int) (graphX x)).fst →
 (0 : Int) ≤ x_2 ∧ x_2 < max (degR (graphX x) (6 : Nat)) (1 : Int)) ∧
 (↑(colorsF (6 : Int) (6 : Int) (graphX x)).fst.length : Int) = (↑(graphX x).length : Int)) =
 true ∧
 decide
 ((∀ (x_2 : Int),
 x_2 ∈ (colorsF (6 : Int) (6 : Int) (graphX x)).fst →
 (0 : Int) ≤ x_2 ∧ x_2 < max (degR (graphX x) (6 : Nat)) (1 : Int)) ∧
 (↑(colorsF (6 : Int) (6 : Int) (graphX x)).fst.length : Int) = (↑(graphX x).length : Int)) =
 true ∧
 decide
 ((∀ (x_2 : Int),
 x_2 ∈ (colorsF (6 : Int) (6 : Int) (graphX x)).fst →
 (0 : Int) ≤ x_2 ∧ x_2 < max (degR (graphX x) (6 : Nat)) (1 : Int)) ∧
 (↑(colorsF (6 : Int) (6 : Int) (graphX x)).fst.length : Int) = (↑(graphX x).length : Int)) =
 true ∧
 True ∧ true = true) ∧
 (decide
 ((∀ (x_2 : Int),
 x_2 ∈ (colorsF (6 : Int) (6 : Int) (graphX x)).fst →
 (0 : Int) ≤ x_2 ∧ x_2 < max (degR (graphX x) (6 : Nat)) (1 : Int)) ∧
 (↑(colorsF (6 : Int) (6 : Int) (graphX x)).fst.length : Int) = (↑(graphX x).length : Int)) =
 false →
 decide
 ((∀ (x_2 : Int),
 x_2 ∈ (colorsF (6 : Int) (6 : Int) (graphX x)).fst →
 (0 : Int) ≤ x_2 ∧ x_2 < max (degR (graphX x) (6 : Nat)) (1 : Int)) ∧
 (↑(colorsF (6 : Int) (6 : Int) (graphX x)).fst.length : Int) = (↑(graphX x).length : Int)) =
 false ∧
 decide
 ((∀ (x_2 : Int),
 x_2 ∈ (colorsF (6 : Int) (6 : Int) (graphX x)).fst →
 (0 : Int) ≤ x_2 ∧ x_2 < max (degR (graphX x) (6 : Nat)) (1 : Int)) ∧
 (↑(colorsF (6 : Int) (6 : Int) (graphX x)).fst.length : Int) = (↑(graphX x).length : Int)) =
 false ∧
 decide
 ((∀ (x_2 : Int),
 x_2 ∈ (colorsF (6 : Int) (6 : Int) (graphX x)).fst →
 (0 : Int) ≤ x_2 ∧ x_2 < max (degR (graphX x) (6 : Nat)) (1 : Int)) ∧
 (↑(colorsF (6 : Int) (6 : Int) (graphX x)).fst.length : Int) = (↑(graphX x).length : Int)) =
 false ∧
 false = true)) ∧
 (¬(↑(seenF (List.take x_1 (colorsF (6 : Int) (6 : Int) (graphX x)).fst)).length : Int) = degR (graphX x) (6 : Nat) →
 ¬(↑(seenF (List.take x_1 (colorsF (6 : Int) (6 : Int) (graphX x)).fst)).length : Int) = degR (graphX x) (6 : Nat) ∧
 ¬(↑(seenF (List.take x_1 (colorsF (6 : Int) (6 : Int) (graphX x)).fst)).length : Int) = degR (graphX x) (6 : Nat) ∧
 ¬(↑(seenF (List.take x_1 (colorsF (6 : Int) (6 : Int) (graphX x)).fst)).length : Int) = degR (graphX x) (6 : Nat) ∧
 false = true)) ∧
 (properF (graphX x) (colorsF (6 : Int) (6 : Int) (graphX x)).fst = false →
 properF (graphX x) (colorsF (6 : Int) (6 : Int) (graphX x)).fst = false ∧
 properF (graphX x) (colorsF (6 : Int) (6 : Int) (graphX x)).fst = false ∧
 properF (graphX x) (colorsF (6 : Int) (6 : Int) (graphX x)).fst = false ∧ false = true)) ∧
 (¬(↑(colorsF (6 : Int) (6 : Int) (graphX x)).fst.length : Int) = (↑(graphX x).length : Int) →
 ¬(↑(colorsF (6 : Int) (6 : Int) (graphX x)).fst.length : Int) = (↑(graphX x).length : Int) ∧
 ¬(↑(colorsF (6 : Int) (6 : Int) (graphX x)).fst.length : Int) = (↑(graphX x).length : Int) ∧
 ¬(↑(colorsF (6 : Int) (6 : Int) (graphX x)).fst.length : Int) = (↑(graphX x).length : Int) ∧ false = true)) ∧
 (¬(colorsF (6 : Int) (6 : Int) (graphX x)).snd = (0 : Int) →
 ¬(colorsF (6 : Int) (6 : Int) (graphX x)).snd = (0 : Int) ∧ ¬(colorsF (6 : Int) (6 : Int) (graphX x)).snd = (0 : Int) ∧ false = true))) := by
 kernel_rfl

theorem g7_eq (x : Int × Int × Int) (code : List Int) : g7 x code = (
 (((0 : Int) ≤ x.fst ∧ x.fst ≤ (255 : Int)) ∧ ((0 : Int) ≤ x.snd.fst ∧ x.snd.fst ≤ (255 : Int)) ∧ (0 : Int) ≤ x.snd.snd ∧ x.snd.snd ≤ (255 : Int)) ∧
 ((6 : Int) < (netF (x.fst, x.snd.fst, x.snd.snd)).snd.fst → (6 : Int) < (netF (x.fst, x.snd.fst, x.snd.snd)).snd.fst ∧ True ∧ true = true) ∧
 (¬(6 : Int) < (netF (x.fst, x.snd.fst, x.snd.snd)).snd.fst →
 ¬(6 : Int) < (netF (x.fst, x.snd.fst, x.snd.snd)).snd.fst ∧
 Fits IntKind.i64 ((netF (x.fst, x.snd.fst, x.snd.snd)).fst * (netF (x.fst, x.snd.fst, x.snd.snd)).snd.fst) ∧
 (((0 : Int) ≤ (netF (x.fst, x.snd.fst, x.snd.snd)).fst * (netF (x.fst, x.snd.fst, x.snd.snd)).snd.fst ∧
 (netF (x.fst, x.snd.fst, x.snd.snd)).fst * (netF (x.fst, x.snd.fst, x.snd.snd)).snd.fst ≤ (100 : Int)) ∧
 code.length ≤ maxLen ∧ ∀ (b : Int), b ∈ code → (0 : Int) ≤ b ∧ b ≤ (255 : Int)) ∧
 (∃ (x0 : Nat),
 (↑x0 : Int) ≤ (netF x).fst * (netF x).snd.fst ∧
 ((x.fst = x.fst ∧ x.snd.fst = x.snd.fst ∧ x.snd.snd = x.snd.snd ∧ True) ∧
 [] = edgesTo (netF x).fst (nthTo code ((netF x).fst * (netF x).snd.fst).toNat) x0 ∧ True) ∧
 (0 : Int) = (↑x0 : Int) ∧
 True ∧
 nthTo code ((netF (x.fst, x.snd.fst, x.snd.snd)).fst * (netF (x.fst, x.snd.fst, x.snd.snd)).snd.fst).toNat =
 nthTo code ((netF (x.fst, x.snd.fst, x.snd.snd)).fst * (netF (x.fst, x.snd.fst, x.snd.snd)).snd.fst).toNat ∧
 (netF (x.fst, x.snd.fst, x.snd.snd)).snd.fst = (netF (x.fst, x.snd.fst, x.snd.snd)).snd.fst ∧
 (netF (x.fst, x.snd.fst, x.snd.snd)).fst = (netF (x.fst, x.snd.fst, x.snd.snd)).fst ∧ True) ∧
 ∀ (x_1 : Nat),
 (↑x_1 : Int) ≤ (netF x).fst * (netF x).snd.fst →
 Fits IntKind.i64 ((netF (x.fst, x.snd.fst, x.snd.snd)).fst * (netF (x.fst, x.snd.fst, x.snd.snd)).snd.fst) ∧
 ((↑x_1 : Int) < (netF (x.fst, x.snd.fst, x.snd.snd)).fst * (netF (x.fst, x.snd.fst, x.snd.snd)).snd.fst →
 (↑x_1 : Int) < (netF (x.fst, x.snd.fst, x.snd.snd)).fst * (netF (x.fst, x.snd.fst, x.snd.snd)).snd.fst ∧
 ((0 : Int) ≤ (↑x_1 : Int) ∧ (0 : Int) < (netF (x.fst, x.snd.fst, x.snd.snd)).fst) ∧
 Fits IntKind.i64 ((↑x_1 : Int) / (netF (x.fst, x.snd.fst, x.snd.snd)).fst) ∧
 ((0 : Int) ≤ (↑x_1 : Int) ∧
 (↑x_1 : Int) < (↑(nthTo code ((netF (x.fst, x.snd.fst, x.snd.snd)).fst * (netF (x.fst, x.snd.fst, x.snd.snd)).snd.fst).toNat).length : Int)) ∧
 ((0 : Int) ≤
 (nthTo code ((netF (x.fst, x.snd.fst, x.snd.snd)).fst * (netF (x.fst, x.snd.fst, x.snd.snd)).snd.fst).toNat).getD (↑x_1 : Int).toNat
 (0 : Int) ∧
 (0 : Int) < (netF (x.fst, x.snd.fst, x.snd.snd)).fst) ∧
 Fits IntKind.i64
 ((nthTo code ((netF (x.fst, x.snd.fst, x.snd.snd)).fst * (netF (x.fst, x.snd.fst, x.snd.snd)).snd.fst).toNat).getD (↑x_1 : Int).toNat
 (0 : Int) /
 (netF (x.fst, x.snd.fst, x.snd.snd)).fst) ∧
 Small ((edgesTo (netF x).fst (nthTo code ((netF x).fst * (netF x).snd.fst).toNat) x_1).length + ((0 : Nat) + (1 : Nat))) ∧
 Fits IntKind.i64 ((↑x_1 : Int) + (1 : Int)) ∧
 ∃ (x' : Nat),
 (↑x' : Int) ≤ (netF x).fst * (netF x).snd.fst ∧
 ((netF x).fst * (netF x).snd.fst).toNat - x' < ((netF x).fst * (netF x).snd.fst).toNat - x_1 ∧
 ((x.fst = x.fst ∧ x.snd.fst = x.snd.fst ∧ x.snd.snd = x.snd.snd ∧ True) ∧
 edgesTo (netF x).fst (nthTo code ((netF x).fst * (netF x).snd.fst).toNat) x_1 ++
 [((↑x_1 : Int) / (netF (x.fst, x.snd.fst, x.snd.snd)).fst,
 (nthTo code ((netF (x.fst, x.snd.fst, x.snd.snd)).fst * (netF (x.fst, x.snd.fst, x.snd.snd)).snd.fst).toNat).getD
 (↑x_1 : Int).toNat (0 : Int) /
 (netF (x.fst, x.snd.fst, x.snd.snd)).fst)] =
 edgesTo (netF x).fst (nthTo code ((netF x).fst * (netF x).snd.fst).toNat) x' ∧
 True) ∧
 (↑x_1 : Int) + (1 : Int) = (↑x' : Int) ∧
 True ∧
 nthTo code ((netF (x.fst, x.snd.fst, x.snd.snd)).fst * (netF (x.fst, x.snd.fst, x.snd.snd)).snd.fst).toNat =
 nthTo code ((netF (x.fst, x.snd.fst, x.snd.snd)).fst * (netF (x.fst, x.snd.fst, x.snd.snd)).snd.fst).toNat ∧
 (netF (x.fst, x.snd.fst, x.snd.snd)).snd.fst = (netF (x.fst, x.snd.fst, x.snd.snd)).snd.fst ∧
 (netF (x.fst, x.snd.fst, x.snd.snd)).fst = (netF (x.fst, x.snd.fst, x.snd.snd)).fst ∧ True) ∧
 (¬(↑x_1 : Int) < (netF (x.fst, x.snd.fst, x.snd.snd)).fst * (netF (x.fst, x.snd.fst, x.snd.snd)).snd.fst →
 ¬(↑x_1 : Int) < (netF (x.fst, x.snd.fst, x.snd.snd)).fst * (netF (x.fst, x.snd.fst, x.snd.snd)).snd.fst ∧
 (nthTo code ((netF (x.fst, x.snd.fst, x.snd.snd)).fst * (netF (x.fst, x.snd.fst, x.snd.snd)).snd.fst).toNat).length ≤ (1000 : Nat) ∧
 (edgesTo (netF x).fst (nthTo code ((netF x).fst * (netF x).snd.fst).toNat) x_1).length ≤ (1000 : Nat) ∧
 ((routeF (netF (x.fst, x.snd.fst, x.snd.snd)).fst (netF (x.fst, x.snd.fst, x.snd.snd)).snd.fst (netF (x.fst, x.snd.fst, x.snd.snd)).fst
 (nthTo code ((netF (x.fst, x.snd.fst, x.snd.snd)).fst * (netF (x.fst, x.snd.fst, x.snd.snd)).snd.fst).toNat)).snd =
 (0 : Int) →
 (routeF (netF (x.fst, x.snd.fst, x.snd.snd)).fst (netF (x.fst, x.snd.fst, x.snd.snd)).snd.fst (netF (x.fst, x.snd.fst, x.snd.snd)).fst
 (nthTo code ((netF (x.fst, x.snd.fst, x.snd.snd)).fst * (netF (x.fst, x.snd.fst, x.snd.snd)).snd.fst).toNat)).snd =
 (0 : Int) ∧
 (routeF (netF (x.fst, x.snd.fst, x.snd.snd)).fst (netF (x.fst, x.snd.fst, x.snd.snd)).snd.fst (netF (x.fst, x.snd.fst, x.snd.snd)).fst
 (nthTo code ((netF (x.fst, x.snd.fst, x.snd.snd)).fst * (netF (x.fst, x.snd.fst, x.snd.snd)).snd.fst).toNat)).snd =
 (0 : Int) ∧
 ((colorsF (netF (x.fst, x.snd.fst, x.snd.snd)).snd.fst (netF (x.fst, x.snd.fst, x.snd.snd)).snd.fst
 (edgesTo (netF x).fst (nthTo code ((netF x).fst * (netF x).snd.fst).toNat) x_1)).snd =
 (0 : Int) →
 (colorsF (netF (x.fst, x.snd.fst, x.snd.snd)).snd.fst (netF (x.fst, x.snd.fst, x.snd.snd)).snd.fst
 (edgesTo (netF x).fst (nthTo code ((netF x).fst * (netF x).snd.fst).toNat) x_1)).snd =
 (0 : Int) ∧
 (colorsF (netF (x.fst, x.snd.fst, x.snd.snd)).snd.fst (netF (x.fst, x.snd.fst, x.snd.snd)).snd.fst
 (edgesTo (netF x).fst (nthTo code ((netF x).fst * (netF x).snd.fst).toNat) x_1)).snd =
 (0 : Int) ∧
 (colorsF (netF (x.fst, x.snd.fst, x.snd.snd)).snd.fst (netF (x.fst, x.snd.fst, x.snd.snd)).snd.fst
 (edgesTo (netF x).fst (nthTo code ((netF x).fst * (netF x).snd.fst).toNat) x_1)).snd =
 (0 : Int) ∧
 ((routeF (netF (x.fst, x.snd.fst, x.snd.snd)).fst (netF (x.fst, x.snd.fst, x.snd.snd)).snd.fst
 (netF (x.fst, x.snd.fst, x.snd.snd)).fst
 (nthTo code
 ((netF (x.fst, x.snd.fst, x.snd.snd)).fst * (netF (x.fst, x.snd.fst, x.snd.snd)).snd.fst).toNat)).fst.length ≤
 (1000 : Nat) ∧
 (colorsF (netF (x.fst, x.snd.fst, x.snd.snd)).snd.fst (netF (x.fst, x.snd.fst, x.snd.snd)).snd.fst
 (edgesTo (netF x).fst (nthTo code ((netF x).fst * (netF x).snd.fst).toNat) x_1)).fst.length ≤
 (1000 : Nat)) ∧
 (decide
 ((routeF (netF (x.fst, x.snd.fst, x.snd.snd)).fst (netF (x.fst, x.snd.fst, x.snd.snd)).snd.fst
 (netF (x.fst, x.snd.fst, x.snd.snd)).fst
 (nthTo code ((netF (x.fst, x.snd.fst, x.snd.snd)).fst * (netF (x.fst, x.snd.fst, x.snd.snd)).snd.fst).toNat)).fst =
 (colorsF (netF (x.fst, x.snd.fst, x.snd.snd)).snd.fst (netF (x.fst, x.snd.fst, x.snd.snd)).snd.fst
 (edgesTo (netF x).fst (nthTo code ((netF x).fst * (netF x).snd.fst).toNat) x_1)).fst) =
 true →
 decide
 ((routeF (netF (x.fst, x.snd.fst, x.snd.snd)).fst (netF (x.fst, x.snd.fst, x.snd.snd)).snd.fst
 (netF (x.fst, x.snd.fst, x.snd.snd)).fst
 (nthTo code
 ((netF (x.fst, x.snd.fst, x.snd.snd)).fst * (netF (x.fst, x.snd.fst, x.snd.snd)).snd.fst).toNat)).fst =
 (colorsF (netF (x.fst, x.snd.fst, x.snd.snd)).snd.fst (netF (x.fst, x.snd.fst, x.snd.snd)).snd.fst
 (edgesTo (netF x).fst (nthTo code ((netF x).fst * (netF x).snd.fst).toNat) x_1)).fst) =
 true ∧
 decide
 ((routeF (netF (x.fst, x.snd.fst, x.snd.snd)).fst (netF (x.fst, x.snd.fst, x.snd.snd)).snd.fst
 (netF (x.fst, x.snd.fst, x.snd.snd)).fst
 (nthTo code
 ((netF (x.fst, x.snd.fst, x.snd.snd)).fst * (netF (x.fst, x.snd.fst, x.snd.snd)).snd.fst).toNat)).fst =
 (colorsF (netF (x.fst, x.snd.fst, x.snd.snd)).snd.fst (netF (x.fst, x.snd.fst, x.snd.snd)).snd.fst
 (edgesTo (netF x).fst (nthTo code ((netF x).fst * (netF x).snd.fst).toNat) x_1)).fst) =
 true ∧
 decide
 ((routeF (netF (x.fst, x.snd.fst, x.snd.snd)).fst (netF (x.fst, x.snd.fst, x.snd.snd)).snd.fst
 (netF (x.fst, x.snd.fst, x.snd.snd)).fst
 (nthTo code
 ((netF (x.fst, x.snd.fst, x.snd.snd)).fst * (netF (x.fst, x.snd.fst, x.snd.snd)).snd.fst).toNat)).fst =
 (colorsF (netF (x.fst, x.snd.fst, x.snd.snd)).snd.fst (netF (x.fst, x.snd.fst, x.snd.snd)).snd.fst
 (edgesTo (netF x).fst (nthTo code ((netF x).fst * (netF x).snd.fst).toNat) x_1)).fst) =
 true ∧
 ((edgesTo (netF x).fst (nthTo code ((netF x).fst * (netF x).snd.fst).toNat) x_1).length ≤ (1000 : Nat) ∧
 (routeF (netF (x.fst, x.snd.fst, x.snd.snd)).fst (netF (x.fst, x.snd.fst, x.snd.snd)).snd.fst
 (netF (x.fst, x.snd.fst, x.snd.snd)).fst
 (nthTo code
 ((netF (x.fst, x.snd.fst, x.snd.snd)).fst *
 (netF (x.fst, x.snd.fst, x.snd.snd)).snd.fst).toNat)).fst.length ≤
 (edgesTo (netF x).fst (nthTo code ((netF x).fst * (netF x).snd.fst).toNat) x_1).length) ∧
 (properF (edgesTo (netF x).fst (nthTo code ((netF x).fst * (netF x).snd.fst).toNat) x_1)
 (routeF (netF (x.fst, x.snd.fst, x.snd.snd)).fst (netF (x.fst, x.snd.fst, x.snd.snd)).snd.fst
 (netF (x.fst, x.snd.fst, x.snd.snd)).fst
 (nthTo code
 ((netF (x.fst, x.snd.fst, x.snd.snd)).fst * (netF (x.fst, x.snd.fst, x.snd.snd)).snd.fst).toNat)).fst =
 true →
 properF (edgesTo (netF x).fst (nthTo code ((netF x).fst * (netF x).snd.fst).toNat) x_1)
 (routeF (netF (x.fst, x.snd.fst, x.snd.snd)).fst (netF (x.fst, x.snd.fst, x.snd.snd)).snd.fst
 (netF (x.fst, x.snd.fst, x.snd.snd)).fst
 (nthTo code
 ((netF (x.fst, x.snd.fst, x.snd.snd)).fst *
 (netF (x.fst, x.snd.fst, x.snd.snd)).snd.fst).toNat)).fst =
 true ∧
 properF (edgesTo (netF x).fst (nthTo code ((netF x).fst * (netF x).snd.fst).toNat) x_1)
 (routeF (netF (x.fst, x.snd.fst, x.snd.snd)).fst (netF (x.fst, x.snd.fst, x.snd.snd)).snd.fst
 (netF (x.fst, x.snd.fst, x.snd.snd)).fst
 (nthTo code
 ((netF (x.fst, x.snd.fst, x.snd.snd)).fst *
 (netF (x.fst, x.snd.fst, x.snd.snd)).snd.fst).toNat)).fst =
 true ∧
 properF (edgesTo (netF x).fst (nthTo code ((netF x).fst * (netF x).snd.fst).toNat) x_1)
 (routeF (netF (x.fst, x.snd.fst, x.snd.snd)).fst (netF (x.fst, x.snd.fst, x.snd.snd)).snd.fst
 (netF (x.fst, x.snd.fst, x.snd.snd)).fst
 (nthTo code
 ((netF (x.fst, x.snd.fst, x.snd.snd)).fst *
 (netF (x.fst, x.snd.fst, x.snd.snd)).snd.fst).toNat)).fst =
 true ∧
 True ∧ true = true) ∧
 (properF (edgesTo (netF x).fst (nthTo code ((netF x).fst * (netF x).snd.fst).toNat) x_1)
 (routeF (netF (x.fst, x.snd.fst, x.snd.snd)).fst (netF (x.fst, x.snd.fst, x.snd.snd)).snd.fst
 (netF (x.fst, x.snd.fst, x.snd.snd)).fst
 (nthTo code
 ((netF (x.fst, x.snd.fst, x.snd.snd)).fst * (netF (x.fst, x.snd.fst, x.snd.snd)).snd.fst).toNat)).fst =
 false →
 properF (edgesTo (netF x).fst (nthTo code ((netF x).fst * (netF x).snd.fst).toNat) x_1)
 (routeF (netF (x.fst, x.snd.fst, x.snd.snd)).fst (netF (x.fst, x.snd.fst, x.snd.snd)).snd.fst
 (netF (x.fst, x.snd.fst, x.snd.snd)).fst
 (nthTo code
 ((netF (x.fst, x.snd.fst, x.snd.snd)).fst *
 (netF (x.fst, x.snd.fst, x.snd.snd)).snd.fst).toNat)).fst =
 false ∧
 properF (edgesTo (netF x).fst (nthTo code ((netF x).fst * (netF x).snd.fst).toNat) x_1)
 (routeF (netF (x.fst, x.snd.fst, x.snd.snd)).fst (netF (x.fst, x.snd.fst, x.snd.snd)).snd.fst
 (netF (x.fst, x.snd.fst, x.snd.snd)).fst
 (nthTo code
 ((netF (x.fst, x.snd.fst, x.snd.snd)).fst *
 (netF (x.fst, x.snd.fst, x.snd.snd)).snd.fst).toNat)).fst =
 false ∧
 properF (edgesTo (netF x).fst (nthTo code ((netF x).fst * (netF x).snd.fst).toNat) x_1)
 (routeF (netF (x.fst, x.snd.fst, x.snd.snd)).fst (netF (x.fst, x.snd.fst, x.snd.snd)).snd.fst
 (netF (x.fst, x.snd.fst, x.snd.snd)).fst
 (nthTo code
 ((netF (x.fst, x.snd.fst, x.snd.snd)).fst *
 (netF (x.fst, x.snd.fst, x.snd.snd)).snd.fst).toNat)).fst =
 false ∧
 false = true)) ∧
 (decide
 ((routeF (netF (x.fst, x.snd.fst, x.snd.snd)).fst (netF (x.fst, x.snd.fst, x.snd.snd)).snd.fst
 (netF (x.fst, x.snd.fst, x.snd.snd)).fst
 (nthTo code ((netF (x.fst, x.snd.fst, x.snd.snd)).fst * (netF (x.fst, x.snd.fst, x.snd.snd)).snd.fst).toNat)).fst =
 (colorsF (netF (x.fst, x.snd.fst, x.snd.snd)).snd.fst (netF (x.fst, x.snd.fst, x.snd.snd)).snd.fst
 (edgesTo (netF x).fst (nthTo code ((netF x).fst * (netF x).snd.fst).toNat) x_1)).fst) =
 false →
 decide
 ((routeF (netF (x.fst, x.snd.fst, x.snd.snd)).fst (netF (x.fst, x.snd.fst, x.snd.snd)).snd.fst
 (netF (x.fst, x.snd.fst, x.snd.snd)).fst
 (nthTo code
 ((netF (x.fst, x.snd.fst, x.snd.snd)).fst * (netF (x.fst, x.snd.fst, x.snd.snd)).snd.fst).toNat)).fst =
 (colorsF (netF (x.fst, x.snd.fst, x.snd.snd)).snd.fst (netF (x.fst, x.snd.fst, x.snd.snd)).snd.fst
 (edgesTo (netF x).fst (nthTo code ((netF x).fst * (netF x).snd.fst).toNat) x_1)).fst) =
 false ∧
 decide
 ((routeF (netF (x.fst, x.snd.fst, x.snd.snd)).fst (netF (x.fst, x.snd.fst, x.snd.snd)).snd.fst
 (netF (x.fst, x.snd.fst, x.snd.snd)).fst
 (nthTo code
 ((netF (x.fst, x.snd.fst, x.snd.snd)).fst * (netF (x.fst, x.snd.fst, x.snd.snd)).snd.fst).toNat)).fst =
 (colorsF (netF (x.fst, x.snd.fst, x.snd.snd)).snd.fst (netF (x.fst, x.snd.fst, x.snd.snd)).snd.fst
 (edgesTo (netF x).fst (nthTo code ((netF x).fst * (netF x).snd.fst).toNat) x_1)).fst) =
 false ∧
 decide
 ((routeF (netF (x.fst, x.snd.fst, x.snd.snd)).fst (netF (x.fst, x.snd.fst, x.snd.snd)).snd.fst
 (netF (x.fst, x.snd.fst, x.snd.snd)).fst
 (nthTo code
 ((netF (x.fst, x.snd.fst, x.snd.snd)).fst * (netF (x.fst, x.snd.fst, x.snd.snd)).snd.fst).toNat)).fst =
 (colorsF (netF (x.fst, x.snd.fst, x.snd.snd)).snd.fst (netF (x.fst, x.snd.fst, x.snd.snd)).snd.fst
 (edgesTo (netF x).fst (nthTo code ((netF x).fst * (netF x).snd.fst).toNat) x_1)).fst) =
 false ∧
 false = true)) ∧
 (¬(colorsF (netF (x.fst, x.snd.fst, x.snd.snd)).snd.fst (netF (x.fst, x.snd.fst, x.snd.snd)).snd.fst
 (edgesTo (netF x).fst (nthTo code ((netF x).fst * (netF x).snd.fst).toNat) x_1)).snd =
 (0 : Int) →
 ¬(colorsF (netF (x.fst, x.snd.fst, x.snd.snd)).snd.fst (netF (x.fst, x.snd.fst, x.snd.snd)).snd.fst
 (edgesTo (netF x).fst (nthTo code ((netF x).fst * (netF x).snd.fst).toNat) x_1)).snd =
 (0 : Int) ∧
 ¬(colorsF (netF (x.fst, x.snd.fst, x.snd.snd)).snd.fst (netF (x.fst, x.snd.fst, x.snd.snd)).snd.fst
 (edgesTo (netF x).fst (nthTo code ((netF x).fst * (netF x).snd.fst).toNat) x_1)).snd =
 (0 : Int) ∧
 ¬(colorsF (netF (x.fst, x.snd.fst, x.snd.snd)).snd.fst (netF (x.fst, x.snd.fst, x.snd.snd)).snd.fst
 (edgesTo (netF x).fst (nthTo code ((netF x).fst * (netF x).snd.fst).toNat) x_1)).snd =
 (0 : Int) ∧
 false = true)) ∧
 (¬(routeF (netF (x.fst, x.snd.fst, x.snd.snd)).fst (netF (x.fst, x.snd.fst, x.snd.snd)).snd.fst (netF (x.fst, x.snd.fst, x.snd.snd)).fst
 (nthTo code ((netF (x.fst, x.snd.fst, x.snd.snd)).fst * (netF (x.fst, x.snd.fst, x.snd.snd)).snd.fst).toNat)).snd =
 (0 : Int) →
 ¬(routeF (netF (x.fst, x.snd.fst, x.snd.snd)).fst (netF (x.fst, x.snd.fst, x.snd.snd)).snd.fst (netF (x.fst, x.snd.fst, x.snd.snd)).fst
 (nthTo code ((netF (x.fst, x.snd.fst, x.snd.snd)).fst * (netF (x.fst, x.snd.fst, x.snd.snd)).snd.fst).toNat)).snd =
 (0 : Int) ∧
 ¬(routeF (netF (x.fst, x.snd.fst, x.snd.snd)).fst (netF (x.fst, x.snd.fst, x.snd.snd)).snd.fst (netF (x.fst, x.snd.fst, x.snd.snd)).fst
 (nthTo code ((netF (x.fst, x.snd.fst, x.snd.snd)).fst * (netF (x.fst, x.snd.fst, x.snd.snd)).snd.fst).toNat)).snd =
 (0 : Int) ∧
 false = true)))) := by
 kernel_rfl

theorem g5_eq (x : Int) : g5 x = (
 Fits IntKind.i64 x ∧
 ((0 : Int) ≤ x ∧ (0 : Int) < (2 : Int)) ∧
 Fits IntKind.i64 (x % (2 : Int) + (1 : Int)) ∧
 (∃ (x0 : Nat),
 ((2 : Nat) ≤ x0 ∧ x0 ≤ (2 : Nat) ^ kOf x + (1 : Nat)) ∧
 True ∧ x % (2 : Int) + (1 : Int) = (↑(kOf x) : Int) ∧ (2 : Int) = (↑x0 : Int) ∧ (1 : Int) = (↑(facN (x0 - (1 : Nat))) : Int) ∧ (0 : Int) = (0 : Int) ∧ True) ∧
 ∀ (x_1 : Nat),
 (2 : Nat) ≤ x_1 ∧ x_1 ≤ (2 : Nat) ^ kOf x + (1 : Nat) →
 ((0 : Int) ≤ (↑(kOf x) : Int) ∧ (↑(kOf x) : Int) < (64 : Int)) ∧
 Fits IntKind.i64 ((1 : Int) * (2 : Int) ^ (↑(kOf x) : Int).toNat) ∧
 ((↑x_1 : Int) ≤ (1 : Int) * (2 : Int) ^ (↑(kOf x) : Int).toNat →
 (↑x_1 : Int) ≤ (1 : Int) * (2 : Int) ^ (↑(kOf x) : Int).toNat ∧
 Fits IntKind.i64 ((↑(facN (x_1 - (1 : Nat))) : Int) * (↑x_1 : Int)) ∧
 Fits IntKind.i64 ((↑x_1 : Int) + (1 : Int)) ∧
 ∃ (x' : Nat),
 ((2 : Nat) ≤ x' ∧ x' ≤ (2 : Nat) ^ kOf x + (1 : Nat)) ∧
 (2 : Nat) ^ kOf x + (1 : Nat) - x' < (2 : Nat) ^ kOf x + (1 : Nat) - x_1 ∧
 True ∧
 (↑(kOf x) : Int) = (↑(kOf x) : Int) ∧
 (↑x_1 : Int) + (1 : Int) = (↑x' : Int) ∧
 (↑(facN (x_1 - (1 : Nat))) : Int) * (↑x_1 : Int) = (↑(facN (x' - (1 : Nat))) : Int) ∧ (0 : Int) = (0 : Int) ∧ True) ∧
 (¬(↑x_1 : Int) ≤ (1 : Int) * (2 : Int) ^ (↑(kOf x) : Int).toNat →
 ¬(↑x_1 : Int) ≤ (1 : Int) * (2 : Int) ^ (↑(kOf x) : Int).toNat ∧
 (∃ (x0 : Nat),
 x0 ≤ facN ((2 : Nat) ^ kOf x) ∧
 True ∧
 (0 : Int) = (↑x0 : Int) ∧
 (0 : Int) = (↑(sumTo (kOf x) x0) : Int) ∧
 (↑(facN (x_1 - (1 : Nat))) : Int) = (↑(facN ((2 : Nat) ^ kOf x)) : Int) ∧ (↑(kOf x) : Int) = (↑(kOf x) : Int) ∧ True) ∧
 ∀ (x_2 : Nat),
 x_2 ≤ facN ((2 : Nat) ^ kOf x) →
 ((↑x_2 : Int) < (↑(facN ((2 : Nat) ^ kOf x)) : Int) →
 (↑x_2 : Int) < (↑(facN ((2 : Nat) ^ kOf x)) : Int) ∧
 (∃ (x0 : Nat),
 x0 ≤ (2 : Nat) ^ kOf x ∧
 ([] = (codeTo (↑x_2 : Int).toNat x0).fst ∧ True) ∧
 (0 : Int) = (↑x0 : Int) ∧
 (↑x_2 : Int) = (↑(codeTo (↑x_2 : Int).toNat x0).snd : Int) ∧
 True ∧
 (↑x_2 : Int) = (↑x_2 : Int) ∧
 (↑(sumTo (kOf x) x_2) : Int) = (↑(sumTo (kOf x) x_2) : Int) ∧
 (↑(facN ((2 : Nat) ^ kOf x)) : Int) = (↑(facN ((2 : Nat) ^ kOf x)) : Int) ∧ (↑(kOf x) : Int) = (↑(kOf x) : Int) ∧ True) ∧
 ∀ (x_3 : Nat),
 x_3 ≤ (2 : Nat) ^ kOf x →
 ((0 : Int) ≤ (↑(kOf x) : Int) ∧ (↑(kOf x) : Int) < (64 : Int)) ∧
 Fits IntKind.i64 ((1 : Int) * (2 : Int) ^ (↑(kOf x) : Int).toNat) ∧
 ((↑x_3 : Int) < (1 : Int) * (2 : Int) ^ (↑(kOf x) : Int).toNat →
 (↑x_3 : Int) < (1 : Int) * (2 : Int) ^ (↑(kOf x) : Int).toNat ∧
 Fits IntKind.i64 ((↑x_3 : Int) + (1 : Int)) ∧
 ((0 : Int) ≤ (↑(codeTo (↑x_2 : Int).toNat x_3).snd : Int) ∧ (0 : Int) < (↑x_3 : Int) + (1 : Int)) ∧
 Small ((codeTo (↑x_2 : Int).toNat x_3).fst.length + ((0 : Nat) + (1 : Nat))) ∧
 Fits IntKind.i64 ((↑x_3 : Int) + (1 : Int)) ∧
 ((0 : Int) ≤ (↑(codeTo (↑x_2 : Int).toNat x_3).snd : Int) ∧ (0 : Int) < (↑x_3 : Int) + (1 : Int)) ∧
 Fits IntKind.i64 ((↑(codeTo (↑x_2 : Int).toNat x_3).snd : Int) / ((↑x_3 : Int) + (1 : Int))) ∧
 Fits IntKind.i64 ((↑x_3 : Int) + (1 : Int)) ∧
 ∃ (x' : Nat),
 x' ≤ (2 : Nat) ^ kOf x ∧
 (2 : Nat) ^ kOf x - x' < (2 : Nat) ^ kOf x - x_3 ∧
 ((codeTo (↑x_2 : Int).toNat x_3).fst ++
 [IntKind.u8.wrap ((↑(codeTo (↑x_2 : Int).toNat x_3).snd : Int) % ((↑x_3 : Int) + (1 : Int)))] =
 (codeTo (↑x_2 : Int).toNat x').fst ∧
 True) ∧
 (↑x_3 : Int) + (1 : Int) = (↑x' : Int) ∧
 (↑(codeTo (↑x_2 : Int).toNat x_3).snd : Int) / ((↑x_3 : Int) + (1 : Int)) =
 (↑(codeTo (↑x_2 : Int).toNat x').snd : Int) ∧
 True ∧
 (↑x_2 : Int) = (↑x_2 : Int) ∧
 (↑(sumTo (kOf x) x_2) : Int) = (↑(sumTo (kOf x) x_2) : Int) ∧
 (↑(facN ((2 : Nat) ^ kOf x)) : Int) = (↑(facN ((2 : Nat) ^ kOf x)) : Int) ∧
 (↑(kOf x) : Int) = (↑(kOf x) : Int) ∧ True) ∧
 (¬(↑x_3 : Int) < (1 : Int) * (2 : Int) ^ (↑(kOf x) : Int).toNat →
 ¬(↑x_3 : Int) < (1 : Int) * (2 : Int) ^ (↑(kOf x) : Int).toNat ∧
 ((0 : Int) ≤ (↑(kOf x) : Int) ∧ (↑(kOf x) : Int) < (64 : Int)) ∧
 Fits IntKind.i64 ((1 : Int) * (2 : Int) ^ (↑(kOf x) : Int).toNat) ∧
 (((0 : Int) ≤ (1 : Int) * (2 : Int) ^ (↑(kOf x) : Int).toNat ∧ (1 : Int) * (2 : Int) ^ (↑(kOf x) : Int).toNat ≤ (100 : Int)) ∧
 (codeTo (↑x_2 : Int).toNat x_3).fst.length ≤ maxLen ∧
 ∀ (b : Int), b ∈ (codeTo (↑x_2 : Int).toNat x_3).fst → (0 : Int) ≤ b ∧ b ≤ (255 : Int)) ∧
 (nthTo (codeTo (↑x_2 : Int).toNat x_3).fst ((1 : Int) * (2 : Int) ^ (↑(kOf x) : Int).toNat).toNat).length ≤ (1000 : Nat) ∧
 (¬(waysF (↑(kOf x) : Int)
 (nthTo (codeTo (↑x_2 : Int).toNat x_3).fst ((1 : Int) * (2 : Int) ^ (↑(kOf x) : Int).toNat).toNat)).snd =
 (0 : Int) →
 ¬(waysF (↑(kOf x) : Int)
 (nthTo (codeTo (↑x_2 : Int).toNat x_3).fst ((1 : Int) * (2 : Int) ^ (↑(kOf x) : Int).toNat).toNat)).snd =
 (0 : Int) ∧
 ¬(waysF (↑(kOf x) : Int)
 (nthTo (codeTo (↑x_2 : Int).toNat x_3).fst ((1 : Int) * (2 : Int) ^ (↑(kOf x) : Int).toNat).toNat)).snd =
 (0 : Int) ∧
 false = true) ∧
 (¬¬(waysF (↑(kOf x) : Int)
 (nthTo (codeTo (↑x_2 : Int).toNat x_3).fst ((1 : Int) * (2 : Int) ^ (↑(kOf x) : Int).toNat).toNat)).snd =
 (0 : Int) →
 ¬¬(waysF (↑(kOf x) : Int)
 (nthTo (codeTo (↑x_2 : Int).toNat x_3).fst ((1 : Int) * (2 : Int) ^ (↑(kOf x) : Int).toNat).toNat)).snd =
 (0 : Int) ∧
 ¬¬(waysF (↑(kOf x) : Int)
 (nthTo (codeTo (↑x_2 : Int).toNat x_3).fst
 ((1 : Int) * (2 : Int) ^ (↑(kOf x) : Int).toNat).toNat)).snd =
 (0 : Int) ∧
 ((waysF (↑(kOf x) : Int)
 (nthTo (codeTo (↑x_2 : Int).toNat x_3).fst
 ((1 : Int) * (2 : Int) ^ (↑(kOf x) : Int).toNat).toNat)).fst <
 (1 : Int) →
 (waysF (↑(kOf x) : Int)
 (nthTo (codeTo (↑x_2 : Int).toNat x_3).fst
 ((1 : Int) * (2 : Int) ^ (↑(kOf x) : Int).toNat).toNat)).fst <
 (1 : Int) ∧
 (waysF (↑(kOf x) : Int)
 (nthTo (codeTo (↑x_2 : Int).toNat x_3).fst
 ((1 : Int) * (2 : Int) ^ (↑(kOf x) : Int).toNat).toNat)).fst <
 (1 : Int) ∧
 false = true) ∧
 (¬(waysF (↑(kOf x) : Int)
 (nthTo (codeTo (↑x_2 : Int).toNat x_3).fst
 ((1 : Int) * (2 : Int) ^ (↑(kOf x) : Int).toNat).toNat)).fst <
 (1 : Int) →
 ¬(waysF (↑(kOf x) : Int)
 (nthTo (codeTo (↑x_2 : Int).toNat x_3).fst
 ((1 : Int) * (2 : Int) ^ (↑(kOf x) : Int).toNat).toNat)).fst <
 (1 : Int) ∧
 ¬(waysF (↑(kOf x) : Int)
 (nthTo (codeTo (↑x_2 : Int).toNat x_3).fst
 ((1 : Int) * (2 : Int) ^ (↑(kOf x) : Int).toNat).toNat)).fst <
 (1 : Int) ∧
 Fits IntKind.i64
 ((↑(sumTo (kOf x) x_2) : Int) +
 (waysF (↑(kOf x) : Int)
 (nthTo (codeTo (↑x_2 : Int).toNat x_3).fst
 ((1 : Int) * (2 : Int) ^ (↑(kOf x) : Int).toNat).toNat)).fst) ∧
 Fits IntKind.i64 ((↑x_2 : Int) + (1 : Int)) ∧
 ∃ (x' : Nat),
 x' ≤ facN ((2 : Nat) ^ kOf x) ∧
 facN ((2 : Nat) ^ kOf x) - x' < facN ((2 : Nat) ^ kOf x) - x_2 ∧
 True ∧
 (↑x_2 : Int) + (1 : Int) = (↑x' : Int) ∧
 (↑(sumTo (kOf x) x_2) : Int) +
 (waysF (↑(kOf x) : Int)
 (nthTo (codeTo (↑x_2 : Int).toNat x_3).fst
 ((1 : Int) * (2 : Int) ^ (↑(kOf x) : Int).toNat).toNat)).fst =
 (↑(sumTo (kOf x) x') : Int) ∧
 (↑(facN ((2 : Nat) ^ kOf x)) : Int) = (↑(facN ((2 : Nat) ^ kOf x)) : Int) ∧
 (↑(kOf x) : Int) = (↑(kOf x) : Int) ∧ True)))) ∧
 (¬(↑x_2 : Int) < (↑(facN ((2 : Nat) ^ kOf x)) : Int) →
 ¬(↑x_2 : Int) < (↑(facN ((2 : Nat) ^ kOf x)) : Int) ∧
 True ∧
 ((1 : Int) ≤ (↑(kOf x) : Int) ∧ (↑(kOf x) : Int) ≤ (3 : Int)) ∧
 ((0 : Int) ≤ switchesF (↑(kOf x) : Int) ∧ switchesF (↑(kOf x) : Int) < (64 : Int)) ∧
 Fits IntKind.i64 ((1 : Int) * (2 : Int) ^ (switchesF (↑(kOf x) : Int)).toNat) ∧
 ((↑(sumTo (kOf x) x_2) : Int) = (1 : Int) * (2 : Int) ^ (switchesF (↑(kOf x) : Int)).toNat →
 (↑(sumTo (kOf x) x_2) : Int) = (1 : Int) * (2 : Int) ^ (switchesF (↑(kOf x) : Int)).toNat ∧
 (↑(sumTo (kOf x) x_2) : Int) = (1 : Int) * (2 : Int) ^ (switchesF (↑(kOf x) : Int)).toNat ∧
 ((waksF (↑(kOf x) : Int)).snd = (0 : Int) →
 (waksF (↑(kOf x) : Int)).snd = (0 : Int) ∧
 (waksF (↑(kOf x) : Int)).snd = (0 : Int) ∧
 (waksF (↑(kOf x) : Int)).snd = (0 : Int) ∧
 ((0 : Int) ≤ (waksF (↑(kOf x) : Int)).fst ∧ (waksF (↑(kOf x) : Int)).fst < (64 : Int)) ∧
 Fits IntKind.i64 ((1 : Int) * (2 : Int) ^ (waksF (↑(kOf x) : Int)).fst.toNat) ∧
 ((↑(facN ((2 : Nat) ^ kOf x)) : Int) ≤ (1 : Int) * (2 : Int) ^ (waksF (↑(kOf x) : Int)).fst.toNat →
 (↑(facN ((2 : Nat) ^ kOf x)) : Int) ≤ (1 : Int) * (2 : Int) ^ (waksF (↑(kOf x) : Int)).fst.toNat ∧
 (↑(facN ((2 : Nat) ^ kOf x)) : Int) ≤ (1 : Int) * (2 : Int) ^ (waksF (↑(kOf x) : Int)).fst.toNat ∧
 (↑(facN ((2 : Nat) ^ kOf x)) : Int) ≤ (1 : Int) * (2 : Int) ^ (waksF (↑(kOf x) : Int)).fst.toNat ∧
 True ∧ true = true) ∧
 (¬(↑(facN ((2 : Nat) ^ kOf x)) : Int) ≤ (1 : Int) * (2 : Int) ^ (waksF (↑(kOf x) : Int)).fst.toNat →
 ¬(↑(facN ((2 : Nat) ^ kOf x)) : Int) ≤ (1 : Int) * (2 : Int) ^ (waksF (↑(kOf x) : Int)).fst.toNat ∧
 ¬(↑(facN ((2 : Nat) ^ kOf x)) : Int) ≤ (1 : Int) * (2 : Int) ^ (waksF (↑(kOf x) : Int)).fst.toNat ∧
 ¬(↑(facN ((2 : Nat) ^ kOf x)) : Int) ≤ (1 : Int) * (2 : Int) ^ (waksF (↑(kOf x) : Int)).fst.toNat ∧
 false = true)) ∧
 (¬(waksF (↑(kOf x) : Int)).snd = (0 : Int) →
 ¬(waksF (↑(kOf x) : Int)).snd = (0 : Int) ∧
 ¬(waksF (↑(kOf x) : Int)).snd = (0 : Int) ∧ ¬(waksF (↑(kOf x) : Int)).snd = (0 : Int) ∧ false = true)) ∧
 (¬(↑(sumTo (kOf x) x_2) : Int) = (1 : Int) * (2 : Int) ^ (switchesF (↑(kOf x) : Int)).toNat →
 ¬(↑(sumTo (kOf x) x_2) : Int) = (1 : Int) * (2 : Int) ^ (switchesF (↑(kOf x) : Int)).toNat ∧
 ¬(↑(sumTo (kOf x) x_2) : Int) = (1 : Int) * (2 : Int) ^ (switchesF (↑(kOf x) : Int)).toNat ∧ false = true)))) := by
 kernel_rfl

end Go.SX.Pa

/- Chapter 06, part 13: contracts: the makers of inputs; PatchKonig, PatchEdges, PatchCount. -/
namespace Go.SX.Pa
open Go Go.Proofs

theorem graphTo_succ (x : List Ed) (k : Nat) (h : k < x.length) : graphTo x (k + 1) = graphTo x k ++ [((x.getD k (0, 0)).1 % 6, (x.getD k (0, 0)).2 % 6)] := by
  unfold graphTo; rw [take_snoc x (0, 0) k h, List.map_append]; rfl
theorem graphTo_length (x : List Ed) (k : Nat) : (graphTo x k).length ≤ k := by unfold graphTo; simp; omega
theorem graphX_ok {x : List Ed} (h : ∀ p ∈ x, Byte2 p) : (graphX x).length ≤ 12 ∧ ∀ e ∈ graphX x, (0 ≤ e.1 ∧ e.1 < 6) ∧ 0 ≤ e.2 ∧ e.2 < 6 := by
  refine ⟨graphTo_length x 12, fun e he => ?_⟩
  obtain ⟨p, hp, rfl⟩ := List.mem_map.1 he
  have := h p (List.mem_of_mem_take hp)
  unfold Byte2 at this
  simp only
  omega

theorem ok33 : p33.OK Tryd.prog := p33.ok C33 (fun _ => cx0) (fn := Tryd.f33) rfl (by decide +kernel) rfl fun (x : List Ed) hp => by
  refine (g33_eq x).mpr ?_
  have hp : x.length ≤ maxLen ∧ ∀ p ∈ x, Byte2 p := hp
  simp only [pp1, eq_self, and_true, and_self, Int.toNat_natCast]
  refine ⟨⟨0, by omega, rfl, rfl⟩, fun k hk => ⟨fun h1 => ⟨fun h2 => ?_, fun h2 => ?_⟩, fun h1 => ?_⟩⟩
  · have hk' : k < x.length := by omega
    have hb := hp.2 _ (getD_mem x (0, 0) hk')
    unfold Byte2 at hb
    have hl := graphTo_length x k
    refine ⟨by omega, fits_i64 (by omega) (by omega), by omega, by omega, fits_i64 (by omega) (by omega), by omega, ?_, fits_i64 (by omega) (by omega), k + 1, by omega, by omega, (graphTo_succ x k hk').symm, by omega⟩
    unfold Small; omega
  · rw [show k = 12 by omega]; rfl
  · unfold graphX graphTo
    rw [List.take_of_length_le (by omega), List.take_of_length_le (by omega)]

theorem ok36 : p36.OK Tryd.prog := p36.ok C36 (fun _ => cx1 (PC.OK.ci ok21)) (fn := Tryd.f36) rfl (by decide +kernel) rfl fun (p : List Int × Int × Int) hp => by
  obtain ⟨l, n, r⟩ := p
  refine (g36_eq l n r).mpr ?_
  have hp : l.length ≤ 1000 ∧ -1000 ≤ r ∧ r ≤ 1000 := hp
  simp only [pp1, eq_self, and_true, true_and, and_self, Int.toNat_natCast]
  refine ⟨⟨0, ⟨by omega, fun x hx => by simp at hx⟩, rfl⟩, fun k hk => ⟨fun h1 => ?_, fun h1 => ?_⟩⟩
  · have hk' : k < l.length := by omega
    refine ⟨by omega, fits_i64 (by omega) (by omega), fun h2 => ?_, fun h2 => ⟨fits_nat (by omega), k + 1, ⟨by omega, fun y hy => ?_⟩, by omega, by omega⟩⟩
    · symm
      rw [decide_eq_false_iff_not]
      rintro ⟨h3, _⟩
      have := h3 _ (getD_mem l 0 hk')
      rw [Bool.not_eq_true', decide_eq_false_iff_not] at h2
      omega
    · rw [Bool.not_eq_false', decide_eq_true_eq] at h2
      rcases (take_mem l 0 y k hk').1 hy with h3 | h3
      · exact hk.2 y h3
      · omega
  · have : k = l.length := by omega
    subst this
    rw [List.take_length] at hk
    apply decide_eq_decide.2
    exact ⟨fun h => ⟨hk.2, h⟩, fun h => h.2⟩
theorem ok37 : p37.OK Tryd.prog := p37.ok (fun _ => cx [] []) (fun _ => cx0) (fn := Tryd.f37) rfl (by decide +kernel) rfl fun (x : Int × Int × Int) hx => by
  obtain ⟨a, b, c⟩ := x
  have hx : Byte3 (a, b, c) := hx
  refine (g37_eq (a, b, c)).mpr ?_
  have hn := net_ok hx
  unfold Byte3 at hx
  unfold netF ClosP at hn
  simp only at hx hn ⊢
  have h3 : 1 ≤ 12 / (a % 12 + 1) := Int.le_ediv_of_mul_le (by omega) (by omega)
  have h4 : 12 / (a % 12 + 1) * (a % 12 + 1) ≤ 12 := Int.ediv_mul_le _ (by omega)
  have h5 : 12 / (a % 12 + 1) * 1 ≤ 12 / (a % 12 + 1) * (a % 12 + 1) := Int.mul_le_mul_of_nonneg_left (by omega) (by omega)
  refine ⟨fits_i64 (by omega) (by omega), by omega, fits_i64 (by omega) (by omega), fits_i64 (by omega) (by omega), by omega, fits_i64 (by omega) (by omega), by omega, fits_i64 (by omega) (by omega), fits_i64 (by omega) (by omega), by omega, fits_i64 (by omega) (by omega), rfl⟩

/-! ### PatchKonig -/
theorem colors_found {a : Int} {es : List Ed} (ha : 1 ≤ a) (ha6 : a ≤ 6) (hl : es.length ≤ 12) (hb : ∀ e ∈ es, (0 ≤ e.1 ∧ e.1 < a) ∧ 0 ≤ e.2 ∧ e.2 < a) : ∃ l, colorsF a a es = (l, 0) ∧ colF es (degF es) = some l ∧ GoodC es (degF es) l := by
  obtain ⟨l, h⟩ := colF_some (es := es) (Int.le_refl _)
  refine ⟨l, ?_, h, colF_good (degF_bound es).1 h⟩
  unfold colorsF
  rw [if_neg (by omega), if_neg, h]
  · rfl
  · rintro (h1 | h1 | h1)
    · omega
    · omega
    · obtain ⟨e, he, h2⟩ := List.any_eq_true.1 h1
      have := hb e he
      unfold badEd at h2
      rw [decide_eq_true_eq] at h2
      omega
theorem good_proper {es : List Ed} {m : Int} {l : List Int} (h : GoodC es m l) : properF es l = true := proper_good h.2.2

theorem ok6 : p6.OK Tryd.prog := p6.ok C6 (fun _ => cx_ok (cs := [p33.ci, p26.ci, p34.ci, p35.ci, p30.ci, p36.ci, p25.ci]) ⟨PC.OK.ci ok33, PC.OK.ci ok26, PC.OK.ci ok34, PC.OK.ci ok35, PC.OK.ci ok30, PC.OK.ci ok36, PC.OK.ci ok25, trivial⟩ _) (fn := Tryd.f6) rfl (by decide +kernel) rfl fun (x : List Ed) hp => by
  refine (g6_eq x).mpr ?_
  have hp : x.length ≤ maxLen ∧ ∀ p ∈ x, Byte2 p := hp
  obtain ⟨h1, h2⟩ := graphX_ok hp.2
  obtain ⟨l, h3, h4, h5⟩ := colors_found (a := 6) (by omega) (by omega) h1 h2
  have h6 := good_proper h5
  have h7 := seen_deg h4
  have h8 := degF_degR (graphX x) h2
  have h9 := degF_bound (graphX x)
  obtain ⟨g1, g2, g3⟩ := h5
  simp only [pp1, eq_self, and_true, true_and, and_self, Int.toNat_natCast, h3]
  rw [h8] at g2 h7 h9
  refine ⟨hp, by omega, ⟨0, by omega, rfl, rfl⟩, fun k hk => ⟨fun q1 => ?_, fun q1 => ?_⟩⟩
  · have hk' : k < l.length := by omega
    have hs := seenF_succ l k hk'
    have hsl := seenF_length (l.take k)
    have htl : (l.take k).length ≤ k := by simp; omega
    refine ⟨by omega, by omega, fun q2 => ⟨by omega, by unfold Small; omega, fits_nat (by omega), k + 1, by omega, by omega, ?_, by omega⟩, fun q2 => ⟨fits_nat (by omega), k + 1, by omega, by omega, ?_, by omega⟩⟩
    · rw [hs, if_neg (by simpa using q2)]
    · rw [hs, if_pos (by simpa using q2)]
  · have hk' : k = l.length := by omega
    subst hk'
    rw [List.take_length, h7]
    refine yes trivial (yes (by omega) ⟨by omega, yesB h6 ⟨by omega, yes rfl ⟨by omega, by omega, fun h => h, fun h => ?_⟩⟩⟩)
    rw [decide_eq_false_iff_not] at h
    exact absurd ⟨fun y hy => by have := g2 y hy; omega, by omega⟩ h

/-! ### PatchEdges -/
theorem badEd_no {a : Int} {es : List Ed} (h : ∀ e ∈ es, (0 ≤ e.1 ∧ e.1 < a) ∧ 0 ≤ e.2 ∧ e.2 < a) : es.any (badEd a a) = false := by
  rw [List.any_eq_false]
  intro e he h2
  have := h e he
  unfold badEd at h2
  rw [decide_eq_true_eq] at h2
  omega
theorem edgesF_in {n r : Int} {perm : List Int} (hn : 1 ≤ n) (hp : PermP perm (n * r)) : ∀ e ∈ edgesF n perm, (0 ≤ e.1 ∧ e.1 < r) ∧ 0 ≤ e.2 ∧ e.2 < r := by
  intro e he
  obtain ⟨hl, hb, _⟩ := hp
  unfold edgesF edgesTo at he
  obtain ⟨i, hi, rfl⟩ := List.mem_map.1 he
  have hi' := List.mem_range.1 hi
  have hx := hb _ (getD_mem perm 0 hi')
  have key : ∀ y : Int, 0 ≤ y → y < n * r → 0 ≤ y / n ∧ y / n < r := fun y h0 h1 => ⟨Int.ediv_nonneg h0 (by omega), Int.ediv_lt_of_lt_mul (by omega) (by rw [Int.mul_comm]; exact h1)⟩
  exact ⟨key _ (by omega) (by omega), key _ hx.1 hx.2⟩
theorem route_found {n r m : Int} {perm : List Int} (hc : ClosP n r m) (hp : PermP perm (n * r)) (hm : n ≤ m) : ∃ l, routeF n r m perm = (l, 0) ∧ colF (edgesF n perm) m = some l ∧ GoodC (edgesF n perm) m l := by
  have hc' := hc
  obtain ⟨c1, c2, c3, c4⟩ := hc'
  have hd := perm_deg c1.1 c2.1 hp
  obtain ⟨l, h⟩ := colF_some (es := edgesF n perm) (m := m) (by omega)
  refine ⟨l, ?_, h, colF_good (by omega) h⟩
  unfold routeF
  rw [if_pos hc, if_pos hp, h]
theorem edges_found {n r : Int} {perm : List Int} (hc : ClosP n r n) (h6 : r ≤ 6) (hp : PermP perm (n * r)) : ∃ l, routeF n r n perm = (l, 0) ∧ colorsF r r (edgesF n perm) = (l, 0) ∧ GoodC (edgesF n perm) n l := by
  obtain ⟨l, h1, h2, h3⟩ := route_found hc hp (Int.le_refl n)
  obtain ⟨c1, c2, c3, c4⟩ := hc
  have hd := perm_deg c1.1 c2.1 hp
  have hl := edgesF_length n perm
  have hpl := hp.1
  refine ⟨l, h1, ?_, h3⟩
  unfold colorsF
  rw [if_neg (by omega), if_neg, hd, h2]
  · rfl
  · rintro (q | q | q)
    · omega
    · omega
    · rw [badEd_no (edgesF_in c1.1 hp)] at q; cases q
theorem edgesTo_succ' (n : Int) (perm : List Int) (k : Nat) : edgesTo n perm (k + 1) = edgesTo n perm k ++ [((k : Int) / n, perm.getD k 0 / n)] := by
  unfold edgesTo; rw [List.range_succ, List.map_append]; rfl

theorem ok7 : p7.OK Tryd.prog := p7.ok C7 (fun _ => cx_ok (cs := [p37.ci, p25.ci, p31.ci, p38.ci, p26.ci, p28.ci, p35.ci]) ⟨PC.OK.ci ok37, PC.OK.ci ok25, PC.OK.ci ok31, PC.OK.ci ok38, PC.OK.ci ok26, PC.OK.ci ok28, PC.OK.ci ok35, trivial⟩ _) (fn := Tryd.f7) rfl (by decide +kernel) rfl fun (p : (Int × Int × Int) × List Int) hp => by
  obtain ⟨x, code⟩ := p
  refine (g7_eq x code).mpr ?_
  have hp : Byte3 x ∧ Bytes code := hp
  have hnet := net_ok hp.1
  simp only [pp1, eq_self, and_true, true_and, and_self, Int.toNat_natCast, peta]
  generalize netF x = N at hnet ⊢
  obtain ⟨n, r, m⟩ := N
  simp only at hnet ⊢
  obtain ⟨hc, hN1, hN2⟩ := hnet
  have hperm := nth_perm code (n * r).toNat
  rw [Int.toNat_of_nonneg (by omega)] at hperm
  generalize nthTo code (n * r).toNat = perm at hperm ⊢
  have hpl := hperm.1
  refine ⟨hp.1, fun h => h, fun h6 => ⟨fits_i64 (by omega) (by omega), ⟨by omega, hp.2⟩, ⟨0, by omega, rfl, rfl⟩, fun k hk => ⟨fits_i64 (by omega) (by omega), fun q1 => ?_, fun q1 => ?_⟩⟩⟩
  · have hk' : k < perm.length := by omega
    have hb := hperm.2.1 _ (getD_mem perm 0 hk')
    have c1 := hc.1
    have d1 : (k : Int) / n ≤ k := Int.ediv_le_self _ (by omega)
    have d2 : perm.getD k 0 / n ≤ perm.getD k 0 := Int.ediv_le_self _ (by omega)
    have d3 : 0 ≤ (k : Int) / n := Int.ediv_nonneg (by omega) (by omega)
    have d4 : 0 ≤ perm.getD k 0 / n := Int.ediv_nonneg (by omega) (by omega)
    refine ⟨by omega, fits_i64 (by omega) (by omega), by omega, by omega, fits_i64 (by omega) (by omega), ?_, fits_nat (by omega), k + 1, by omega, by omega, (edgesTo_succ' n perm k).symm, by omega⟩
    rw [edgesTo_length]; unfold Small; omega
  · have hk' : k = perm.length := by omega
    subst hk'
    obtain ⟨l, h1, h2, h3⟩ := edges_found (r := r) (perm := perm) (n := n) ⟨hc.1, hc.2.1, hc.2.2.1, hc.1⟩ (by omega) hperm
    have hl := edgesF_length n perm
    have he : edgesTo n perm perm.length = edgesF n perm := rfl
    rw [he, h1, h2]
    have hg := good_proper h3
    have hgl := h3.1
    refine ⟨by omega, by omega, yes rfl (yes rfl ⟨⟨by simp only; omega, by simp only; omega⟩, yesB (decide_eq_true rfl) ⟨⟨by omega, by simp only; omega⟩, fun h => h, fun h => ?_⟩⟩)⟩
    rw [show (l, (0 : Int)).1 = l from rfl, hg] at h
    cases h
end Go.SX.Pa

/- Chapter 06, part 14: PatchCount: its contract. -/
namespace Go.SX.Pa
open Go Go.Proofs

theorem count_one : (∀ p, p < 2 → 1 ≤ waysTo 1 (permAt 1 p) (2 ^ swN 1)) ∧ sumTo 1 2 = 2 ^ swN 1 := by decide +kernel
theorem count_two : (∀ p, p < 24 → 1 ≤ waysTo 2 (permAt 2 p) (2 ^ swN 2)) ∧ sumTo 2 24 = 2 ^ swN 2 := by decide +kernel
theorem kOf_cases {x : Int} (_h : 0 ≤ x ∧ x ≤ 255) : x % 2 + 1 = (kOf x : Nat) ∧ (kOf x = 1 ∨ kOf x = 2) := by
  have h1 : 0 ≤ x % 2 := Int.emod_nonneg _ (by omega)
  have h2 : x % 2 < 2 := Int.emod_lt_of_pos _ (by omega)
  unfold kOf
  omega
theorem codeTo_length (p : Nat) : (i : Nat) → (codeTo p i).1.length = i
  | 0 => rfl
  | i + 1 => by simp [codeTo, codeTo_length p i]
theorem codeTo_in (p : Nat) : (i : Nat) → i ≤ 255 → ∀ b ∈ (codeTo p i).1, 0 ≤ b ∧ b ≤ 255
  | 0, _, b, h => by simp [codeTo] at h
  | i + 1, hi, b, h => by
    simp only [codeTo, List.mem_append, List.mem_singleton] at h
    rcases h with h | h
    · exact codeTo_in p i (by omega) b h
    · have : (codeTo p i).2 % (i + 1) < i + 1 := Nat.mod_lt _ (by omega)
      omega
theorem codeTo_rest (p : Nat) : (i : Nat) → (codeTo p i).2 ≤ p
  | 0 => Nat.le_refl _
  | i + 1 => Nat.le_trans (Nat.div_le_self _ _) (codeTo_rest p i)
theorem sumTo_le (K : Nat) : (p : Nat) → sumTo K p ≤ p * 2 ^ swN K
  | 0 => Nat.zero_le _
  | p + 1 => by
    have h1 := sumTo_le K p
    have h2 := waysTo_le K (permAt K p) (2 ^ swN K)
    rw [Nat.add_mul, Nat.one_mul]
    show sumTo K p + _ ≤ _
    omega
theorem facN_le : ∀ i, i ≤ 5 → facN i ≤ 120 := by decide
theorem facN_step {i : Nat} (h : 1 ≤ i) : facN (i - 1) * i = facN (i + 1 - 1) := by
  obtain ⟨j, rfl⟩ : ∃ j, i = j + 1 := ⟨i - 1, by omega⟩
  show facN j * (j + 1) = (j + 1) * facN j
  exact Nat.mul_comm _ _
theorem ways_perm {K : Nat} (hK : K = 1 ∨ K = 2) (p : Nat) : waysF (K : Int) (permAt K p) = (((waysTo K (permAt K p) (2 ^ swN K) : Nat) : Int), 0) := by
  have hp : PermP (permAt K p) (2 ^ (K : Int).toNat) := by
    have := nth_perm (codeTo p (2 ^ K)).1 (2 ^ K)
    rw [Int.toNat_natCast]
    simpa [permAt] using this
  unfold waysF
  rw [if_pos (by omega), if_pos hp, Int.toNat_natCast]

theorem ok5 : p5.OK Tryd.prog := p5.ok C5 (fun _ => cx_ok (cs := [p31.ci, p18.ci, p19.ci, p32.ci, p25.ci]) ⟨PC.OK.ci ok31, PC.OK.ci ok18, PC.OK.ci ok19, PC.OK.ci ok32, PC.OK.ci ok25, trivial⟩ _) (fn := Tryd.f5) rfl (by decide +kernel) rfl fun (x : Int) hx => by
  refine (g5_eq x).mpr ?_
  have hx : 0 ≤ x ∧ x ≤ 255 := hx
  obtain ⟨e1, hK⟩ := kOf_cases hx
  simp only [pp1, eq_self, and_true, true_and, and_self, Int.toNat_natCast, Int.one_mul]
  generalize kOf x = K at e1 hK ⊢
  have hN : 2 ^ K = 2 ∨ 2 ^ K = 4 := by rcases hK with rfl | rfl <;> simp
  have hNi : (2 : Int) ^ K = ((2 ^ K : Nat) : Int) := by simp
  have hF : facN (2 ^ K) ≤ 24 := by rcases hK with rfl | rfl <;> decide
  have hS : 2 ^ swN K ≤ 64 := by rcases hK with rfl | rfl <;> decide
  have hW : (∀ p, p < facN (2 ^ K) → 1 ≤ waysTo K (permAt K p) (2 ^ swN K)) ∧ sumTo K (facN (2 ^ K)) = 2 ^ swN K := by
    rcases hK with rfl | rfl
    · exact count_one
    · exact count_two
  have hsw : switchesF (K : Int) = (swN K : Nat) := by rcases hK with rfl | rfl <;> decide
  have hwk : waksF (K : Int) = (if K = 1 then 1 else 5, 0) := by rcases hK with rfl | rfl <;> decide
  rw [hNi]
  have hFN : (facN (2 ^ K) : Int) ≤ 2 ^ (if K = 1 then 1 else 5 : Nat) := by rcases hK with rfl | rfl <;> decide
  refine ⟨fits_i64 (by omega) (by omega), by omega, fits_i64 (by omega) (by omega), ⟨2, by omega, e1, rfl, by decide⟩, fun i hi => ⟨by omega, fits_i64 (by omega) (by omega), fun q1 => ?_, fun q1 => ?_⟩⟩
  · have hf := facN_le (i - 1) (by omega)
    have hst := facN_step (i := i) (by omega)
    have hf2 := facN_le (i + 1 - 1) (by omega)
    have hst' : (facN (i - 1) : Int) * (i : Int) = (facN (i + 1 - 1) : Nat) := by rw [← hst]; simp
    refine ⟨by rw [hst']; exact fits_i64 (by omega) (by omega), fits_nat (by omega), i + 1, by omega, by omega, by omega, hst'⟩
  · have hi' : i - 1 = 2 ^ K := by omega
    rw [hi']
    refine ⟨⟨0, by omega, rfl, rfl, rfl⟩, fun p hp => ⟨fun q2 => ⟨⟨0, by omega, rfl, rfl, rfl⟩, fun j hj => ⟨by omega, fits_i64 (by omega) (by omega), fun q3 => ?_, fun q3 => ?_⟩⟩, fun q2 => ?_⟩⟩
    · have hr := codeTo_rest p j
      have hl := codeTo_length p j
      have hm : (codeTo p j).2 % (j + 1) < j + 1 := Nat.mod_lt _ (by omega)
      have em : ((codeTo p j).2 : Int) % ((j : Int) + 1) = ((codeTo p j).2 % (j + 1) : Nat) := by simp
      have ed : ((codeTo p j).2 : Int) / ((j : Int) + 1) = ((codeTo p j).2 / (j + 1) : Nat) := by simp
      have hd : (codeTo p j).2 / (j + 1) ≤ (codeTo p j).2 := Nat.div_le_self _ _
      have hfd : Fits .i64 (((codeTo p j).2 / (j + 1) : Nat) : Int) := by
        generalize (codeTo p j).2 / (j + 1) = q at hd
        exact fits_i64 (by omega) (by omega)
      rw [em, ed, wrap_small (by omega)]
      refine ⟨fits_nat (by omega), by omega, by unfold Small; omega, fits_nat (by omega), by omega, hfd, fits_nat (by omega), j + 1, by omega, by omega, rfl, by omega, rfl⟩
    · have hj' : j = 2 ^ K := by omega
      subst hj'
      rw [show nthTo (codeTo p (2 ^ K)).1 (((2 ^ K : Nat) : Int)).toNat = permAt K p by rw [Int.toNat_natCast]; rfl, ways_perm hK p]
      have hl := codeTo_length p (2 ^ K)
      have hpl : (permAt K p).length = 2 ^ K := nthTo_length _ _
      have h1 := hW.1 p (by omega)
      have h2 := waysTo_le K (permAt K p) (2 ^ swN K)
      have h3 := sumTo_le K p
      have h4 : p * 2 ^ swN K ≤ 24 * 64 := Nat.mul_le_mul (by omega) hS
      refine ⟨by omega, fits_i64 (by omega) (by omega), ⟨by omega, by rw [hl]; exact Nat.le_trans (show 2 ^ K ≤ 4 by omega) (by decide), codeTo_in p _ (by omega)⟩, by omega, no (fun h => h rfl) (no (by simp only; omega) ⟨fits_i64 (by simp only; omega) (by simp only; omega), fits_nat (by omega), p + 1, by omega, by omega, by omega, ?_⟩)⟩
      show _ = ((sumTo K p + waysTo K (permAt K p) (2 ^ swN K) : Nat) : Int)
      simp
    · have hp' : p = facN (2 ^ K) := by omega
      rw [hp', hW.2, hsw, hwk, Int.toNat_natCast]
      have hs6 : swN K ≤ 6 := by rcases hK with rfl | rfl <;> decide
      have e2 : (2 : Int) ^ swN K = ((2 ^ swN K : Nat) : Int) := by simp
      rw [e2]
      refine ⟨by omega, by omega, fits_i64 (by omega) (by omega), yes rfl (yes rfl ⟨?_, ?_, yes ?_ ?_⟩)⟩
      · simp only; split <;> omega
      · simp only; split <;> exact fits_i64 (by decide) (by decide)
      · have e3 : (if K = 1 then (1 : Int) else 5).toNat = if K = 1 then 1 else 5 := by split <;> rfl
        simp only
        rw [e3]; exact hFN
      · have e3 : (if K = 1 then (1 : Int) else 5).toNat = if K = 1 then 1 else 5 := by split <;> rfl
        simp only
        rw [e3]; exact hFN
end Go.SX.Pa

/- Chapter 06 in plain words, part V: validity of routings; the reference's routes. -/
namespace Go.SX.Pa
def minTo (l : List Int) : Nat → Int
  | 0 => l.getD 0 0
  | k + 1 => min (minTo l k) (l.getD k 0)
def maxTo (l : List Int) : Nat → Int
  | 0 => l.getD 0 0
  | k + 1 => max (maxTo l k) (l.getD k 0)
def RoutP (n m : Int) (l : List Int) : Prop := (∀ x ∈ l, 0 ≤ x ∧ x < m) ∧ (l.length : Int) = n
instance {n m : Int} {l : List Int} : Decidable (RoutP n m l) := by unfold RoutP; infer_instance
def validF (n r m : Int) (perm l : List Int) : Bool × Int :=
  if ClosP n r m then (if PermP perm (n * r) then (if RoutP (n * r) m l then (properF (edgesF n perm) l, 0) else (false, 2)) else (false, 2)) else (false, 1)
def rrF (n m : Int) (perm l : List Int) : Option (List Int) := if m < n then none else refC (edgesF n perm) m l
end Go.SX.Pa

/- Chapter 06, part 15: routes: validity, the reference's; the laws PatchRoutes and PatchSlepian. -/
namespace Go.SX.Pa
open Go Go.Proofs
noncomputable section
@[reducible] def p64 : PC := ⟨64, [aIs], [aI], fun l => 1 ≤ l.length ∧ l.length ≤ 1000, fun l => minTo l l.length⟩
@[reducible] def A64 (F : List Int → Nat → Int) (l : List Int) : Ann where
  τ := Nat
  pre := []
  preC := []
  keep := [0]
  slots k := [(4, .c (.int .i64 k)), (3, .c (.int .i64 (F l k)))]
  ents _ := []
  ok k := 1 ≤ k ∧ k ≤ l.length
  m k := l.length - k
@[reducible] def C64 (l : List Int) : Ctx := cx [] [(0, fun _ => A64 minTo l)]
def g64 (l : List Int) : Prop := p64.VC (C64 l) Tryd.f64 l
@[reducible] def p65 : PC := ⟨65, [aIs], [aI], fun l => 1 ≤ l.length ∧ l.length ≤ 1000, fun l => maxTo l l.length⟩
@[reducible] def C65 (l : List Int) : Ctx := cx [] [(0, fun _ => A64 maxTo l)]
def g65 (l : List Int) : Prop := p65.VC (C65 l) Tryd.f65 l
@[reducible] def p43 : PC := ⟨43, [aI, aIs, aIs], [aB], fun p => (1 ≤ p.1 ∧ p.1 ≤ 12) ∧ p.2.1.length ≤ 1000 ∧ p.2.2.length ≤ p.2.1.length ∧ ∀ x ∈ p.2.1, 0 ≤ x ∧ x ≤ 1000, fun p => properF (edgesF p.1 p.2.1) p.2.2⟩
@[reducible] def C43 (p : Int × List Int × List Int) : Ctx := cx [] [(0, fun _ => upTo p.2.2.length 7 [0, 1, 2] fun i => ∀ a, a < i → clashF (edgesF p.1 p.2.1) p.2.2 a = false),
  (1, withI 7 fun i => upTo i.toNat 8 [0, 1, 2, 7] fun j => ∀ b, b < j → touch (edgesF p.1 p.2.1) p.2.2 i.toNat b = false)]
def g43 (n : Int) (perm l : List Int) : Prop := p43.VC (C43 (n, perm, l)) Tryd.f43 (n, perm, l)
@[reducible] def n44 : NC := ⟨44, [aI, aI, aIs, aIs], .int .i64, fun p => ((1 ≤ p.1 ∧ p.1 ≤ 12) ∧ p.2.2.1.length ≤ 1000 ∧ p.2.2.2.length ≤ p.2.2.1.length ∧ ∀ x ∈ p.2.2.1, 0 ≤ x ∧ x ≤ 1000) ∧ 0 ≤ p.2.1 ∧ p.2.1 ≤ 12, fun p => rrF p.1 p.2.1 p.2.2.1 p.2.2.2⟩
@[reducible] def m44 (p : Int × Int × List Int × List Int) : Nat := p.2.2.1.length - p.2.2.2.length
@[reducible] def C44 (p : Int × Int × List Int × List Int) : Ctx := cx [p43.ci, (n44.below m44 (m44 p)).ci] [(0, fun _ => { τ := Nat, pre := [], preC := [], keep := [0, 1, 2, 3], slots := fun k => [(9, .c (.int .i64 k))], ents := fun _ => [], ok := fun k => (k : Int) ≤ p.2.1 ∧ noRef (edgesF p.1 p.2.2.1) p.2.1 p.2.2.2 k, m := fun k => p.2.1.toNat - k })]
def g44 (n m : Int) (perm l : List Int) : Prop := NilVC (C44 (n, m, perm, l)) Tryd.f44 n44 (n, m, perm, l)
@[reducible] def p42 : PC := ⟨42, [aI, aI, aIs], [aB], fun p => p.2.2.length ≤ 1000 ∧ -1000 ≤ p.2.1 ∧ p.2.1 ≤ 1000, fun p => decide (RoutP p.1 p.2.1 p.2.2)⟩
def g42 (n m : Int) (l : List Int) : Prop := p42.VC (cx [p36.ci] []) Tryd.f42 (n, m, l)
@[reducible] def p41 : PC := ⟨41, [aI, aI, aI, aIs, aIs], [aB, aI], fun p => p.2.2.2.1.length ≤ 1000 ∧ p.2.2.2.2.length ≤ 1000, fun p => validF p.1 p.2.1 p.2.2.1 p.2.2.2.1 p.2.2.2.2⟩
@[reducible] def C41 (p : Int × Int × Int × List Int × List Int) : Ctx := cx [p61.ci, p64.ci, p65.ci, p62.ci, p66.ci] [(0, fun _ => upTo p.2.2.2.2.length 50 [4, 14, 48, 49] fun k => ∀ a, a < k → clashF (edgesF p.1 p.2.2.2.1) p.2.2.2.2 a = false)]
def g41 (n r m : Int) (perm l : List Int) : Prop := p41.VC (C41 (n, r, m, perm, l)) Tryd.f41 (n, r, m, perm, l)
@[reducible] def p10 : PC := ⟨10, [aCl, aIs, aIs], [aB], fun _ => True, fun _ => true⟩
def g10 (c : Int × Int × Int) (x y : List Int) : Prop := p10.VC (cx [p17.ci, p41.ci, p38.ci, p24.ci, p22.ci, p25.ci, p42.ci, p43.ci, n44.ci, p28.ci] []) Tryd.f10 (c, x, y)
@[reducible] def p11 : PC := ⟨11, [aB3, aBs], [aB], fun p => Byte3 p.1 ∧ Bytes p.2, fun _ => true⟩
def g11 (x : Int × Int × Int) (code : List Int) : Prop := p11.VC (cx [p37.ci, p31.ci, p38.ci, p25.ci, p41.ci, p42.ci, p43.ci] []) Tryd.f11 (x, code)
end
end Go.SX.Pa

/- Printed by VC.lean: what the executor asks. -/
namespace Go.SX.Pa
open Go Go.Proofs
theorem g64_eq (l : List Int) : g64 l = (
 ((↑l.length : Int) < (1 : Int) → (↑l.length : Int) < (1 : Int) ∧ False) ∧
 (¬(↑l.length : Int) < (1 : Int) →
 ¬(↑l.length : Int) < (1 : Int) ∧
 ((0 : Int) ≤ (0 : Int) ∧ (0 : Int) < (↑l.length : Int)) ∧
 (∃ (x0 : Nat), ((1 : Nat) ≤ x0 ∧ x0 ≤ l.length) ∧ True ∧ (1 : Int) = (↑x0 : Int) ∧ l.getD (Int.toNat (0 : Int)) (0 : Int) = minTo l x0 ∧ l = l ∧ True) ∧
 ∀ (x : Nat),
 (1 : Nat) ≤ x ∧ x ≤ l.length →
 ((↑x : Int) < (↑l.length : Int) →
 (↑x : Int) < (↑l.length : Int) ∧
 ((0 : Int) ≤ (↑x : Int) ∧ (↑x : Int) < (↑l.length : Int)) ∧
 Fits IntKind.i64 ((↑x : Int) + (1 : Int)) ∧
 ∃ (x' : Nat),
 ((1 : Nat) ≤ x' ∧ x' ≤ l.length) ∧
 l.length - x' < l.length - x ∧
 True ∧ (↑x : Int) + (1 : Int) = (↑x' : Int) ∧ min (minTo l x) (l.getD (↑x : Int).toNat (0 : Int)) = minTo l x' ∧ l = l ∧ True) ∧
 (¬(↑x : Int) < (↑l.length : Int) → ¬(↑x : Int) < (↑l.length : Int) ∧ minTo l x = minTo l l.length))) := by
 kernel_rfl

theorem g65_eq (l : List Int) : g65 l = (
 ((↑l.length : Int) < (1 : Int) → (↑l.length : Int) < (1 : Int) ∧ False) ∧
 (¬(↑l.length : Int) < (1 : Int) →
 ¬(↑l.length : Int) < (1 : Int) ∧
 ((0 : Int) ≤ (0 : Int) ∧ (0 : Int) < (↑l.length : Int)) ∧
 (∃ (x0 : Nat), ((1 : Nat) ≤ x0 ∧ x0 ≤ l.length) ∧ True ∧ (1 : Int) = (↑x0 : Int) ∧ l.getD (Int.toNat (0 : Int)) (0 : Int) = maxTo l x0 ∧ l = l ∧ True) ∧
 ∀ (x : Nat),
 (1 : Nat) ≤ x ∧ x ≤ l.length →
 ((↑x : Int) < (↑l.length : Int) →
 (↑x : Int) < (↑l.length : Int) ∧
 ((0 : Int) ≤ (↑x : Int) ∧ (↑x : Int) < (↑l.length : Int)) ∧
 Fits IntKind.i64 ((↑x : Int) + (1 : Int)) ∧
 ∃ (x' : Nat),
 ((1 : Nat) ≤ x' ∧ x' ≤ l.length) ∧
 l.length - x' < l.length - x ∧
 True ∧ (↑x : Int) + (1 : Int) = (↑x' : Int) ∧ max (maxTo l x) (l.getD (↑x : Int).toNat (0 : Int)) = maxTo l x' ∧ l = l ∧ True) ∧
 (¬(↑x : Int) < (↑l.length : Int) → ¬(↑x : Int) < (↑l.length : Int) ∧ maxTo l x = maxTo l l.length))) := by
 kernel_rfl

theorem g43_eq (n : Int) (perm : List Int) (l : List Int) : g43 n perm l = (
 (∃ (x0 : Nat), (x0 ≤ l.length ∧ ∀ (a : Nat), a < x0 → clashF (edgesF n perm) l a = false) ∧ True ∧ (0 : Int) = (↑x0 : Int) ∧ n = n ∧ perm = perm ∧ l = l ∧ True) ∧
 ∀ (x : Nat),
 (x ≤ l.length ∧ ∀ (a : Nat), a < x → clashF (edgesF n perm) l a = false) →
 ((↑x : Int) < (↑l.length : Int) →
 (↑x : Int) < (↑l.length : Int) ∧
 (∃ (x0 : Nat),
 (x0 ≤ (↑x : Int).toNat ∧ ∀ (b : Nat), b < x0 → touch (edgesF n perm) l (↑x : Int).toNat b = false) ∧
 True ∧ (0 : Int) = (↑x0 : Int) ∧ (↑x : Int) = (↑x : Int) ∧ n = n ∧ perm = perm ∧ l = l ∧ True) ∧
 ∀ (x_1 : Nat),
 (x_1 ≤ (↑x : Int).toNat ∧ ∀ (b : Nat), b < x_1 → touch (edgesF n perm) l (↑x : Int).toNat b = false) →
 ((↑x_1 : Int) < (↑x : Int) →
 (↑x_1 : Int) < (↑x : Int) ∧
 ((0 : Int) ≤ (↑x : Int) ∧ (↑x : Int) < (↑l.length : Int)) ∧
 ((0 : Int) ≤ (↑x_1 : Int) ∧ (↑x_1 : Int) < (↑l.length : Int)) ∧
 (l.getD (↑x : Int).toNat (0 : Int) = l.getD (↑x_1 : Int).toNat (0 : Int) →
 l.getD (↑x : Int).toNat (0 : Int) = l.getD (↑x_1 : Int).toNat (0 : Int) ∧
 l.getD (↑x : Int).toNat (0 : Int) = l.getD (↑x_1 : Int).toNat (0 : Int) ∧
 ((0 : Int) ≤ (↑x : Int) ∧ (0 : Int) < n) ∧
 Fits IntKind.i64 ((↑x : Int) / n) ∧
 ((0 : Int) ≤ (↑x_1 : Int) ∧ (0 : Int) < n) ∧
 Fits IntKind.i64 ((↑x_1 : Int) / n) ∧
 ((↑x : Int) / n = (↑x_1 : Int) / n →
 (↑x : Int) / n = (↑x_1 : Int) / n ∧ (↑x : Int) / n = (↑x_1 : Int) / n ∧ false = properF (edgesF n perm) l) ∧
 (¬(↑x : Int) / n = (↑x_1 : Int) / n →
 ¬(↑x : Int) / n = (↑x_1 : Int) / n ∧
 ¬(↑x : Int) / n = (↑x_1 : Int) / n ∧
 ((0 : Int) ≤ (↑x : Int) ∧ (↑x : Int) < (↑perm.length : Int)) ∧
 ((0 : Int) ≤ perm.getD (↑x : Int).toNat (0 : Int) ∧ (0 : Int) < n) ∧
 Fits IntKind.i64 (perm.getD (↑x : Int).toNat (0 : Int) / n) ∧
 ((0 : Int) ≤ (↑x_1 : Int) ∧ (↑x_1 : Int) < (↑perm.length : Int)) ∧
 ((0 : Int) ≤ perm.getD (↑x_1 : Int).toNat (0 : Int) ∧ (0 : Int) < n) ∧
 Fits IntKind.i64 (perm.getD (↑x_1 : Int).toNat (0 : Int) / n) ∧
 (perm.getD (↑x : Int).toNat (0 : Int) / n = perm.getD (↑x_1 : Int).toNat (0 : Int) / n →
 perm.getD (↑x : Int).toNat (0 : Int) / n = perm.getD (↑x_1 : Int).toNat (0 : Int) / n ∧
 perm.getD (↑x : Int).toNat (0 : Int) / n = perm.getD (↑x_1 : Int).toNat (0 : Int) / n ∧
 perm.getD (↑x : Int).toNat (0 : Int) / n = perm.getD (↑x_1 : Int).toNat (0 : Int) / n ∧
 false = properF (edgesF n perm) l) ∧
 (¬perm.getD (↑x : Int).toNat (0 : Int) / n = perm.getD (↑x_1 : Int).toNat (0 : Int) / n →
 ¬perm.getD (↑x : Int).toNat (0 : Int) / n = perm.getD (↑x_1 : Int).toNat (0 : Int) / n ∧
 ¬perm.getD (↑x : Int).toNat (0 : Int) / n = perm.getD (↑x_1 : Int).toNat (0 : Int) / n ∧
 ¬perm.getD (↑x : Int).toNat (0 : Int) / n = perm.getD (↑x_1 : Int).toNat (0 : Int) / n ∧
 Fits IntKind.i64 ((↑x_1 : Int) + (1 : Int)) ∧
 ∃ (x' : Nat),
 (x' ≤ (↑x : Int).toNat ∧ ∀ (b : Nat), b < x' → touch (edgesF n perm) l (↑x : Int).toNat b = false) ∧
 (↑x : Int).toNat - x' < (↑x : Int).toNat - x_1 ∧
 True ∧
 (↑x_1 : Int) + (1 : Int) = (↑x' : Int) ∧
 (↑x : Int) = (↑x : Int) ∧ n = n ∧ perm = perm ∧ l = l ∧ True))) ∧
 (¬l.getD (↑x : Int).toNat (0 : Int) = l.getD (↑x_1 : Int).toNat (0 : Int) →
 ¬l.getD (↑x : Int).toNat (0 : Int) = l.getD (↑x_1 : Int).toNat (0 : Int) ∧
 ¬l.getD (↑x : Int).toNat (0 : Int) = l.getD (↑x_1 : Int).toNat (0 : Int) ∧
 Fits IntKind.i64 ((↑x_1 : Int) + (1 : Int)) ∧
 ∃ (x' : Nat),
 (x' ≤ (↑x : Int).toNat ∧ ∀ (b : Nat), b < x' → touch (edgesF n perm) l (↑x : Int).toNat b = false) ∧
 (↑x : Int).toNat - x' < (↑x : Int).toNat - x_1 ∧
 True ∧ (↑x_1 : Int) + (1 : Int) = (↑x' : Int) ∧ (↑x : Int) = (↑x : Int) ∧ n = n ∧ perm = perm ∧ l = l ∧ True)) ∧
 (¬(↑x_1 : Int) < (↑x : Int) →
 ¬(↑x_1 : Int) < (↑x : Int) ∧
 Fits IntKind.i64 ((↑x : Int) + (1 : Int)) ∧
 ∃ (x' : Nat),
 (x' ≤ l.length ∧ ∀ (a : Nat), a < x' → clashF (edgesF n perm) l a = false) ∧
 l.length - x' < l.length - x ∧ True ∧ (↑x : Int) + (1 : Int) = (↑x' : Int) ∧ n = n ∧ perm = perm ∧ l = l ∧ True)) ∧
 (¬(↑x : Int) < (↑l.length : Int) → ¬(↑x : Int) < (↑l.length : Int) ∧ true = properF (edgesF n perm) l)) := by
 kernel_rfl

theorem g44_eq (n : Int) (m : Int) (perm : List Int) (l : List Int) : g44 n m perm l = (
 (m < n → m < n ∧ m < n ∧ rrF n m perm l = none) ∧
 (¬m < n →
 ¬m < n ∧
 ¬m < n ∧
 (((1 : Int) ≤ n ∧ n ≤ (12 : Int)) ∧ perm.length ≤ (1000 : Nat) ∧ l.length ≤ perm.length ∧ ∀ (x : Int), x ∈ perm → (0 : Int) ≤ x ∧ x ≤ (1000 : Int)) ∧
 ((!properF (edgesF n perm) l) = true → (!properF (edgesF n perm) l) = true ∧ (!properF (edgesF n perm) l) = true ∧ rrF n m perm l = none) ∧
 ((!properF (edgesF n perm) l) = false →
 (!properF (edgesF n perm) l) = false ∧
 (!properF (edgesF n perm) l) = false ∧
 ((↑l.length : Int) = (↑perm.length : Int) → (↑l.length : Int) = (↑perm.length : Int) ∧ rrF n m perm l = some l) ∧
 (¬(↑l.length : Int) = (↑perm.length : Int) →
 ¬(↑l.length : Int) = (↑perm.length : Int) ∧
 (∃ (x0 : Nat),
 ((↑x0 : Int) ≤ m ∧ ∀ (c : Nat), c < x0 → refC (edgesF n perm) m (l ++ [(↑c : Int)]) = none) ∧
 True ∧ (0 : Int) = (↑x0 : Int) ∧ n = n ∧ m = m ∧ perm = perm ∧ l = l ∧ True) ∧
 ∀ (x : Nat),
 ((↑x : Int) ≤ m ∧ ∀ (c : Nat), c < x → refC (edgesF n perm) m (l ++ [(↑c : Int)]) = none) →
 ((↑x : Int) < m →
 (↑x : Int) < m ∧
 Small ((0 : Nat) + l.length) ∧
 Small (l.length + ((0 : Nat) + (1 : Nat))) ∧
 (((((1 : Int) ≤ n ∧ n ≤ (12 : Int)) ∧
 perm.length ≤ (1000 : Nat) ∧ (l ++ [(↑x : Int)]).length ≤ perm.length ∧ ∀ (x : Int), x ∈ perm → (0 : Int) ≤ x ∧ x ≤ (1000 : Int)) ∧
 (0 : Int) ≤ m ∧ m ≤ (12 : Int)) ∧
 m44 (n, m, perm, l ++ [(↑x : Int)]) < m44 (n, m, perm, l)) ∧
 (rrF n m perm (l ++ [(↑x : Int)]) = none →
 Fits IntKind.i64 ((↑x : Int) + (1 : Int)) ∧
 ∃ (x' : Nat),
 ((↑x' : Int) ≤ m ∧ ∀ (c : Nat), c < x' → refC (edgesF n perm) m (l ++ [(↑c : Int)]) = none) ∧
 m.toNat - x' < m.toNat - x ∧ True ∧ (↑x : Int) + (1 : Int) = (↑x' : Int) ∧ n = n ∧ m = m ∧ perm = perm ∧ l = l ∧ True) ∧
 ∀ (ys : List Int), rrF n m perm (l ++ [(↑x : Int)]) = some ys → ys ≠ [] ∧ rrF n m perm l = some ys) ∧
 (¬(↑x : Int) < m → ¬(↑x : Int) < m ∧ rrF n m perm l = none))))) := by
 kernel_rfl

theorem g42_eq (n : Int) (m : Int) (l : List Int) : g42 n m l = (
 (l.length ≤ (1000 : Nat) ∧ (-1000 : Int) ≤ m ∧ m ≤ (1000 : Int)) ∧ decide ((∀ (x : Int), x ∈ l → (0 : Int) ≤ x ∧ x < m) ∧ (↑l.length : Int) = n) = decide (RoutP n m l)) := by
 kernel_rfl

theorem g41_eq (n : Int) (r : Int) (m : Int) (perm : List Int) (l : List Int) : g41 n r m perm l = (
 perm.length ≤ (1000 : Nat) ∧
 (¬(readF n r m perm).snd = (0 : Int) → ¬(readF n r m perm).snd = (0 : Int) ∧ ¬(readF n r m perm).snd = (0 : Int) ∧ (false, (readF n r m perm).snd) = validF n r m perm l) ∧
 (¬¬(readF n r m perm).snd = (0 : Int) →
 ¬¬(readF n r m perm).snd = (0 : Int) ∧
 ¬¬(readF n r m perm).snd = (0 : Int) ∧
 (¬(↑l.length : Int) = (↑perm.length : Int) →
 ¬(↑l.length : Int) = (↑perm.length : Int) ∧ ¬(↑l.length : Int) = (↑perm.length : Int) ∧ (false, (2 : Int)) = validF n r m perm l) ∧
 (¬¬(↑l.length : Int) = (↑perm.length : Int) →
 ¬¬(↑l.length : Int) = (↑perm.length : Int) ∧
 ¬¬(↑l.length : Int) = (↑perm.length : Int) ∧
 ((1 : Nat) ≤ l.length ∧ l.length ≤ (1000 : Nat)) ∧
 (minTo l l.length < (0 : Int) →
 minTo l l.length < (0 : Int) ∧ minTo l l.length < (0 : Int) ∧ minTo l l.length < (0 : Int) ∧ (false, (2 : Int)) = validF n r m perm l) ∧
 (¬minTo l l.length < (0 : Int) →
 ¬minTo l l.length < (0 : Int) ∧
 ¬minTo l l.length < (0 : Int) ∧
 ¬minTo l l.length < (0 : Int) ∧
 ((1 : Nat) ≤ l.length ∧ l.length ≤ (1000 : Nat)) ∧
 (m ≤ maxTo l l.length → m ≤ maxTo l l.length ∧ m ≤ maxTo l l.length ∧ m ≤ maxTo l l.length ∧ (false, (2 : Int)) = validF n r m perm l) ∧
 (¬m ≤ maxTo l l.length →
 ¬m ≤ maxTo l l.length ∧
 ¬m ≤ maxTo l l.length ∧
 ¬m ≤ maxTo l l.length ∧
 (perm.length ≤ (1000 : Nat) ∧
 (1 : Int) ≤ (readF n r m perm).fst.fst ∧
 (readF n r m perm).fst.fst ≤ (12 : Int) ∧ ∀ (x : Int), x ∈ perm → (0 : Int) ≤ x ∧ x ≤ (1000 : Int)) ∧
 (∃ (x0 : Nat),
 (x0 ≤ l.length ∧ ∀ (a : Nat), a < x0 → clashF (edgesF n perm) l a = false) ∧
 (((readF n r m perm).fst.fst = (readF n r m perm).fst.fst ∧
 (readF n r m perm).fst.snd.fst = (readF n r m perm).fst.snd.fst ∧
 (readF n r m perm).fst.snd.snd = (readF n r m perm).fst.snd.snd ∧ True) ∧
 True) ∧
 (0 : Int) = (↑x0 : Int) ∧
 (↑(edgesF (readF n r m perm).fst.fst perm).length : Int) = (↑(edgesF (readF n r m perm).fst.fst perm).length : Int) ∧
 edgesF (readF n r m perm).fst.fst perm = edgesF (readF n r m perm).fst.fst perm ∧
 edgesF (readF n r m perm).fst.fst perm = edgesF (readF n r m perm).fst.fst perm ∧ l = l ∧ True) ∧
 ∀ (x : Nat),
 (x ≤ l.length ∧ ∀ (a : Nat), a < x → clashF (edgesF n perm) l a = false) →
 ((↑x : Int) < (↑(edgesF (readF n r m perm).fst.fst perm).length : Int) →
 (↑x : Int) < (↑(edgesF (readF n r m perm).fst.fst perm).length : Int) ∧
 ((edgesF (readF n r m perm).fst.fst perm).length ≤ (1000 : Nat) ∧
 l.length ≤ (1000 : Nat) ∧
 (0 : Int) ≤ (↑x : Int) ∧
 (↑x : Int) < (↑(edgesF (readF n r m perm).fst.fst perm).length : Int) ∧ (↑x : Int) < (↑l.length : Int)) ∧
 (clashF (edgesF (readF n r m perm).fst.fst perm) l (↑x : Int).toNat = true →
 clashF (edgesF (readF n r m perm).fst.fst perm) l (↑x : Int).toNat = true ∧
 (false, (0 : Int)) = validF n r m perm l) ∧
 (clashF (edgesF (readF n r m perm).fst.fst perm) l (↑x : Int).toNat = false →
 clashF (edgesF (readF n r m perm).fst.fst perm) l (↑x : Int).toNat = false ∧
 Fits IntKind.i64 ((↑x : Int) + (1 : Int)) ∧
 ∃ (x' : Nat),
 (x' ≤ l.length ∧ ∀ (a : Nat), a < x' → clashF (edgesF n perm) l a = false) ∧
 l.length - x' < l.length - x ∧
 (((readF n r m perm).fst.fst = (readF n r m perm).fst.fst ∧
 (readF n r m perm).fst.snd.fst = (readF n r m perm).fst.snd.fst ∧
 (readF n r m perm).fst.snd.snd = (readF n r m perm).fst.snd.snd ∧ True) ∧
 True) ∧
 (↑x : Int) + (1 : Int) = (↑x' : Int) ∧
 (↑(edgesF (readF n r m perm).fst.fst perm).length : Int) =
 (↑(edgesF (readF n r m perm).fst.fst perm).length : Int) ∧
 edgesF (readF n r m perm).fst.fst perm = edgesF (readF n r m perm).fst.fst perm ∧
 edgesF (readF n r m perm).fst.fst perm = edgesF (readF n r m perm).fst.fst perm ∧ l = l ∧ True)) ∧
 (¬(↑x : Int) < (↑(edgesF (readF n r m perm).fst.fst perm).length : Int) →
 ¬(↑x : Int) < (↑(edgesF (readF n r m perm).fst.fst perm).length : Int) ∧ (true, (0 : Int)) = validF n r m perm l)))))) := by
 kernel_rfl

theorem g10_eq (c : Int × Int × Int) (x : List Int) (y : List Int) : g10 c x y = (
 True ∧
 True ∧
 ((List.take (13 : Nat) x).length ≤ (1000 : Nat) ∧ (List.take (13 : Nat) y).length ≤ (1000 : Nat)) ∧
 (List.take (13 : Nat) x).length ≤ (1000 : Nat) ∧
 True ∧
 ((!decide (ClosP c.fst c.snd.fst c.snd.snd)) = true →
 (!decide (ClosP c.fst c.snd.fst c.snd.snd)) = true ∧
 ((!(validF c.fst c.snd.fst c.snd.snd (List.take (13 : Nat) x) (List.take (13 : Nat) y)).fst) = true →
 (!(validF c.fst c.snd.fst c.snd.snd (List.take (13 : Nat) x) (List.take (13 : Nat) y)).fst) = true ∧
 (!(validF c.fst c.snd.fst c.snd.snd (List.take (13 : Nat) x) (List.take (13 : Nat) y)).fst) = true ∧
 ((validF c.fst c.snd.fst c.snd.snd (List.take (13 : Nat) x) (List.take (13 : Nat) y)).snd = (1 : Int) →
 (validF c.fst c.snd.fst c.snd.snd (List.take (13 : Nat) x) (List.take (13 : Nat) y)).snd = (1 : Int) ∧
 (validF c.fst c.snd.fst c.snd.snd (List.take (13 : Nat) x) (List.take (13 : Nat) y)).snd = (1 : Int) ∧
 (validF c.fst c.snd.fst c.snd.snd (List.take (13 : Nat) x) (List.take (13 : Nat) y)).snd = (1 : Int) ∧
 ((↑(routeF c.fst c.snd.fst c.snd.snd (List.take (13 : Nat) x)).fst.length : Int) = (0 : Int) →
 (↑(routeF c.fst c.snd.fst c.snd.snd (List.take (13 : Nat) x)).fst.length : Int) = (0 : Int) ∧
 (↑(routeF c.fst c.snd.fst c.snd.snd (List.take (13 : Nat) x)).fst.length : Int) = (0 : Int) ∧
 (↑(routeF c.fst c.snd.fst c.snd.snd (List.take (13 : Nat) x)).fst.length : Int) = (0 : Int) ∧
 ((routeF c.fst c.snd.fst c.snd.snd (List.take (13 : Nat) x)).snd = (1 : Int) →
 (routeF c.fst c.snd.fst c.snd.snd (List.take (13 : Nat) x)).snd = (1 : Int) ∧
 (routeF c.fst c.snd.fst c.snd.snd (List.take (13 : Nat) x)).snd = (1 : Int) ∧
 (routeF c.fst c.snd.fst c.snd.snd (List.take (13 : Nat) x)).snd = (1 : Int) ∧ True ∧ true = true) ∧
 (¬(routeF c.fst c.snd.fst c.snd.snd (List.take (13 : Nat) x)).snd = (1 : Int) →
 ¬(routeF c.fst c.snd.fst c.snd.snd (List.take (13 : Nat) x)).snd = (1 : Int) ∧
 ¬(routeF c.fst c.snd.fst c.snd.snd (List.take (13 : Nat) x)).snd = (1 : Int) ∧
 ¬(routeF c.fst c.snd.fst c.snd.snd (List.take (13 : Nat) x)).snd = (1 : Int) ∧ false = true)) ∧
 (¬(↑(routeF c.fst c.snd.fst c.snd.snd (List.take (13 : Nat) x)).fst.length : Int) = (0 : Int) →
 ¬(↑(routeF c.fst c.snd.fst c.snd.snd (List.take (13 : Nat) x)).fst.length : Int) = (0 : Int) ∧
 ¬(↑(routeF c.fst c.snd.fst c.snd.snd (List.take (13 : Nat) x)).fst.length : Int) = (0 : Int) ∧
 ¬(↑(routeF c.fst c.snd.fst c.snd.snd (List.take (13 : Nat) x)).fst.length : Int) = (0 : Int) ∧ false = true)) ∧
 (¬(validF c.fst c.snd.fst c.snd.snd (List.take (13 : Nat) x) (List.take (13 : Nat) y)).snd = (1 : Int) →
 ¬(validF c.fst c.snd.fst c.snd.snd (List.take (13 : Nat) x) (List.take (13 : Nat) y)).snd = (1 : Int) ∧
 ¬(validF c.fst c.snd.fst c.snd.snd (List.take (13 : Nat) x) (List.take (13 : Nat) y)).snd = (1 : Int) ∧
 ¬(validF c.fst c.snd.fst c.snd.snd (List.take (13 : Nat) x) (List.take (13 : Nat) y)).snd = (1 : Int) ∧ false = true)) ∧
 ((!(validF c.fst c.snd.fst c.snd.snd (List.take (13 : Nat) x) (List.take (13 : Nat) y)).fst) = false →
 (!(validF c.fst c.snd.fst c.snd.snd (List.take (13 : Nat) x) (List.take (13 : Nat) y)).fst) = false ∧
 (!(validF c.fst c.snd.fst c.snd.snd (List.take (13 : Nat) x) (List.take (13 : Nat) y)).fst) = false ∧ false = true)) ∧
 ((!decide (ClosP c.fst c.snd.fst c.snd.snd)) = false →
 (!decide (ClosP c.fst c.snd.fst c.snd.snd)) = false ∧
 Fits IntKind.i64 (c.fst * c.snd.fst) ∧
 ((List.take (13 : Nat) x).length ≤ (1000 : Nat) ∧ (0 : Int) ≤ c.fst * c.snd.fst ∧ c.fst * c.snd.fst ≤ (1000000 : Int)) ∧
 ((!decide (PermP (List.take (13 : Nat) x) (c.fst * c.snd.fst))) = true →
 (!decide (PermP (List.take (13 : Nat) x) (c.fst * c.snd.fst))) = true ∧
 ((!(validF c.fst c.snd.fst c.snd.snd (List.take (13 : Nat) x) (List.take (13 : Nat) y)).fst) = true →
 (!(validF c.fst c.snd.fst c.snd.snd (List.take (13 : Nat) x) (List.take (13 : Nat) y)).fst) = true ∧
 (!(validF c.fst c.snd.fst c.snd.snd (List.take (13 : Nat) x) (List.take (13 : Nat) y)).fst) = true ∧
 ((validF c.fst c.snd.fst c.snd.snd (List.take (13 : Nat) x) (List.take (13 : Nat) y)).snd = (2 : Int) →
 (validF c.fst c.snd.fst c.snd.snd (List.take (13 : Nat) x) (List.take (13 : Nat) y)).snd = (2 : Int) ∧
 (validF c.fst c.snd.fst c.snd.snd (List.take (13 : Nat) x) (List.take (13 : Nat) y)).snd = (2 : Int) ∧
 (validF c.fst c.snd.fst c.snd.snd (List.take (13 : Nat) x) (List.take (13 : Nat) y)).snd = (2 : Int) ∧
 ((↑(routeF c.fst c.snd.fst c.snd.snd (List.take (13 : Nat) x)).fst.length : Int) = (0 : Int) →
 (↑(routeF c.fst c.snd.fst c.snd.snd (List.take (13 : Nat) x)).fst.length : Int) = (0 : Int) ∧
 (↑(routeF c.fst c.snd.fst c.snd.snd (List.take (13 : Nat) x)).fst.length : Int) = (0 : Int) ∧
 (↑(routeF c.fst c.snd.fst c.snd.snd (List.take (13 : Nat) x)).fst.length : Int) = (0 : Int) ∧
 ((routeF c.fst c.snd.fst c.snd.snd (List.take (13 : Nat) x)).snd = (2 : Int) →
 (routeF c.fst c.snd.fst c.snd.snd (List.take (13 : Nat) x)).snd = (2 : Int) ∧
 (routeF c.fst c.snd.fst c.snd.snd (List.take (13 : Nat) x)).snd = (2 : Int) ∧
 (routeF c.fst c.snd.fst c.snd.snd (List.take (13 : Nat) x)).snd = (2 : Int) ∧ True ∧ true = true) ∧
 (¬(routeF c.fst c.snd.fst c.snd.snd (List.take (13 : Nat) x)).snd = (2 : Int) →
 ¬(routeF c.fst c.snd.fst c.snd.snd (List.take (13 : Nat) x)).snd = (2 : Int) ∧
 ¬(routeF c.fst c.snd.fst c.snd.snd (List.take (13 : Nat) x)).snd = (2 : Int) ∧
 ¬(routeF c.fst c.snd.fst c.snd.snd (List.take (13 : Nat) x)).snd = (2 : Int) ∧ false = true)) ∧
 (¬(↑(routeF c.fst c.snd.fst c.snd.snd (List.take (13 : Nat) x)).fst.length : Int) = (0 : Int) →
 ¬(↑(routeF c.fst c.snd.fst c.snd.snd (List.take (13 : Nat) x)).fst.length : Int) = (0 : Int) ∧
 ¬(↑(routeF c.fst c.snd.fst c.snd.snd (List.take (13 : Nat) x)).fst.length : Int) = (0 : Int) ∧
 ¬(↑(routeF c.fst c.snd.fst c.snd.snd (List.take (13 : Nat) x)).fst.length : Int) = (0 : Int) ∧ false = true)) ∧
 (¬(validF c.fst c.snd.fst c.snd.snd (List.take (13 : Nat) x) (List.take (13 : Nat) y)).snd = (2 : Int) →
 ¬(validF c.fst c.snd.fst c.snd.snd (List.take (13 : Nat) x) (List.take (13 : Nat) y)).snd = (2 : Int) ∧
 ¬(validF c.fst c.snd.fst c.snd.snd (List.take (13 : Nat) x) (List.take (13 : Nat) y)).snd = (2 : Int) ∧
 ¬(validF c.fst c.snd.fst c.snd.snd (List.take (13 : Nat) x) (List.take (13 : Nat) y)).snd = (2 : Int) ∧ false = true)) ∧
 ((!(validF c.fst c.snd.fst c.snd.snd (List.take (13 : Nat) x) (List.take (13 : Nat) y)).fst) = false →
 (!(validF c.fst c.snd.fst c.snd.snd (List.take (13 : Nat) x) (List.take (13 : Nat) y)).fst) = false ∧
 (!(validF c.fst c.snd.fst c.snd.snd (List.take (13 : Nat) x) (List.take (13 : Nat) y)).fst) = false ∧ false = true)) ∧
 ((!decide (PermP (List.take (13 : Nat) x) (c.fst * c.snd.fst))) = false →
 (!decide (PermP (List.take (13 : Nat) x) (c.fst * c.snd.fst))) = false ∧
 Fits IntKind.i64 (c.fst * c.snd.fst) ∧
 ((List.take (13 : Nat) y).length ≤ (1000 : Nat) ∧ (-1000 : Int) ≤ c.snd.snd ∧ c.snd.snd ≤ (1000 : Int)) ∧
 ((!decide (RoutP (c.fst * c.snd.fst) c.snd.snd (List.take (13 : Nat) y))) = true →
 (!decide (RoutP (c.fst * c.snd.fst) c.snd.snd (List.take (13 : Nat) y))) = true ∧
 ((validF c.fst c.snd.fst c.snd.snd (List.take (13 : Nat) x) (List.take (13 : Nat) y)).fst = true →
 (validF c.fst c.snd.fst c.snd.snd (List.take (13 : Nat) x) (List.take (13 : Nat) y)).fst = true ∧
 (validF c.fst c.snd.fst c.snd.snd (List.take (13 : Nat) x) (List.take (13 : Nat) y)).fst = true ∧
 (validF c.fst c.snd.fst c.snd.snd (List.take (13 : Nat) x) (List.take (13 : Nat) y)).fst = true ∧
 (validF c.fst c.snd.fst c.snd.snd (List.take (13 : Nat) x) (List.take (13 : Nat) y)).fst = true ∧ false = true) ∧
 ((validF c.fst c.snd.fst c.snd.snd (List.take (13 : Nat) x) (List.take (13 : Nat) y)).fst = false →
 (validF c.fst c.snd.fst c.snd.snd (List.take (13 : Nat) x) (List.take (13 : Nat) y)).fst = false ∧
 (validF c.fst c.snd.fst c.snd.snd (List.take (13 : Nat) x) (List.take (13 : Nat) y)).fst = false ∧
 (validF c.fst c.snd.fst c.snd.snd (List.take (13 : Nat) x) (List.take (13 : Nat) y)).fst = false ∧
 (validF c.fst c.snd.fst c.snd.snd (List.take (13 : Nat) x) (List.take (13 : Nat) y)).fst = false ∧
 (¬(validF c.fst c.snd.fst c.snd.snd (List.take (13 : Nat) x) (List.take (13 : Nat) y)).snd = (2 : Int) →
 ¬(validF c.fst c.snd.fst c.snd.snd (List.take (13 : Nat) x) (List.take (13 : Nat) y)).snd = (2 : Int) ∧
 ¬(validF c.fst c.snd.fst c.snd.snd (List.take (13 : Nat) x) (List.take (13 : Nat) y)).snd = (2 : Int) ∧ false = true) ∧
 (¬¬(validF c.fst c.snd.fst c.snd.snd (List.take (13 : Nat) x) (List.take (13 : Nat) y)).snd = (2 : Int) →
 ¬¬(validF c.fst c.snd.fst c.snd.snd (List.take (13 : Nat) x) (List.take (13 : Nat) y)).snd = (2 : Int) ∧
 ¬¬(validF c.fst c.snd.fst c.snd.snd (List.take (13 : Nat) x) (List.take (13 : Nat) y)).snd = (2 : Int) ∧
 ((((1 : Int) ≤ c.fst ∧ c.fst ≤ (12 : Int)) ∧
 (List.take (13 : Nat) x).length ≤ (1000 : Nat) ∧
 (0 : Nat) ≤ (List.take (13 : Nat) x).length ∧
 ∀ (x_1 : Int), x_1 ∈ List.take (13 : Nat) x → (0 : Int) ≤ x_1 ∧ x_1 ≤ (1000 : Int)) ∧
 (0 : Int) ≤ c.snd.snd ∧ c.snd.snd ≤ (12 : Int)) ∧
 (rrF c.fst c.snd.snd (List.take (13 : Nat) x) [] = none →
 ((↑(routeF c.fst c.snd.fst c.snd.snd (List.take (13 : Nat) x)).fst.length : Int) = (0 : Int) →
 (↑(routeF c.fst c.snd.fst c.snd.snd (List.take (13 : Nat) x)).fst.length : Int) = (0 : Int) ∧
 (↑(routeF c.fst c.snd.fst c.snd.snd (List.take (13 : Nat) x)).fst.length : Int) = (0 : Int) ∧
 ((routeF c.fst c.snd.fst c.snd.snd (List.take (13 : Nat) x)).snd = (5 : Int) →
 (routeF c.fst c.snd.fst c.snd.snd (List.take (13 : Nat) x)).snd = (5 : Int) ∧
 (routeF c.fst c.snd.fst c.snd.snd (List.take (13 : Nat) x)).snd = (5 : Int) ∧
 (routeF c.fst c.snd.fst c.snd.snd (List.take (13 : Nat) x)).snd = (5 : Int) ∧ True ∧ true = true) ∧
 (¬(routeF c.fst c.snd.fst c.snd.snd (List.take (13 : Nat) x)).snd = (5 : Int) →
 ¬(routeF c.fst c.snd.fst c.snd.snd (List.take (13 : Nat) x)).snd = (5 : Int) ∧
 ¬(routeF c.fst c.snd.fst c.snd.snd (List.take (13 : Nat) x)).snd = (5 : Int) ∧
 ¬(routeF c.fst c.snd.fst c.snd.snd (List.take (13 : Nat) x)).snd = (5 : Int) ∧ false = true)) ∧
 (¬(↑(routeF c.fst c.snd.fst c.snd.snd (List.take (13 : Nat) x)).fst.length : Int) = (0 : Int) →
 ¬(↑(routeF c.fst c.snd.fst c.snd.snd (List.take (13 : Nat) x)).fst.length : Int) = (0 : Int) ∧
 ¬(↑(routeF c.fst c.snd.fst c.snd.snd (List.take (13 : Nat) x)).fst.length : Int) = (0 : Int) ∧ false = true)) ∧
 ∀ (ys : List Int),
 rrF c.fst c.snd.snd (List.take (13 : Nat) x) [] = some ys →
 ys ≠ [] ∧
 ((routeF c.fst c.snd.fst c.snd.snd (List.take (13 : Nat) x)).fst.length ≤ (1000 : Nat) ∧
 ys.length ≤ (1000 : Nat)) ∧
 (decide ((routeF c.fst c.snd.fst c.snd.snd (List.take (13 : Nat) x)).fst = ys) = true →
 decide ((routeF c.fst c.snd.fst c.snd.snd (List.take (13 : Nat) x)).fst = ys) = true ∧
 decide ((routeF c.fst c.snd.fst c.snd.snd (List.take (13 : Nat) x)).fst = ys) = true ∧
 ((routeF c.fst c.snd.fst c.snd.snd (List.take (13 : Nat) x)).snd = (0 : Int) →
 (routeF c.fst c.snd.fst c.snd.snd (List.take (13 : Nat) x)).snd = (0 : Int) ∧
 (routeF c.fst c.snd.fst c.snd.snd (List.take (13 : Nat) x)).snd = (0 : Int) ∧
 (routeF c.fst c.snd.fst c.snd.snd (List.take (13 : Nat) x)).snd = (0 : Int) ∧
 True ∧ true = true) ∧
 (¬(routeF c.fst c.snd.fst c.snd.snd (List.take (13 : Nat) x)).snd = (0 : Int) →
 ¬(routeF c.fst c.snd.fst c.snd.snd (List.take (13 : Nat) x)).snd = (0 : Int) ∧
 ¬(routeF c.fst c.snd.fst c.snd.snd (List.take (13 : Nat) x)).snd = (0 : Int) ∧
 ¬(routeF c.fst c.snd.fst c.snd.snd (List.take (13 : Nat) x)).snd = (0 : Int) ∧ false = true)) ∧
 (decide ((routeF c.fst c.snd.fst c.snd.snd (List.take (13 : Nat) x)).fst = ys) = false →
 decide ((routeF c.fst c.snd.fst c.snd.snd (List.take (13 : Nat) x)).fst = ys) = false ∧
 decide ((routeF c.fst c.snd.fst c.snd.snd (List.take (13 : Nat) x)).fst = ys) = false ∧ false = true)))) ∧
 ((!decide (RoutP (c.fst * c.snd.fst) c.snd.snd (List.take (13 : Nat) y))) = false →
 (!decide (RoutP (c.fst * c.snd.fst) c.snd.snd (List.take (13 : Nat) y))) = false ∧
 (((1 : Int) ≤ c.fst ∧ c.fst ≤ (12 : Int)) ∧
 (List.take (13 : Nat) x).length ≤ (1000 : Nat) ∧
 (List.take (13 : Nat) y).length ≤ (List.take (13 : Nat) x).length ∧
 ∀ (x_1 : Int), x_1 ∈ List.take (13 : Nat) x → (0 : Int) ≤ x_1 ∧ x_1 ≤ (1000 : Int)) ∧
 (¬(validF c.fst c.snd.fst c.snd.snd (List.take (13 : Nat) x) (List.take (13 : Nat) y)).fst =
 properF (edgesF c.fst (List.take (13 : Nat) x)) (List.take (13 : Nat) y) →
 ¬(validF c.fst c.snd.fst c.snd.snd (List.take (13 : Nat) x) (List.take (13 : Nat) y)).fst =
 properF (edgesF c.fst (List.take (13 : Nat) x)) (List.take (13 : Nat) y) ∧
 ¬(validF c.fst c.snd.fst c.snd.snd (List.take (13 : Nat) x) (List.take (13 : Nat) y)).fst =
 properF (edgesF c.fst (List.take (13 : Nat) x)) (List.take (13 : Nat) y) ∧
 false = true) ∧
 (¬¬(validF c.fst c.snd.fst c.snd.snd (List.take (13 : Nat) x) (List.take (13 : Nat) y)).fst =
 properF (edgesF c.fst (List.take (13 : Nat) x)) (List.take (13 : Nat) y) →
 ¬¬(validF c.fst c.snd.fst c.snd.snd (List.take (13 : Nat) x) (List.take (13 : Nat) y)).fst =
 properF (edgesF c.fst (List.take (13 : Nat) x)) (List.take (13 : Nat) y) ∧
 ¬¬(validF c.fst c.snd.fst c.snd.snd (List.take (13 : Nat) x) (List.take (13 : Nat) y)).fst =
 properF (edgesF c.fst (List.take (13 : Nat) x)) (List.take (13 : Nat) y) ∧
 (¬(validF c.fst c.snd.fst c.snd.snd (List.take (13 : Nat) x) (List.take (13 : Nat) y)).snd = (0 : Int) →
 ¬(validF c.fst c.snd.fst c.snd.snd (List.take (13 : Nat) x) (List.take (13 : Nat) y)).snd = (0 : Int) ∧
 ¬(validF c.fst c.snd.fst c.snd.snd (List.take (13 : Nat) x) (List.take (13 : Nat) y)).snd = (0 : Int) ∧ false = true) ∧
 (¬¬(validF c.fst c.snd.fst c.snd.snd (List.take (13 : Nat) x) (List.take (13 : Nat) y)).snd = (0 : Int) →
 ¬¬(validF c.fst c.snd.fst c.snd.snd (List.take (13 : Nat) x) (List.take (13 : Nat) y)).snd = (0 : Int) ∧
 ¬¬(validF c.fst c.snd.fst c.snd.snd (List.take (13 : Nat) x) (List.take (13 : Nat) y)).snd = (0 : Int) ∧
 ((((1 : Int) ≤ c.fst ∧ c.fst ≤ (12 : Int)) ∧
 (List.take (13 : Nat) x).length ≤ (1000 : Nat) ∧
 (0 : Nat) ≤ (List.take (13 : Nat) x).length ∧
 ∀ (x_1 : Int), x_1 ∈ List.take (13 : Nat) x → (0 : Int) ≤ x_1 ∧ x_1 ≤ (1000 : Int)) ∧
 (0 : Int) ≤ c.snd.snd ∧ c.snd.snd ≤ (12 : Int)) ∧
 (rrF c.fst c.snd.snd (List.take (13 : Nat) x) [] = none →
 ((↑(routeF c.fst c.snd.fst c.snd.snd (List.take (13 : Nat) x)).fst.length : Int) = (0 : Int) →
 (↑(routeF c.fst c.snd.fst c.snd.snd (List.take (13 : Nat) x)).fst.length : Int) = (0 : Int) ∧
 (↑(routeF c.fst c.snd.fst c.snd.snd (List.take (13 : Nat) x)).fst.length : Int) = (0 : Int) ∧
 ((routeF c.fst c.snd.fst c.snd.snd (List.take (13 : Nat) x)).snd = (5 : Int) →
 (routeF c.fst c.snd.fst c.snd.snd (List.take (13 : Nat) x)).snd = (5 : Int) ∧
 (routeF c.fst c.snd.fst c.snd.snd (List.take (13 : Nat) x)).snd = (5 : Int) ∧
 (routeF c.fst c.snd.fst c.snd.snd (List.take (13 : Nat) x)).snd = (5 : Int) ∧ True ∧ true = true) ∧
 (¬(routeF c.fst c.snd.fst c.snd.snd (List.take (13 : Nat) x)).snd = (5 : Int) →
 ¬(routeF c.fst c.snd.fst c.snd.snd (List.take (13 : Nat) x)).snd = (5 : Int) ∧
 ¬(routeF c.fst c.snd.fst c.snd.snd (List.take (13 : Nat) x)).snd = (5 : Int) ∧
 ¬(routeF c.fst c.snd.fst c.snd.snd (List.take (13 : Nat) x)).snd = (5 : Int) ∧ false = true)) ∧
 (¬(↑(routeF c.fst c.snd.fst c.snd.snd (List.take (13 : Nat) x)).fst.length : Int) = (0 : Int) →
 ¬(↑(routeF c.fst c.snd.fst c.snd.snd (List.take (13 : Nat) x)).fst.length : Int) = (0 : Int) ∧
 ¬(↑(routeF c.fst c.snd.fst c.snd.snd (List.take (13 : Nat) x)).fst.length : Int) = (0 : Int) ∧ false = true)) ∧
 ∀ (ys : List Int),
 rrF c.fst c.snd.snd (List.take (13 : Nat) x) [] = some ys →
 ys ≠ [] ∧
 ((routeF c.fst c.snd.fst c.snd.snd (List.take (13 : Nat) x)).fst.length ≤ (1000 : Nat) ∧ ys.length ≤ (1000 : Nat)) ∧
 (decide ((routeF c.fst c.snd.fst c.snd.snd (List.take (13 : Nat) x)).fst = ys) = true →
 decide ((routeF c.fst c.snd.fst c.snd.snd (List.take (13 : Nat) x)).fst = ys) = true ∧
 decide ((routeF c.fst c.snd.fst c.snd.snd (List.take (13 : Nat) x)).fst = ys) = true ∧
 ((routeF c.fst c.snd.fst c.snd.snd (List.take (13 : Nat) x)).snd = (0 : Int) →
 (routeF c.fst c.snd.fst c.snd.snd (List.take (13 : Nat) x)).snd = (0 : Int) ∧
 (routeF c.fst c.snd.fst c.snd.snd (List.take (13 : Nat) x)).snd = (0 : Int) ∧
 (routeF c.fst c.snd.fst c.snd.snd (List.take (13 : Nat) x)).snd = (0 : Int) ∧
 True ∧ true = true) ∧
 (¬(routeF c.fst c.snd.fst c.snd.snd (List.take (13 : Nat) x)).snd = (0 : Int) →
 ¬(routeF c.fst c.snd.fst c.snd.snd (List.take (13 : Nat) x)).snd = (0 : Int) ∧
 ¬(routeF c.fst c.snd.fst c.snd.snd (List.take (13 : Nat) x)).snd = (0 : Int) ∧
 ¬(routeF c.fst c.snd.fst c.snd.snd (List.take (13 : Nat) x)).snd = (0 : Int) ∧ false = true)) ∧
 (decide ((routeF c.fst c.snd.fst c.snd.snd (List.take (13 : Nat) x)).fst = ys) = false →
 decide ((routeF c.fst c.snd.fst c.snd.snd (List.take (13 : Nat) x)).fst = ys) = false ∧
 decide ((routeF c.fst c.snd.fst c.snd.snd (List.take (13 : Nat) x)).fst = ys) = false ∧ false = true))))))) := by
 kernel_rfl

theorem g11_eq (x : Int × Int × Int) (code : List Int) : g11 x code = (
 (((0 : Int) ≤ x.fst ∧ x.fst ≤ (255 : Int)) ∧ ((0 : Int) ≤ x.snd.fst ∧ x.snd.fst ≤ (255 : Int)) ∧ (0 : Int) ≤ x.snd.snd ∧ x.snd.snd ≤ (255 : Int)) ∧
 Fits IntKind.i64 ((netF (x.fst, x.snd.fst, x.snd.snd)).fst * (netF (x.fst, x.snd.fst, x.snd.snd)).snd.fst) ∧
 (((0 : Int) ≤ (netF (x.fst, x.snd.fst, x.snd.snd)).fst * (netF (x.fst, x.snd.fst, x.snd.snd)).snd.fst ∧
 (netF (x.fst, x.snd.fst, x.snd.snd)).fst * (netF (x.fst, x.snd.fst, x.snd.snd)).snd.fst ≤ (100 : Int)) ∧
 code.length ≤ maxLen ∧ ∀ (b : Int), b ∈ code → (0 : Int) ≤ b ∧ b ≤ (255 : Int)) ∧
 (nthTo code ((netF (x.fst, x.snd.fst, x.snd.snd)).fst * (netF (x.fst, x.snd.fst, x.snd.snd)).snd.fst).toNat).length ≤ (1000 : Nat) ∧
 ((netF (x.fst, x.snd.fst, x.snd.snd)).snd.snd < (netF (x.fst, x.snd.fst, x.snd.snd)).fst →
 (netF (x.fst, x.snd.fst, x.snd.snd)).snd.snd < (netF (x.fst, x.snd.fst, x.snd.snd)).fst ∧
 ((routeF (netF (x.fst, x.snd.fst, x.snd.snd)).fst (netF (x.fst, x.snd.fst, x.snd.snd)).snd.fst (netF (x.fst, x.snd.fst, x.snd.snd)).snd.snd
 (nthTo code ((netF (x.fst, x.snd.fst, x.snd.snd)).fst * (netF (x.fst, x.snd.fst, x.snd.snd)).snd.fst).toNat)).snd =
 (5 : Int) →
 (routeF (netF (x.fst, x.snd.fst, x.snd.snd)).fst (netF (x.fst, x.snd.fst, x.snd.snd)).snd.fst (netF (x.fst, x.snd.fst, x.snd.snd)).snd.snd
 (nthTo code ((netF (x.fst, x.snd.fst, x.snd.snd)).fst * (netF (x.fst, x.snd.fst, x.snd.snd)).snd.fst).toNat)).snd =
 (5 : Int) ∧
 (routeF (netF (x.fst, x.snd.fst, x.snd.snd)).fst (netF (x.fst, x.snd.fst, x.snd.snd)).snd.fst (netF (x.fst, x.snd.fst, x.snd.snd)).snd.snd
 (nthTo code ((netF (x.fst, x.snd.fst, x.snd.snd)).fst * (netF (x.fst, x.snd.fst, x.snd.snd)).snd.fst).toNat)).snd =
 (5 : Int) ∧
 ((↑(routeF (netF (x.fst, x.snd.fst, x.snd.snd)).fst (netF (x.fst, x.snd.fst, x.snd.snd)).snd.fst (netF (x.fst, x.snd.fst, x.snd.snd)).snd.snd
 (nthTo code ((netF (x.fst, x.snd.fst, x.snd.snd)).fst * (netF (x.fst, x.snd.fst, x.snd.snd)).snd.fst).toNat)).fst.length :
 Int) =
 (0 : Int) →
 (↑(routeF (netF (x.fst, x.snd.fst, x.snd.snd)).fst (netF (x.fst, x.snd.fst, x.snd.snd)).snd.fst (netF (x.fst, x.snd.fst, x.snd.snd)).snd.snd
 (nthTo code ((netF (x.fst, x.snd.fst, x.snd.snd)).fst * (netF (x.fst, x.snd.fst, x.snd.snd)).snd.fst).toNat)).fst.length :
 Int) =
 (0 : Int) ∧
 (↑(routeF (netF (x.fst, x.snd.fst, x.snd.snd)).fst (netF (x.fst, x.snd.fst, x.snd.snd)).snd.fst (netF (x.fst, x.snd.fst, x.snd.snd)).snd.snd
 (nthTo code ((netF (x.fst, x.snd.fst, x.snd.snd)).fst * (netF (x.fst, x.snd.fst, x.snd.snd)).snd.fst).toNat)).fst.length :
 Int) =
 (0 : Int) ∧
 (↑(routeF (netF (x.fst, x.snd.fst, x.snd.snd)).fst (netF (x.fst, x.snd.fst, x.snd.snd)).snd.fst (netF (x.fst, x.snd.fst, x.snd.snd)).snd.snd
 (nthTo code ((netF (x.fst, x.snd.fst, x.snd.snd)).fst * (netF (x.fst, x.snd.fst, x.snd.snd)).snd.fst).toNat)).fst.length :
 Int) =
 (0 : Int) ∧
 True ∧ true = true) ∧
 (¬(↑(routeF (netF (x.fst, x.snd.fst, x.snd.snd)).fst (netF (x.fst, x.snd.fst, x.snd.snd)).snd.fst (netF (x.fst, x.snd.fst, x.snd.snd)).snd.snd
 (nthTo code ((netF (x.fst, x.snd.fst, x.snd.snd)).fst * (netF (x.fst, x.snd.fst, x.snd.snd)).snd.fst).toNat)).fst.length :
 Int) =
 (0 : Int) →
 ¬(↑(routeF (netF (x.fst, x.snd.fst, x.snd.snd)).fst (netF (x.fst, x.snd.fst, x.snd.snd)).snd.fst (netF (x.fst, x.snd.fst, x.snd.snd)).snd.snd
 (nthTo code ((netF (x.fst, x.snd.fst, x.snd.snd)).fst * (netF (x.fst, x.snd.fst, x.snd.snd)).snd.fst).toNat)).fst.length :
 Int) =
 (0 : Int) ∧
 ¬(↑(routeF (netF (x.fst, x.snd.fst, x.snd.snd)).fst (netF (x.fst, x.snd.fst, x.snd.snd)).snd.fst (netF (x.fst, x.snd.fst, x.snd.snd)).snd.snd
 (nthTo code ((netF (x.fst, x.snd.fst, x.snd.snd)).fst * (netF (x.fst, x.snd.fst, x.snd.snd)).snd.fst).toNat)).fst.length :
 Int) =
 (0 : Int) ∧
 ¬(↑(routeF (netF (x.fst, x.snd.fst, x.snd.snd)).fst (netF (x.fst, x.snd.fst, x.snd.snd)).snd.fst (netF (x.fst, x.snd.fst, x.snd.snd)).snd.snd
 (nthTo code ((netF (x.fst, x.snd.fst, x.snd.snd)).fst * (netF (x.fst, x.snd.fst, x.snd.snd)).snd.fst).toNat)).fst.length :
 Int) =
 (0 : Int) ∧
 false = true)) ∧
 (¬(routeF (netF (x.fst, x.snd.fst, x.snd.snd)).fst (netF (x.fst, x.snd.fst, x.snd.snd)).snd.fst (netF (x.fst, x.snd.fst, x.snd.snd)).snd.snd
 (nthTo code ((netF (x.fst, x.snd.fst, x.snd.snd)).fst * (netF (x.fst, x.snd.fst, x.snd.snd)).snd.fst).toNat)).snd =
 (5 : Int) →
 ¬(routeF (netF (x.fst, x.snd.fst, x.snd.snd)).fst (netF (x.fst, x.snd.fst, x.snd.snd)).snd.fst (netF (x.fst, x.snd.fst, x.snd.snd)).snd.snd
 (nthTo code ((netF (x.fst, x.snd.fst, x.snd.snd)).fst * (netF (x.fst, x.snd.fst, x.snd.snd)).snd.fst).toNat)).snd =
 (5 : Int) ∧
 ¬(routeF (netF (x.fst, x.snd.fst, x.snd.snd)).fst (netF (x.fst, x.snd.fst, x.snd.snd)).snd.fst (netF (x.fst, x.snd.fst, x.snd.snd)).snd.snd
 (nthTo code ((netF (x.fst, x.snd.fst, x.snd.snd)).fst * (netF (x.fst, x.snd.fst, x.snd.snd)).snd.fst).toNat)).snd =
 (5 : Int) ∧
 false = true)) ∧
 (¬(netF (x.fst, x.snd.fst, x.snd.snd)).snd.snd < (netF (x.fst, x.snd.fst, x.snd.snd)).fst →
 ¬(netF (x.fst, x.snd.fst, x.snd.snd)).snd.snd < (netF (x.fst, x.snd.fst, x.snd.snd)).fst ∧
 ((nthTo code ((netF (x.fst, x.snd.fst, x.snd.snd)).fst * (netF (x.fst, x.snd.fst, x.snd.snd)).snd.fst).toNat).length ≤ (1000 : Nat) ∧
 (routeF (netF (x.fst, x.snd.fst, x.snd.snd)).fst (netF (x.fst, x.snd.fst, x.snd.snd)).snd.fst (netF (x.fst, x.snd.fst, x.snd.snd)).snd.snd
 (nthTo code ((netF (x.fst, x.snd.fst, x.snd.snd)).fst * (netF (x.fst, x.snd.fst, x.snd.snd)).snd.fst).toNat)).fst.length ≤
 (1000 : Nat)) ∧
 ((routeF (netF (x.fst, x.snd.fst, x.snd.snd)).fst (netF (x.fst, x.snd.fst, x.snd.snd)).snd.fst (netF (x.fst, x.snd.fst, x.snd.snd)).snd.snd
 (nthTo code ((netF (x.fst, x.snd.fst, x.snd.snd)).fst * (netF (x.fst, x.snd.fst, x.snd.snd)).snd.fst).toNat)).snd =
 (0 : Int) →
 (routeF (netF (x.fst, x.snd.fst, x.snd.snd)).fst (netF (x.fst, x.snd.fst, x.snd.snd)).snd.fst (netF (x.fst, x.snd.fst, x.snd.snd)).snd.snd
 (nthTo code ((netF (x.fst, x.snd.fst, x.snd.snd)).fst * (netF (x.fst, x.snd.fst, x.snd.snd)).snd.fst).toNat)).snd =
 (0 : Int) ∧
 (routeF (netF (x.fst, x.snd.fst, x.snd.snd)).fst (netF (x.fst, x.snd.fst, x.snd.snd)).snd.fst (netF (x.fst, x.snd.fst, x.snd.snd)).snd.snd
 (nthTo code ((netF (x.fst, x.snd.fst, x.snd.snd)).fst * (netF (x.fst, x.snd.fst, x.snd.snd)).snd.fst).toNat)).snd =
 (0 : Int) ∧
 ((validF (netF (x.fst, x.snd.fst, x.snd.snd)).fst (netF (x.fst, x.snd.fst, x.snd.snd)).snd.fst (netF (x.fst, x.snd.fst, x.snd.snd)).snd.snd
 (nthTo code ((netF (x.fst, x.snd.fst, x.snd.snd)).fst * (netF (x.fst, x.snd.fst, x.snd.snd)).snd.fst).toNat)
 (routeF (netF (x.fst, x.snd.fst, x.snd.snd)).fst (netF (x.fst, x.snd.fst, x.snd.snd)).snd.fst (netF (x.fst, x.snd.fst, x.snd.snd)).snd.snd
 (nthTo code ((netF (x.fst, x.snd.fst, x.snd.snd)).fst * (netF (x.fst, x.snd.fst, x.snd.snd)).snd.fst).toNat)).fst).fst =
 true →
 (validF (netF (x.fst, x.snd.fst, x.snd.snd)).fst (netF (x.fst, x.snd.fst, x.snd.snd)).snd.fst (netF (x.fst, x.snd.fst, x.snd.snd)).snd.snd
 (nthTo code ((netF (x.fst, x.snd.fst, x.snd.snd)).fst * (netF (x.fst, x.snd.fst, x.snd.snd)).snd.fst).toNat)
 (routeF (netF (x.fst, x.snd.fst, x.snd.snd)).fst (netF (x.fst, x.snd.fst, x.snd.snd)).snd.fst (netF (x.fst, x.snd.fst, x.snd.snd)).snd.snd
 (nthTo code ((netF (x.fst, x.snd.fst, x.snd.snd)).fst * (netF (x.fst, x.snd.fst, x.snd.snd)).snd.fst).toNat)).fst).fst =
 true ∧
 (validF (netF (x.fst, x.snd.fst, x.snd.snd)).fst (netF (x.fst, x.snd.fst, x.snd.snd)).snd.fst (netF (x.fst, x.snd.fst, x.snd.snd)).snd.snd
 (nthTo code ((netF (x.fst, x.snd.fst, x.snd.snd)).fst * (netF (x.fst, x.snd.fst, x.snd.snd)).snd.fst).toNat)
 (routeF (netF (x.fst, x.snd.fst, x.snd.snd)).fst (netF (x.fst, x.snd.fst, x.snd.snd)).snd.fst (netF (x.fst, x.snd.fst, x.snd.snd)).snd.snd
 (nthTo code ((netF (x.fst, x.snd.fst, x.snd.snd)).fst * (netF (x.fst, x.snd.fst, x.snd.snd)).snd.fst).toNat)).fst).fst =
 true ∧
 (validF (netF (x.fst, x.snd.fst, x.snd.snd)).fst (netF (x.fst, x.snd.fst, x.snd.snd)).snd.fst (netF (x.fst, x.snd.fst, x.snd.snd)).snd.snd
 (nthTo code ((netF (x.fst, x.snd.fst, x.snd.snd)).fst * (netF (x.fst, x.snd.fst, x.snd.snd)).snd.fst).toNat)
 (routeF (netF (x.fst, x.snd.fst, x.snd.snd)).fst (netF (x.fst, x.snd.fst, x.snd.snd)).snd.fst (netF (x.fst, x.snd.fst, x.snd.snd)).snd.snd
 (nthTo code ((netF (x.fst, x.snd.fst, x.snd.snd)).fst * (netF (x.fst, x.snd.fst, x.snd.snd)).snd.fst).toNat)).fst).fst =
 true ∧
 (validF (netF (x.fst, x.snd.fst, x.snd.snd)).fst (netF (x.fst, x.snd.fst, x.snd.snd)).snd.fst (netF (x.fst, x.snd.fst, x.snd.snd)).snd.snd
 (nthTo code ((netF (x.fst, x.snd.fst, x.snd.snd)).fst * (netF (x.fst, x.snd.fst, x.snd.snd)).snd.fst).toNat)
 (routeF (netF (x.fst, x.snd.fst, x.snd.snd)).fst (netF (x.fst, x.snd.fst, x.snd.snd)).snd.fst (netF (x.fst, x.snd.fst, x.snd.snd)).snd.snd
 (nthTo code ((netF (x.fst, x.snd.fst, x.snd.snd)).fst * (netF (x.fst, x.snd.fst, x.snd.snd)).snd.fst).toNat)).fst).fst =
 true ∧
 (validF (netF (x.fst, x.snd.fst, x.snd.snd)).fst (netF (x.fst, x.snd.fst, x.snd.snd)).snd.fst (netF (x.fst, x.snd.fst, x.snd.snd)).snd.snd
 (nthTo code ((netF (x.fst, x.snd.fst, x.snd.snd)).fst * (netF (x.fst, x.snd.fst, x.snd.snd)).snd.fst).toNat)
 (routeF (netF (x.fst, x.snd.fst, x.snd.snd)).fst (netF (x.fst, x.snd.fst, x.snd.snd)).snd.fst
 (netF (x.fst, x.snd.fst, x.snd.snd)).snd.snd
 (nthTo code ((netF (x.fst, x.snd.fst, x.snd.snd)).fst * (netF (x.fst, x.snd.fst, x.snd.snd)).snd.fst).toNat)).fst).fst =
 true ∧
 ((validF (netF (x.fst, x.snd.fst, x.snd.snd)).fst (netF (x.fst, x.snd.fst, x.snd.snd)).snd.fst (netF (x.fst, x.snd.fst, x.snd.snd)).snd.snd
 (nthTo code ((netF (x.fst, x.snd.fst, x.snd.snd)).fst * (netF (x.fst, x.snd.fst, x.snd.snd)).snd.fst).toNat)
 (routeF (netF (x.fst, x.snd.fst, x.snd.snd)).fst (netF (x.fst, x.snd.fst, x.snd.snd)).snd.fst
 (netF (x.fst, x.snd.fst, x.snd.snd)).snd.snd
 (nthTo code ((netF (x.fst, x.snd.fst, x.snd.snd)).fst * (netF (x.fst, x.snd.fst, x.snd.snd)).snd.fst).toNat)).fst).snd =
 (0 : Int) →
 (validF (netF (x.fst, x.snd.fst, x.snd.snd)).fst (netF (x.fst, x.snd.fst, x.snd.snd)).snd.fst (netF (x.fst, x.snd.fst, x.snd.snd)).snd.snd
 (nthTo code ((netF (x.fst, x.snd.fst, x.snd.snd)).fst * (netF (x.fst, x.snd.fst, x.snd.snd)).snd.fst).toNat)
 (routeF (netF (x.fst, x.snd.fst, x.snd.snd)).fst (netF (x.fst, x.snd.fst, x.snd.snd)).snd.fst
 (netF (x.fst, x.snd.fst, x.snd.snd)).snd.snd
 (nthTo code ((netF (x.fst, x.snd.fst, x.snd.snd)).fst * (netF (x.fst, x.snd.fst, x.snd.snd)).snd.fst).toNat)).fst).snd =
 (0 : Int) ∧
 (validF (netF (x.fst, x.snd.fst, x.snd.snd)).fst (netF (x.fst, x.snd.fst, x.snd.snd)).snd.fst
 (netF (x.fst, x.snd.fst, x.snd.snd)).snd.snd
 (nthTo code ((netF (x.fst, x.snd.fst, x.snd.snd)).fst * (netF (x.fst, x.snd.fst, x.snd.snd)).snd.fst).toNat)
 (routeF (netF (x.fst, x.snd.fst, x.snd.snd)).fst (netF (x.fst, x.snd.fst, x.snd.snd)).snd.fst
 (netF (x.fst, x.snd.fst, x.snd.snd)).snd.snd
 (nthTo code ((netF (x.fst, x.snd.fst, x.snd.snd)).fst * (netF (x.fst, x.snd.fst, x.snd.snd)).snd.fst).toNat)).fst).snd =
 (0 : Int) ∧
 (validF (netF (x.fst, x.snd.fst, x.snd.snd)).fst (netF (x.fst, x.snd.fst, x.snd.snd)).snd.fst
 (netF (x.fst, x.snd.fst, x.snd.snd)).snd.snd
 (nthTo code ((netF (x.fst, x.snd.fst, x.snd.snd)).fst * (netF (x.fst, x.snd.fst, x.snd.snd)).snd.fst).toNat)
 (routeF (netF (x.fst, x.snd.fst, x.snd.snd)).fst (netF (x.fst, x.snd.fst, x.snd.snd)).snd.fst
 (netF (x.fst, x.snd.fst, x.snd.snd)).snd.snd
 (nthTo code ((netF (x.fst, x.snd.fst, x.snd.snd)).fst * (netF (x.fst, x.snd.fst, x.snd.snd)).snd.fst).toNat)).fst).snd =
 (0 : Int) ∧
 Fits IntKind.i64 ((netF (x.fst, x.snd.fst, x.snd.snd)).fst * (netF (x.fst, x.snd.fst, x.snd.snd)).snd.fst) ∧
 ((routeF (netF (x.fst, x.snd.fst, x.snd.snd)).fst (netF (x.fst, x.snd.fst, x.snd.snd)).snd.fst
 (netF (x.fst, x.snd.fst, x.snd.snd)).snd.snd
 (nthTo code
 ((netF (x.fst, x.snd.fst, x.snd.snd)).fst * (netF (x.fst, x.snd.fst, x.snd.snd)).snd.fst).toNat)).fst.length ≤
 (1000 : Nat) ∧
 (-1000 : Int) ≤ (netF (x.fst, x.snd.fst, x.snd.snd)).snd.snd ∧ (netF (x.fst, x.snd.fst, x.snd.snd)).snd.snd ≤ (1000 : Int)) ∧
 (decide
 (RoutP ((netF (x.fst, x.snd.fst, x.snd.snd)).fst * (netF (x.fst, x.snd.fst, x.snd.snd)).snd.fst)
 (netF (x.fst, x.snd.fst, x.snd.snd)).snd.snd
 (routeF (netF (x.fst, x.snd.fst, x.snd.snd)).fst (netF (x.fst, x.snd.fst, x.snd.snd)).snd.fst
 (netF (x.fst, x.snd.fst, x.snd.snd)).snd.snd
 (nthTo code
 ((netF (x.fst, x.snd.fst, x.snd.snd)).fst * (netF (x.fst, x.snd.fst, x.snd.snd)).snd.fst).toNat)).fst) =
 true →
 decide
 (RoutP ((netF (x.fst, x.snd.fst, x.snd.snd)).fst * (netF (x.fst, x.snd.fst, x.snd.snd)).snd.fst)
 (netF (x.fst, x.snd.fst, x.snd.snd)).snd.snd
 (routeF (netF (x.fst, x.snd.fst, x.snd.snd)).fst (netF (x.fst, x.snd.fst, x.snd.snd)).snd.fst
 (netF (x.fst, x.snd.fst, x.snd.snd)).snd.snd
 (nthTo code
 ((netF (x.fst, x.snd.fst, x.snd.snd)).fst * (netF (x.fst, x.snd.fst, x.snd.snd)).snd.fst).toNat)).fst) =
 true ∧
 decide
 (RoutP ((netF (x.fst, x.snd.fst, x.snd.snd)).fst * (netF (x.fst, x.snd.fst, x.snd.snd)).snd.fst)
 (netF (x.fst, x.snd.fst, x.snd.snd)).snd.snd
 (routeF (netF (x.fst, x.snd.fst, x.snd.snd)).fst (netF (x.fst, x.snd.fst, x.snd.snd)).snd.fst
 (netF (x.fst, x.snd.fst, x.snd.snd)).snd.snd
 (nthTo code
 ((netF (x.fst, x.snd.fst, x.snd.snd)).fst * (netF (x.fst, x.snd.fst, x.snd.snd)).snd.fst).toNat)).fst) =
 true ∧
 decide
 (RoutP ((netF (x.fst, x.snd.fst, x.snd.snd)).fst * (netF (x.fst, x.snd.fst, x.snd.snd)).snd.fst)
 (netF (x.fst, x.snd.fst, x.snd.snd)).snd.snd
 (routeF (netF (x.fst, x.snd.fst, x.snd.snd)).fst (netF (x.fst, x.snd.fst, x.snd.snd)).snd.fst
 (netF (x.fst, x.snd.fst, x.snd.snd)).snd.snd
 (nthTo code
 ((netF (x.fst, x.snd.fst, x.snd.snd)).fst * (netF (x.fst, x.snd.fst, x.snd.snd)).snd.fst).toNat)).fst) =
 true ∧
 (((1 : Int) ≤ (netF (x.fst, x.snd.fst, x.snd.snd)).fst ∧ (netF (x.fst, x.snd.fst, x.snd.snd)).fst ≤ (12 : Int)) ∧
 (nthTo code
 ((netF (x.fst, x.snd.fst, x.snd.snd)).fst * (netF (x.fst, x.snd.fst, x.snd.snd)).snd.fst).toNat).length ≤
 (1000 : Nat) ∧
 (routeF (netF (x.fst, x.snd.fst, x.snd.snd)).fst (netF (x.fst, x.snd.fst, x.snd.snd)).snd.fst
 (netF (x.fst, x.snd.fst, x.snd.snd)).snd.snd
 (nthTo code
 ((netF (x.fst, x.snd.fst, x.snd.snd)).fst *
 (netF (x.fst, x.snd.fst, x.snd.snd)).snd.fst).toNat)).fst.length ≤
 (nthTo code
 ((netF (x.fst, x.snd.fst, x.snd.snd)).fst *
 (netF (x.fst, x.snd.fst, x.snd.snd)).snd.fst).toNat).length ∧
 ∀ (x_1 : Int),
 x_1 ∈
 nthTo code
 ((netF (x.fst, x.snd.fst, x.snd.snd)).fst * (netF (x.fst, x.snd.fst, x.snd.snd)).snd.fst).toNat →
 (0 : Int) ≤ x_1 ∧ x_1 ≤ (1000 : Int)) ∧
 (properF
 (edgesF (netF (x.fst, x.snd.fst, x.snd.snd)).fst
 (nthTo code
 ((netF (x.fst, x.snd.fst, x.snd.snd)).fst * (netF (x.fst, x.snd.fst, x.snd.snd)).snd.fst).toNat))
 (routeF (netF (x.fst, x.snd.fst, x.snd.snd)).fst (netF (x.fst, x.snd.fst, x.snd.snd)).snd.fst
 (netF (x.fst, x.snd.fst, x.snd.snd)).snd.snd
 (nthTo code
 ((netF (x.fst, x.snd.fst, x.snd.snd)).fst *
 (netF (x.fst, x.snd.fst, x.snd.snd)).snd.fst).toNat)).fst =
 true →
 properF
 (edgesF (netF (x.fst, x.snd.fst, x.snd.snd)).fst
 (nthTo code
 ((netF (x.fst, x.snd.fst, x.snd.snd)).fst * (netF (x.fst, x.snd.fst, x.snd.snd)).snd.fst).toNat))
 (routeF (netF (x.fst, x.snd.fst, x.snd.snd)).fst (netF (x.fst, x.snd.fst, x.snd.snd)).snd.fst
 (netF (x.fst, x.snd.fst, x.snd.snd)).snd.snd
 (nthTo code
 ((netF (x.fst, x.snd.fst, x.snd.snd)).fst *
 (netF (x.fst, x.snd.fst, x.snd.snd)).snd.fst).toNat)).fst =
 true ∧
 properF
 (edgesF (netF (x.fst, x.snd.fst, x.snd.snd)).fst
 (nthTo code
 ((netF (x.fst, x.snd.fst, x.snd.snd)).fst * (netF (x.fst, x.snd.fst, x.snd.snd)).snd.fst).toNat))
 (routeF (netF (x.fst, x.snd.fst, x.snd.snd)).fst (netF (x.fst, x.snd.fst, x.snd.snd)).snd.fst
 (netF (x.fst, x.snd.fst, x.snd.snd)).snd.snd
 (nthTo code
 ((netF (x.fst, x.snd.fst, x.snd.snd)).fst *
 (netF (x.fst, x.snd.fst, x.snd.snd)).snd.fst).toNat)).fst =
 true ∧
 properF
 (edgesF (netF (x.fst, x.snd.fst, x.snd.snd)).fst
 (nthTo code
 ((netF (x.fst, x.snd.fst, x.snd.snd)).fst * (netF (x.fst, x.snd.fst, x.snd.snd)).snd.fst).toNat))
 (routeF (netF (x.fst, x.snd.fst, x.snd.snd)).fst (netF (x.fst, x.snd.fst, x.snd.snd)).snd.fst
 (netF (x.fst, x.snd.fst, x.snd.snd)).snd.snd
 (nthTo code
 ((netF (x.fst, x.snd.fst, x.snd.snd)).fst *
 (netF (x.fst, x.snd.fst, x.snd.snd)).snd.fst).toNat)).fst =
 true ∧
 True ∧ true = true) ∧
 (properF
 (edgesF (netF (x.fst, x.snd.fst, x.snd.snd)).fst
 (nthTo code
 ((netF (x.fst, x.snd.fst, x.snd.snd)).fst * (netF (x.fst, x.snd.fst, x.snd.snd)).snd.fst).toNat))
 (routeF (netF (x.fst, x.snd.fst, x.snd.snd)).fst (netF (x.fst, x.snd.fst, x.snd.snd)).snd.fst
 (netF (x.fst, x.snd.fst, x.snd.snd)).snd.snd
 (nthTo code
 ((netF (x.fst, x.snd.fst, x.snd.snd)).fst *
 (netF (x.fst, x.snd.fst, x.snd.snd)).snd.fst).toNat)).fst =
 false →
 properF
 (edgesF (netF (x.fst, x.snd.fst, x.snd.snd)).fst
 (nthTo code
 ((netF (x.fst, x.snd.fst, x.snd.snd)).fst * (netF (x.fst, x.snd.fst, x.snd.snd)).snd.fst).toNat))
 (routeF (netF (x.fst, x.snd.fst, x.snd.snd)).fst (netF (x.fst, x.snd.fst, x.snd.snd)).snd.fst
 (netF (x.fst, x.snd.fst, x.snd.snd)).snd.snd
 (nthTo code
 ((netF (x.fst, x.snd.fst, x.snd.snd)).fst *
 (netF (x.fst, x.snd.fst, x.snd.snd)).snd.fst).toNat)).fst =
 false ∧
 properF
 (edgesF (netF (x.fst, x.snd.fst, x.snd.snd)).fst
 (nthTo code
 ((netF (x.fst, x.snd.fst, x.snd.snd)).fst * (netF (x.fst, x.snd.fst, x.snd.snd)).snd.fst).toNat))
 (routeF (netF (x.fst, x.snd.fst, x.snd.snd)).fst (netF (x.fst, x.snd.fst, x.snd.snd)).snd.fst
 (netF (x.fst, x.snd.fst, x.snd.snd)).snd.snd
 (nthTo code
 ((netF (x.fst, x.snd.fst, x.snd.snd)).fst *
 (netF (x.fst, x.snd.fst, x.snd.snd)).snd.fst).toNat)).fst =
 false ∧
 properF
 (edgesF (netF (x.fst, x.snd.fst, x.snd.snd)).fst
 (nthTo code
 ((netF (x.fst, x.snd.fst, x.snd.snd)).fst * (netF (x.fst, x.snd.fst, x.snd.snd)).snd.fst).toNat))
 (routeF (netF (x.fst, x.snd.fst, x.snd.snd)).fst (netF (x.fst, x.snd.fst, x.snd.snd)).snd.fst
 (netF (x.fst, x.snd.fst, x.snd.snd)).snd.snd
 (nthTo code
 ((netF (x.fst, x.snd.fst, x.snd.snd)).fst *
 (netF (x.fst, x.snd.fst, x.snd.snd)).snd.fst).toNat)).fst =
 false ∧
 false = true)) ∧
 (decide
 (RoutP ((netF (x.fst, x.snd.fst, x.snd.snd)).fst * (netF (x.fst, x.snd.fst, x.snd.snd)).snd.fst)
 (netF (x.fst, x.snd.fst, x.snd.snd)).snd.snd
 (routeF (netF (x.fst, x.snd.fst, x.snd.snd)).fst (netF (x.fst, x.snd.fst, x.snd.snd)).snd.fst
 (netF (x.fst, x.snd.fst, x.snd.snd)).snd.snd
 (nthTo code
 ((netF (x.fst, x.snd.fst, x.snd.snd)).fst * (netF (x.fst, x.snd.fst, x.snd.snd)).snd.fst).toNat)).fst) =
 false →
 decide
 (RoutP ((netF (x.fst, x.snd.fst, x.snd.snd)).fst * (netF (x.fst, x.snd.fst, x.snd.snd)).snd.fst)
 (netF (x.fst, x.snd.fst, x.snd.snd)).snd.snd
 (routeF (netF (x.fst, x.snd.fst, x.snd.snd)).fst (netF (x.fst, x.snd.fst, x.snd.snd)).snd.fst
 (netF (x.fst, x.snd.fst, x.snd.snd)).snd.snd
 (nthTo code
 ((netF (x.fst, x.snd.fst, x.snd.snd)).fst * (netF (x.fst, x.snd.fst, x.snd.snd)).snd.fst).toNat)).fst) =
 false ∧
 decide
 (RoutP ((netF (x.fst, x.snd.fst, x.snd.snd)).fst * (netF (x.fst, x.snd.fst, x.snd.snd)).snd.fst)
 (netF (x.fst, x.snd.fst, x.snd.snd)).snd.snd
 (routeF (netF (x.fst, x.snd.fst, x.snd.snd)).fst (netF (x.fst, x.snd.fst, x.snd.snd)).snd.fst
 (netF (x.fst, x.snd.fst, x.snd.snd)).snd.snd
 (nthTo code
 ((netF (x.fst, x.snd.fst, x.snd.snd)).fst * (netF (x.fst, x.snd.fst, x.snd.snd)).snd.fst).toNat)).fst) =
 false ∧
 decide
 (RoutP ((netF (x.fst, x.snd.fst, x.snd.snd)).fst * (netF (x.fst, x.snd.fst, x.snd.snd)).snd.fst)
 (netF (x.fst, x.snd.fst, x.snd.snd)).snd.snd
 (routeF (netF (x.fst, x.snd.fst, x.snd.snd)).fst (netF (x.fst, x.snd.fst, x.snd.snd)).snd.fst
 (netF (x.fst, x.snd.fst, x.snd.snd)).snd.snd
 (nthTo code
 ((netF (x.fst, x.snd.fst, x.snd.snd)).fst * (netF (x.fst, x.snd.fst, x.snd.snd)).snd.fst).toNat)).fst) =
 false ∧
 false = true)) ∧
 (¬(validF (netF (x.fst, x.snd.fst, x.snd.snd)).fst (netF (x.fst, x.snd.fst, x.snd.snd)).snd.fst (netF (x.fst, x.snd.fst, x.snd.snd)).snd.snd
 (nthTo code ((netF (x.fst, x.snd.fst, x.snd.snd)).fst * (netF (x.fst, x.snd.fst, x.snd.snd)).snd.fst).toNat)
 (routeF (netF (x.fst, x.snd.fst, x.snd.snd)).fst (netF (x.fst, x.snd.fst, x.snd.snd)).snd.fst
 (netF (x.fst, x.snd.fst, x.snd.snd)).snd.snd
 (nthTo code ((netF (x.fst, x.snd.fst, x.snd.snd)).fst * (netF (x.fst, x.snd.fst, x.snd.snd)).snd.fst).toNat)).fst).snd =
 (0 : Int) →
 ¬(validF (netF (x.fst, x.snd.fst, x.snd.snd)).fst (netF (x.fst, x.snd.fst, x.snd.snd)).snd.fst
 (netF (x.fst, x.snd.fst, x.snd.snd)).snd.snd
 (nthTo code ((netF (x.fst, x.snd.fst, x.snd.snd)).fst * (netF (x.fst, x.snd.fst, x.snd.snd)).snd.fst).toNat)
 (routeF (netF (x.fst, x.snd.fst, x.snd.snd)).fst (netF (x.fst, x.snd.fst, x.snd.snd)).snd.fst
 (netF (x.fst, x.snd.fst, x.snd.snd)).snd.snd
 (nthTo code ((netF (x.fst, x.snd.fst, x.snd.snd)).fst * (netF (x.fst, x.snd.fst, x.snd.snd)).snd.fst).toNat)).fst).snd =
 (0 : Int) ∧
 ¬(validF (netF (x.fst, x.snd.fst, x.snd.snd)).fst (netF (x.fst, x.snd.fst, x.snd.snd)).snd.fst
 (netF (x.fst, x.snd.fst, x.snd.snd)).snd.snd
 (nthTo code ((netF (x.fst, x.snd.fst, x.snd.snd)).fst * (netF (x.fst, x.snd.fst, x.snd.snd)).snd.fst).toNat)
 (routeF (netF (x.fst, x.snd.fst, x.snd.snd)).fst (netF (x.fst, x.snd.fst, x.snd.snd)).snd.fst
 (netF (x.fst, x.snd.fst, x.snd.snd)).snd.snd
 (nthTo code ((netF (x.fst, x.snd.fst, x.snd.snd)).fst * (netF (x.fst, x.snd.fst, x.snd.snd)).snd.fst).toNat)).fst).snd =
 (0 : Int) ∧
 ¬(validF (netF (x.fst, x.snd.fst, x.snd.snd)).fst (netF (x.fst, x.snd.fst, x.snd.snd)).snd.fst
 (netF (x.fst, x.snd.fst, x.snd.snd)).snd.snd
 (nthTo code ((netF (x.fst, x.snd.fst, x.snd.snd)).fst * (netF (x.fst, x.snd.fst, x.snd.snd)).snd.fst).toNat)
 (routeF (netF (x.fst, x.snd.fst, x.snd.snd)).fst (netF (x.fst, x.snd.fst, x.snd.snd)).snd.fst
 (netF (x.fst, x.snd.fst, x.snd.snd)).snd.snd
 (nthTo code ((netF (x.fst, x.snd.fst, x.snd.snd)).fst * (netF (x.fst, x.snd.fst, x.snd.snd)).snd.fst).toNat)).fst).snd =
 (0 : Int) ∧
 false = true)) ∧
 ((validF (netF (x.fst, x.snd.fst, x.snd.snd)).fst (netF (x.fst, x.snd.fst, x.snd.snd)).snd.fst (netF (x.fst, x.snd.fst, x.snd.snd)).snd.snd
 (nthTo code ((netF (x.fst, x.snd.fst, x.snd.snd)).fst * (netF (x.fst, x.snd.fst, x.snd.snd)).snd.fst).toNat)
 (routeF (netF (x.fst, x.snd.fst, x.snd.snd)).fst (netF (x.fst, x.snd.fst, x.snd.snd)).snd.fst (netF (x.fst, x.snd.fst, x.snd.snd)).snd.snd
 (nthTo code ((netF (x.fst, x.snd.fst, x.snd.snd)).fst * (netF (x.fst, x.snd.fst, x.snd.snd)).snd.fst).toNat)).fst).fst =
 false →
 (validF (netF (x.fst, x.snd.fst, x.snd.snd)).fst (netF (x.fst, x.snd.fst, x.snd.snd)).snd.fst (netF (x.fst, x.snd.fst, x.snd.snd)).snd.snd
 (nthTo code ((netF (x.fst, x.snd.fst, x.snd.snd)).fst * (netF (x.fst, x.snd.fst, x.snd.snd)).snd.fst).toNat)
 (routeF (netF (x.fst, x.snd.fst, x.snd.snd)).fst (netF (x.fst, x.snd.fst, x.snd.snd)).snd.fst (netF (x.fst, x.snd.fst, x.snd.snd)).snd.snd
 (nthTo code ((netF (x.fst, x.snd.fst, x.snd.snd)).fst * (netF (x.fst, x.snd.fst, x.snd.snd)).snd.fst).toNat)).fst).fst =
 false ∧
 (validF (netF (x.fst, x.snd.fst, x.snd.snd)).fst (netF (x.fst, x.snd.fst, x.snd.snd)).snd.fst (netF (x.fst, x.snd.fst, x.snd.snd)).snd.snd
 (nthTo code ((netF (x.fst, x.snd.fst, x.snd.snd)).fst * (netF (x.fst, x.snd.fst, x.snd.snd)).snd.fst).toNat)
 (routeF (netF (x.fst, x.snd.fst, x.snd.snd)).fst (netF (x.fst, x.snd.fst, x.snd.snd)).snd.fst (netF (x.fst, x.snd.fst, x.snd.snd)).snd.snd
 (nthTo code ((netF (x.fst, x.snd.fst, x.snd.snd)).fst * (netF (x.fst, x.snd.fst, x.snd.snd)).snd.fst).toNat)).fst).fst =
 false ∧
 (validF (netF (x.fst, x.snd.fst, x.snd.snd)).fst (netF (x.fst, x.snd.fst, x.snd.snd)).snd.fst (netF (x.fst, x.snd.fst, x.snd.snd)).snd.snd
 (nthTo code ((netF (x.fst, x.snd.fst, x.snd.snd)).fst * (netF (x.fst, x.snd.fst, x.snd.snd)).snd.fst).toNat)
 (routeF (netF (x.fst, x.snd.fst, x.snd.snd)).fst (netF (x.fst, x.snd.fst, x.snd.snd)).snd.fst (netF (x.fst, x.snd.fst, x.snd.snd)).snd.snd
 (nthTo code ((netF (x.fst, x.snd.fst, x.snd.snd)).fst * (netF (x.fst, x.snd.fst, x.snd.snd)).snd.fst).toNat)).fst).fst =
 false ∧
 (validF (netF (x.fst, x.snd.fst, x.snd.snd)).fst (netF (x.fst, x.snd.fst, x.snd.snd)).snd.fst (netF (x.fst, x.snd.fst, x.snd.snd)).snd.snd
 (nthTo code ((netF (x.fst, x.snd.fst, x.snd.snd)).fst * (netF (x.fst, x.snd.fst, x.snd.snd)).snd.fst).toNat)
 (routeF (netF (x.fst, x.snd.fst, x.snd.snd)).fst (netF (x.fst, x.snd.fst, x.snd.snd)).snd.fst (netF (x.fst, x.snd.fst, x.snd.snd)).snd.snd
 (nthTo code ((netF (x.fst, x.snd.fst, x.snd.snd)).fst * (netF (x.fst, x.snd.fst, x.snd.snd)).snd.fst).toNat)).fst).fst =
 false ∧
 (validF (netF (x.fst, x.snd.fst, x.snd.snd)).fst (netF (x.fst, x.snd.fst, x.snd.snd)).snd.fst (netF (x.fst, x.snd.fst, x.snd.snd)).snd.snd
 (nthTo code ((netF (x.fst, x.snd.fst, x.snd.snd)).fst * (netF (x.fst, x.snd.fst, x.snd.snd)).snd.fst).toNat)
 (routeF (netF (x.fst, x.snd.fst, x.snd.snd)).fst (netF (x.fst, x.snd.fst, x.snd.snd)).snd.fst
 (netF (x.fst, x.snd.fst, x.snd.snd)).snd.snd
 (nthTo code ((netF (x.fst, x.snd.fst, x.snd.snd)).fst * (netF (x.fst, x.snd.fst, x.snd.snd)).snd.fst).toNat)).fst).fst =
 false ∧
 false = true)) ∧
 (¬(routeF (netF (x.fst, x.snd.fst, x.snd.snd)).fst (netF (x.fst, x.snd.fst, x.snd.snd)).snd.fst (netF (x.fst, x.snd.fst, x.snd.snd)).snd.snd
 (nthTo code ((netF (x.fst, x.snd.fst, x.snd.snd)).fst * (netF (x.fst, x.snd.fst, x.snd.snd)).snd.fst).toNat)).snd =
 (0 : Int) →
 ¬(routeF (netF (x.fst, x.snd.fst, x.snd.snd)).fst (netF (x.fst, x.snd.fst, x.snd.snd)).snd.fst (netF (x.fst, x.snd.fst, x.snd.snd)).snd.snd
 (nthTo code ((netF (x.fst, x.snd.fst, x.snd.snd)).fst * (netF (x.fst, x.snd.fst, x.snd.snd)).snd.fst).toNat)).snd =
 (0 : Int) ∧
 ¬(routeF (netF (x.fst, x.snd.fst, x.snd.snd)).fst (netF (x.fst, x.snd.fst, x.snd.snd)).snd.fst (netF (x.fst, x.snd.fst, x.snd.snd)).snd.snd
 (nthTo code ((netF (x.fst, x.snd.fst, x.snd.snd)).fst * (netF (x.fst, x.snd.fst, x.snd.snd)).snd.fst).toNat)).snd =
 (0 : Int) ∧
 false = true))) := by
 kernel_rfl

end Go.SX.Pa

/- Chapter 06, part 15: routes: the contracts; PatchRoutes and PatchSlepian. -/
namespace Go.SX.Pa
open Go Go.Proofs

theorem le_minTo (l : List Int) (c : Int) : (k : Nat) → (c ≤ minTo l k ↔ c ≤ l.getD 0 0 ∧ ∀ i, i < k → c ≤ l.getD i 0)
  | 0 => by simp [minTo]
  | k + 1 => by
    have ih := le_minTo l c k
    have e : c ≤ minTo l (k + 1) ↔ c ≤ minTo l k ∧ c ≤ l.getD k 0 := by
      show c ≤ min (minTo l k) (l.getD k 0) ↔ _
      omega
    rw [e, ih]
    constructor
    · rintro ⟨⟨h1, h2⟩, h3⟩
      exact ⟨h1, all_below h2 h3⟩
    · rintro ⟨h1, h2⟩
      exact ⟨⟨h1, fun i hi => h2 i (by omega)⟩, h2 k (by omega)⟩
theorem maxTo_lt (l : List Int) (c : Int) : (k : Nat) → (maxTo l k < c ↔ l.getD 0 0 < c ∧ ∀ i, i < k → l.getD i 0 < c)
  | 0 => by simp [maxTo]
  | k + 1 => by
    have ih := maxTo_lt l c k
    have e : maxTo l (k + 1) < c ↔ maxTo l k < c ∧ l.getD k 0 < c := by
      show max (maxTo l k) (l.getD k 0) < c ↔ _
      omega
    rw [e, ih]
    constructor
    · rintro ⟨⟨h1, h2⟩, h3⟩
      exact ⟨h1, all_below h2 h3⟩
    · rintro ⟨h1, h2⟩
      exact ⟨⟨h1, fun i hi => h2 i (by omega)⟩, h2 k (by omega)⟩
theorem all_getD {l : List Int} {P : Int → Prop} (h : ∀ i, i < l.length → P (l.getD i 0)) : ∀ x ∈ l, P x := fun x hx => by
  obtain ⟨i, hi⟩ := List.getElem?_of_mem hx
  have hl : i < l.length := (List.getElem?_eq_some_iff.1 hi).1
  have := h i hl
  rwa [List.getD_eq_getElem?_getD, hi] at this

theorem ok64 : p64.OK Tryd.prog := p64.ok C64 (fun _ => cx0) (fn := Tryd.f64) rfl (by decide +kernel) rfl fun (l : List Int) hp => by
  refine (g64_eq l).mpr ?_
  have hp : 1 ≤ l.length ∧ l.length ≤ 1000 := hp
  simp only [pp1, eq_self, and_true, true_and, and_self, Int.toNat_natCast]
  refine ⟨fun h => by omega, fun h => ⟨by omega, ⟨1, by omega, rfl, ?_⟩, fun k hk => ⟨fun h1 => ⟨by omega, fits_nat (by omega), k + 1, by omega, by omega, by omega, rfl⟩, fun h1 => ?_⟩⟩⟩
  · simp [minTo]
  · rw [show k = l.length by omega]
theorem ok65 : p65.OK Tryd.prog := p65.ok C65 (fun _ => cx0) (fn := Tryd.f65) rfl (by decide +kernel) rfl fun (l : List Int) hp => by
  refine (g65_eq l).mpr ?_
  have hp : 1 ≤ l.length ∧ l.length ≤ 1000 := hp
  simp only [pp1, eq_self, and_true, true_and, and_self, Int.toNat_natCast]
  refine ⟨fun h => by omega, fun h => ⟨by omega, ⟨1, by omega, rfl, ?_⟩, fun k hk => ⟨fun h1 => ⟨by omega, fits_nat (by omega), k + 1, by omega, by omega, by omega, rfl⟩, fun h1 => ?_⟩⟩⟩
  · simp [maxTo]
  · rw [show k = l.length by omega]

theorem touch_edges {n : Int} {perm l : List Int} {i j : Nat} (hi : i < perm.length) (hj : j < perm.length) : touch (edgesF n perm) l i j = decide (l.getD j 0 = l.getD i 0 ∧ ((j : Int) / n = (i : Int) / n ∨ perm.getD j 0 / n = perm.getD i 0 / n)) := by
  unfold touch
  rw [edgesF_getD hi, edgesF_getD hj]
theorem ok43 : p43.OK Tryd.prog := p43.ok C43 (fun _ => cx0) (fn := Tryd.f43) rfl (by decide +kernel) rfl fun (p : Int × List Int × List Int) hp => by
  obtain ⟨n, perm, l⟩ := p
  refine (g43_eq n perm l).mpr ?_
  have hp : (1 ≤ n ∧ n ≤ 12) ∧ perm.length ≤ 1000 ∧ l.length ≤ perm.length ∧ ∀ x ∈ perm, 0 ≤ x ∧ x ≤ 1000 := hp
  obtain ⟨q0, q1, q2, q3⟩ := hp
  simp only [pp1, eq_self, and_true, true_and, and_self, Int.toNat_natCast]
  have hq : ∀ x : Int, 0 ≤ x → x ≤ 1000 → Fits .i64 (x / n) := fun x h0 h1 => by
    have d1 : x / n ≤ x := Int.ediv_le_self _ h0
    have d2 : 0 ≤ x / n := Int.ediv_nonneg h0 (by omega)
    exact fits_i64 (by omega) (by omega)
  refine ⟨⟨0, ⟨by omega, fun a ha => by omega⟩, rfl⟩, fun i ⟨hi, hok⟩ => ⟨fun h1 => ⟨⟨0, ⟨by omega, fun a ha => by omega⟩, rfl⟩, fun j ⟨hj, hno⟩ => ⟨fun h2 => ?_, fun h2 => ?_⟩⟩, fun h1 => ?_⟩⟩
  · have hi' : i < l.length := by omega
    have hj' : j < i := by omega
    have ht := touch_edges (n := n) (perm := perm) (l := l) (i := i) (j := j) (by omega) (by omega)
    have pi := q3 _ (getD_mem perm 0 (k := i) (by omega))
    have pj := q3 _ (getD_mem perm 0 (k := j) (by omega))
    have step : touch (edgesF n perm) l i j = false → Fits IntKind.i64 ((j : Int) + 1) ∧ ∃ x', (x' ≤ i ∧ ∀ (b : Nat), b < x' → touch (edgesF n perm) l i b = false) ∧ i - x' < i - j ∧ (j : Int) + 1 = (x' : Nat) := fun h =>
      ⟨fits_nat (by omega), j + 1, ⟨by omega, all_below hno h⟩, by omega, by simp⟩
    rw [ht] at step
    refine ⟨by omega, by omega, fun e1 => ⟨by omega, hq _ (by omega) (by omega), by omega, hq _ (by omega) (by omega), fun e2 => ?_, fun e2 => ⟨by omega, by omega, hq _ pi.1 pi.2, by omega, by omega, hq _ pj.1 pj.2, fun e3 => ?_, fun e3 => step ?_⟩⟩, fun e1 => step ?_⟩
    · exact (proper_bad hi' (touch_clash hj' (by rw [ht]; exact decide_eq_true ⟨e1.symm, .inl e2.symm⟩))).symm
    · exact (proper_bad hi' (touch_clash hj' (by rw [ht]; exact decide_eq_true ⟨e1.symm, .inr e3.symm⟩))).symm
    · exact decide_eq_false fun h => h.2.elim (fun h => e2 h.symm) (fun h => e3 h.symm)
    · exact decide_eq_false fun h => e1 h.1.symm
  · have : j = i := by omega
    subst this
    exact ⟨fits_nat (by omega), j + 1, ⟨by omega, all_below hok (no_clash hno)⟩, by omega, by simp⟩
  · have : i = l.length := by omega
    subst this
    exact (proper_good hok).symm

theorem rr_eq {n m : Int} {perm l : List Int} (h : ¬ m < n) : rrF n m perm l = refC (edgesF n perm) m l := by unfold rrF; rw [if_neg h]
theorem ok44 : NilOK Tryd.prog n44 := n44.rec_ok (fn := Tryd.f44) m44 C44 (fun _ h => cx2 (PC.OK.ci ok43) h.ci) rfl (by decide +kernel) rfl fun (p : Int × Int × List Int × List Int) hp => by
  obtain ⟨n, m, perm, l⟩ := p
  refine (g44_eq n m perm l).mpr ?_
  have hp : ((1 ≤ n ∧ n ≤ 12) ∧ perm.length ≤ 1000 ∧ l.length ≤ perm.length ∧ ∀ x ∈ perm, 0 ≤ x ∧ x ≤ 1000) ∧ 0 ≤ m ∧ m ≤ 12 := hp
  obtain ⟨⟨q0, q1, q2, q3⟩, q4, q5⟩ := hp
  have hel := edgesF_length n perm
  simp only [pp1, eq_self, and_true, true_and, and_self]
  refine ⟨fun h => by unfold rrF; rw [if_pos h], fun hmn => ?_⟩
  simp only [rr_eq hmn]
  refine ⟨⟨q0, q1, q2, q3⟩, fun h => refC_bad (by simpa using h), fun h => ?_⟩
  have h : properF (edgesF n perm) l = true := by simpa using h
  refine ⟨fun h1 => refC_done h (by omega), fun h1 => ⟨⟨0, ⟨by omega, fun c hc => by omega⟩, rfl⟩, fun k ⟨hk, hno⟩ => ⟨fun h2 => ?_, fun h2 => ?_⟩⟩⟩
  · have hl1 : (l ++ [(k : Int)]).length = l.length + 1 := by simp
    refine ⟨by unfold Small; omega, by unfold Small; omega, ⟨⟨⟨q0, q1, by omega, q3⟩, by omega, by omega⟩, ?_⟩, fun h3 => ⟨fits_nat (by omega), k + 1, ⟨by omega, fun c hc => ?_⟩, by omega, by simp⟩, fun ys h3 => ⟨fun e => ?_, ?_⟩⟩
    · show perm.length - (l ++ [(k : Int)]).length < perm.length - l.length
      omega
    · rcases Nat.lt_succ_iff_lt_or_eq.1 hc with h4 | h4
      · exact hno c h4
      · subst h4; exact h3
    · have := refG_length _ _ _ _ _ h3
      rw [e] at this
      simp at this
      omega
    · rw [refC_step h (by omega)]
      exact findSome_at (x := k) (by omega) (fun c hc => hno c hc) h3
  · rw [refC_step h (by omega)]
    exact findSome_no fun c hc => hno c (by omega)

theorem ok42 : p42.OK Tryd.prog := p42.ok (fun _ => cx [p36.ci] []) (fun _ => cx1 (PC.OK.ci ok36)) (fn := Tryd.f42) rfl (by decide +kernel) rfl fun (p : Int × Int × List Int) hp => by
  obtain ⟨n, m, l⟩ := p
  refine (g42_eq n m l).mpr ?_
  have hp : l.length ≤ 1000 ∧ -1000 ≤ m ∧ m ≤ 1000 := hp
  exact ⟨hp, rfl⟩

theorem read_ok {n r m : Int} {perm : List Int} (h1 : ClosP n r m) (h2 : PermP perm (n * r)) : readF n r m perm = ((n, r, m), 0) := by
  unfold readF; rw [if_pos h1, if_pos h2]
theorem ok41 : p41.OK Tryd.prog := p41.ok C41 (fun _ => cx_ok (cs := [p61.ci, p64.ci, p65.ci, p62.ci, p66.ci]) ⟨PC.OK.ci ok61, PC.OK.ci ok64, PC.OK.ci ok65, PC.OK.ci ok62, PC.OK.ci ok66, trivial⟩ _) (fn := Tryd.f41) rfl (by decide +kernel) rfl fun (p : Int × Int × Int × List Int × List Int) hp => by
  obtain ⟨n, r, m, perm, l⟩ := p
  refine (g41_eq n r m perm l).mpr ?_
  have hp : perm.length ≤ 1000 ∧ l.length ≤ 1000 := hp
  simp only [pp1, eq_self, and_true, true_and, and_self, Int.toNat_natCast]
  unfold validF
  by_cases h1 : ClosP n r m
  · by_cases h2 : PermP perm (n * r)
    · rw [read_ok h1 h2, if_pos h1, if_pos h2]
      obtain ⟨p1, p2, p3⟩ := h2
      obtain ⟨c1, c2, c3, c4⟩ := h1
      have hn1 : n * 1 ≤ n * r := Int.mul_le_mul_of_nonneg_left c2.1 (by omega)
      have hel := edgesF_length n perm
      refine ⟨by omega, fun h => absurd rfl h, fun _ => ⟨fun h3 => ?_, fun h3 => ⟨by omega, fun h4 => ?_, fun h4 => ⟨by omega, fun h5 => ?_, fun h5 => ?_⟩⟩⟩⟩
      · rw [if_neg fun h => h3 (by rw [h.2, p1])]
      · rw [if_neg fun h => ?_]
        have hh : ¬ 0 ≤ minTo l l.length := by omega
        rw [le_minTo] at hh
        exact hh ⟨(h.1 _ (getD_mem l 0 (by omega))).1, fun i hi => (h.1 _ (getD_mem l 0 hi)).1⟩
      · rw [if_neg fun h => ?_]
        have hh : ¬ maxTo l l.length < m := by omega
        rw [maxTo_lt] at hh
        exact hh ⟨(h.1 _ (getD_mem l 0 (by omega))).2, fun i hi => (h.1 _ (getD_mem l 0 hi)).2⟩
      · have hR : RoutP (n * r) m l := by
          have g1 := ((le_minTo l 0 l.length).1 (by omega)).2
          have g2 := ((maxTo_lt l m l.length).1 (by omega)).2
          exact ⟨all_getD fun i hi => ⟨g1 i hi, g2 i hi⟩, by omega⟩
        rw [if_pos hR]
        refine ⟨⟨by omega, by simp only; omega, by simp only; omega, fun x hx => by have := p2 x hx; omega⟩, ⟨0, ⟨by omega, fun a ha => by omega⟩, rfl⟩, fun k ⟨hk, hok⟩ => ⟨fun q1 => ⟨⟨by simp only; omega, by omega, by omega, by simp only; omega, by simp only at q1; omega⟩, fun q2 => ?_, fun q2 => ⟨fits_nat (by omega), k + 1, ⟨by simp only at q1; omega, all_below hok q2⟩, by simp only at q1; omega, by omega⟩⟩, fun q1 => ?_⟩⟩
        · rw [proper_bad (i := k) (by simp only at q1; omega) q2]
        · rw [proper_good fun a ha => hok a (by simp only at q1; omega)]
    · have : readF n r m perm = ((n, r, m), 2) := by unfold readF; rw [if_pos h1, if_neg h2]
      rw [this, if_pos h1, if_neg h2]
      exact ⟨by omega, fun _ => rfl, fun h => absurd (show ¬ (2 : Int) = 0 by omega) h⟩
  · have : readF n r m perm = ((n, r, m), 1) := by unfold readF; rw [if_neg h1]
    rw [this, if_neg h1]
    exact ⟨by omega, fun _ => rfl, fun h => absurd (show ¬ (1 : Int) = 0 by omega) h⟩

theorem valid_in {n r m : Int} {perm l : List Int} (h1 : ClosP n r m) (h2 : PermP perm (n * r)) (h3 : RoutP (n * r) m l) : validF n r m perm l = (properF (edgesF n perm) l, 0) := by
  unfold validF; rw [if_pos h1, if_pos h2, if_pos h3]
theorem valid_out {n r m : Int} {perm l : List Int} (h1 : ClosP n r m) (h2 : PermP perm (n * r)) (h3 : ¬ RoutP (n * r) m l) : validF n r m perm l = (false, 2) := by
  unfold validF; rw [if_pos h1, if_pos h2, if_neg h3]
theorem route_rr {n r m : Int} {perm : List Int} (h1 : ClosP n r m) (h2 : PermP perm (n * r)) : routeF n r m perm = match rrF n m perm [] with | some l => (l, 0) | none => ([], 5) := by
  have h1' := h1
  obtain ⟨c1, c2, c3, c4⟩ := h1'
  have hd := perm_deg c1.1 c2.1 h2
  unfold routeF
  rw [if_pos h1, if_pos h2]
  unfold colF rrF
  rw [hd]
  by_cases h : m < n
  · rw [if_neg (by omega), if_pos h]
  · rw [if_pos (by omega), if_neg h, refC_nil]
    cases extR (edgesF n perm) m [] <;> rfl
theorem rr_length {n m : Int} {perm l : List Int} (h : rrF n m perm [] = some l) : l.length = perm.length := by
  unfold rrF at h
  split at h
  · cases h
  · have := refG_length _ _ _ _ _ h
    have hel := edgesF_length n perm
    simp at this
    omega

theorem ok10 : p10.OK Tryd.prog := p10.ok (fun _ => cx [p17.ci, p41.ci, p38.ci, p24.ci, p22.ci, p25.ci, p42.ci, p43.ci, n44.ci, p28.ci] []) (fun _ => cx_ok (cs := [p17.ci, p41.ci, p38.ci, p24.ci, p22.ci, p25.ci, p42.ci, p43.ci, n44.ci, p28.ci]) ⟨PC.OK.ci ok17, PC.OK.ci ok41, PC.OK.ci ok38, PC.OK.ci ok24, PC.OK.ci ok22, PC.OK.ci ok25, PC.OK.ci ok42, PC.OK.ci ok43, ok44.ci, PC.OK.ci ok28, trivial⟩ _) (fn := Tryd.f10) rfl (by decide +kernel) rfl fun (p : (Int × Int × Int) × List Int × List Int) _ => by
  obtain ⟨⟨n, r, m⟩, x, y⟩ := p
  refine (g10_eq (n, r, m) x y).mpr ?_
  simp only [pp1, eq_self, and_true, true_and, and_self]
  have hx : (x.take 13).length ≤ 13 := by simp; omega
  have hy : (y.take 13).length ≤ 13 := by simp; omega
  generalize x.take 13 = perm at hx ⊢
  generalize y.take 13 = l at hy ⊢
  refine ⟨⟨by omega, by omega⟩, by omega, ?_⟩
  by_cases h1 : ClosP n r m
  · have hc := h1
    obtain ⟨c1, c2, c3, c4⟩ := hc
    have hm0 := mul_fits c1.1 c1.2 c2.1 c2.2
    have hm1 : 0 ≤ n * r := Int.mul_nonneg (by omega) (by omega)
    simp only [h1, decide_true, Bool.not_true]
    refine ⟨fun h => (by cases h), fun _ => ⟨hm0, ⟨by omega, by omega, by omega⟩, ?_⟩⟩
    by_cases h2 : PermP perm (n * r)
    · simp only [h2, decide_true, Bool.not_true]
      refine ⟨fun h => (by cases h), fun _ => ⟨hm0, ⟨by omega, by omega, by omega⟩, ?_⟩⟩
      have hrr := route_rr h1 h2
      have hlen := fun l h => rr_length (n := n) (m := m) (perm := perm) (l := l) h
      have hp1 : perm.length ≤ 1000 := by omega
      have hn1 : n * 1 ≤ n * r := Int.mul_le_mul_of_nonneg_left c2.1 (by omega)
      obtain ⟨p1, p2, p3⟩ := h2
      have hp3 : ∀ x ∈ perm, 0 ≤ x ∧ x ≤ 1000 := fun x hx => by have := p2 x hx; omega
      have tail : (((1 ≤ n ∧ n ≤ 12) ∧ perm.length ≤ 1000 ∧ 0 ≤ perm.length ∧ ∀ x ∈ perm, 0 ≤ x ∧ x ≤ 1000) ∧ 0 ≤ m ∧ m ≤ 12) := ⟨⟨c1, hp1, by omega, hp3⟩, by omega, by omega⟩
      have fin1 : rrF n m perm [] = none → routeF n r m perm = ([], 5) := fun h => by rw [hrr, h]
      have fin2 : ∀ ys, rrF n m perm [] = some ys → routeF n r m perm = (ys, 0) ∧ ys ≠ [] ∧ ys.length ≤ 1000 := fun ys h => by
        have := hlen ys h
        exact ⟨by rw [hrr, h], fun e => by rw [e] at this; simp at this; omega, by omega⟩
      have goalT : (rrF n m perm [] = none → (((routeF n r m perm).1.length : Int) = 0 → ((routeF n r m perm).2 = 5 → (routeF n r m perm).2 = 5) ∧ (¬ (routeF n r m perm).2 = 5 → false = true)) ∧ (¬ ((routeF n r m perm).1.length : Int) = 0 → false = true)) ∧
          ∀ ys, rrF n m perm [] = some ys → ys ≠ [] ∧ ((routeF n r m perm).1.length ≤ 1000 ∧ ys.length ≤ 1000) ∧ (decide ((routeF n r m perm).1 = ys) = true → ((routeF n r m perm).2 = 0 → (routeF n r m perm).2 = 0) ∧ (¬ (routeF n r m perm).2 = 0 → false = true)) ∧ (decide ((routeF n r m perm).1 = ys) = false → false = true) := by
        refine ⟨fun h => ?_, fun ys h => ?_⟩
        · rw [fin1 h]; simp
        · obtain ⟨q1, q2, q3⟩ := fin2 ys h
          rw [q1]; simp [q2, q3]
      by_cases h3 : RoutP (n * r) m l
      · rw [valid_in h1 ⟨p1, p2, p3⟩ h3]
        simp only [h3, decide_true, Bool.not_true]
        have hll : l.length ≤ perm.length := by have := h3.2; omega
        exact ⟨fun h => (by cases h), fun _ => ⟨⟨c1, hp1, hll, hp3⟩, fun h => absurd trivial h, fun _ => ⟨fun h => absurd trivial h, fun _ => ⟨tail, goalT⟩⟩⟩⟩
      · rw [valid_out h1 ⟨p1, p2, p3⟩ h3]
        simp only [h3, decide_false, Bool.not_false]
        exact ⟨fun _ => ⟨fun h => h, fun _ => ⟨fun h => absurd trivial h, fun _ => ⟨tail, goalT⟩⟩⟩, fun h => by cases h⟩
    · have e1 : validF n r m perm l = (false, 2) := by unfold validF; rw [if_pos h1, if_neg h2]
      have e2 : routeF n r m perm = ([], 2) := by unfold routeF; rw [if_pos h1, if_neg h2]
      rw [e1, e2]
      simp [h2]
  · have e1 : validF n r m perm l = (false, 1) := by unfold validF; rw [if_neg h1]
    have e2 : routeF n r m perm = ([], 1) := by unfold routeF; rw [if_neg h1]
    rw [e1, e2]
    simp [h1]

theorem ok11 : p11.OK Tryd.prog := p11.ok (fun _ => cx [p37.ci, p31.ci, p38.ci, p25.ci, p41.ci, p42.ci, p43.ci] []) (fun _ => cx_ok (cs := [p37.ci, p31.ci, p38.ci, p25.ci, p41.ci, p42.ci, p43.ci]) ⟨PC.OK.ci ok37, PC.OK.ci ok31, PC.OK.ci ok38, PC.OK.ci ok25, PC.OK.ci ok41, PC.OK.ci ok42, PC.OK.ci ok43, trivial⟩ _) (fn := Tryd.f11) rfl (by decide +kernel) rfl fun (p : (Int × Int × Int) × List Int) hp => by
  obtain ⟨x, code⟩ := p
  refine (g11_eq x code).mpr ?_
  have hp : Byte3 x ∧ Bytes code := hp
  have hnet := net_ok hp.1
  simp only [pp1, eq_self, and_true, and_self, peta]
  generalize netF x = N at hnet ⊢
  obtain ⟨n, r, m⟩ := N
  simp only at hnet ⊢
  obtain ⟨hc, hN1, hN2⟩ := hnet
  have hperm := nth_perm code (n * r).toNat
  rw [Int.toNat_of_nonneg (by omega)] at hperm
  generalize nthTo code (n * r).toNat = perm at hperm ⊢
  obtain ⟨c1, c2, c3, c4⟩ := id hc
  have hpl := hperm.1
  have hf : Fits .i64 (n * r) := fits_i64 (by omega) (by omega)
  refine ⟨hp.1, hf, ⟨by omega, hp.2⟩, by omega, fun h => ?_, fun h => ?_⟩
  · have e2 : routeF n r m perm = ([], 5) := by
      rw [route_rr hc hperm]; unfold rrF; rw [if_pos h]
    rw [e2]; simp
  · obtain ⟨l, e1, e2, e3⟩ := route_found hc hperm (by omega)
    have hl := e3.1
    rw [edgesF_length] at hl
    have hR : RoutP (n * r) m l := ⟨e3.2.1, by omega⟩
    have hg := good_proper e3
    rw [e1]
    simp only
    rw [valid_in hc hperm hR, hg]
    refine ⟨⟨by omega, by omega⟩, yes trivial (yesB rfl (yes rfl ⟨hf, ⟨by omega, by omega, by omega⟩, yesB (decide_eq_true hR) ⟨⟨c1, by omega, by omega, fun x hx => by have := hperm.2.1 x hx; omega⟩, fun h => h, fun h => by cases h⟩⟩))⟩
end Go.SX.Pa
