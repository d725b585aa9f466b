/- Parts of the proof, one after the other: We15 We15E We15Q. -/
import Derived.Test.YtgbnkmhabhgigaaM8
import Derived.Test.YtgbnkmhabhgigaaM17
/- Chapter 08: the reference's sums, sets and first clash, what is asked. -/
namespace Go.SX.We
open Go Go.Proofs
noncomputable section
@[reducible] def p53 : PC := ⟨53, [aIs], [aIs], fun l => l.length ≤ 12 ∧ ∀ v ∈ l, -1000000 ≤ v ∧ v ≤ 1000000, sumsR⟩
@[reducible] def A53a (l : List Int) : Ann where
  τ := Nat
  pre := []
  preC := []
  keep := [0]
  slots k := [(3, .c (.own 0 1)), (4, .c (.int .i64 k))]
  ents k := [(0, .row 3 (.int .i64) 0 (sumsR (l.take k)))]
  ok k := k ≤ l.length
  m k := l.length - k
@[reducible] def A53b (S : List Int) (v : Int) : Ann where
  τ := Nat
  pre := []
  preC := []
  keep := [0, 4, 5]
  slots k := [(3, .c (.own 0 2)), (6, .c (.int .i64 k))]
  ents k := [(0, .row 3 (.int .i64) 0 (S ++ (S.take k).map (· + v)))]
  ok k := k ≤ S.length
  m k := S.length - k
@[reducible] def C53 (l : List Int) : Ctx := cx [] [(0, fun _ => A53a l), (1, withI 4 fun i => A53b (sumsR (l.take i.toNat)) (l.getD i.toNat 0))]
def g53 (l : List Int) : Prop := p53.VC (C53 l) Try.f53 l
@[reducible] def p54 : PC := ⟨54, [aI], [aIs], fun n => 0 ≤ n ∧ n < 4096, fun n => idxF n.toNat⟩
@[reducible] def A54 (n : Int) : Ann where
  τ := Nat
  pre := []
  preC := []
  keep := [0]
  slots k := [(3, .c (.own 0 1)), (4, .c (.int .i64 k))]
  ents k := [(0, .row 3 (.int .i64) 0 (idxK n.toNat k))]
  ok k := k ≤ 12
  m k := 12 - k
@[reducible] def C54 (n : Int) : Ctx := cx [] [(0, fun _ => A54 n)]
def g54 (n : Int) : Prop := p54.VC (C54 n) Try.f54 n
@[reducible] def p20 : PC := ⟨20, [aIs], [aIs, aIs, aB], fun l => l.length ≤ 12 ∧ ∀ v ∈ l, -1000000 ≤ v ∧ v ≤ 1000000, refC⟩
@[reducible] def A20a (S : List Int) : Ann where
  τ := Nat
  pre := []
  preC := []
  keep := [5, 6]
  slots k := [(7, .c (.int .i64 ((k + 1 : Nat) : Int)))]
  ents k := [(0, .tab false (.slice (.int .i64)) (tabN S k))]
  ok k := k + 1 ≤ S.length
  m k := S.length - k
@[reducible] def A20b (S : List Int) : Ann where
  τ := Nat
  pre := []
  preC := []
  keep := [5, 6]
  slots k := [(9, .c (.nro (.int .i64) true (accC S k).1)), (10, .c (.ro (.int .i64) (accC S k).2)), (11, .c (.int .i64 ((k + 1 : Nat) : Int)))]
  ents _ := []
  ok k := k + 1 ≤ S.length
  m k := S.length - k
@[reducible] def A20c (S : List Int) (n : Int) : Ann where
  τ := Nat
  pre := []
  preC := []
  keep := [5, 6, 11, 12]
  slots k := [(9, .c (.nro (.int .i64) true (((samesF S (S.length - 1) (S.getD n.toNat 0)).take k).foldl (stepN n.toNat) (accC S (n.toNat - 1))).1)), (10, .c (.ro (.int .i64) (((samesF S (S.length - 1) (S.getD n.toNat 0)).take k).foldl (stepN n.toNat) (accC S (n.toNat - 1))).2)), (13, .c (.int .i64 k))]
  ents _ := []
  ok k := k ≤ (samesF S (S.length - 1) (S.getD n.toNat 0)).length
  m k := (samesF S (S.length - 1) (S.getD n.toNat 0)).length - k
@[reducible] def C20 (l : List Int) : Ctx := cx [p53.ci, p54.ci, p35.ci, p21.ci] [(0, fun _ => A20a (sumsR l)), (1, fun _ => A20b (sumsR l)), (2, withI 11 fun n => A20c (sumsR l) n)]
def g20 (l : List Int) : Prop := p20.VC (C20 l) Try.f20 l
@[reducible] def p36 : PC := ⟨36, [aIs], [aB], fun l => l.length ≤ 12 ∧ ∀ v ∈ l, 1 ≤ v ∧ v ≤ 1000000, distF⟩
@[reducible] def C36 (_ : List Int) : Ctx := cx [p20.ci] []
def g36 (l : List Int) : Prop := p36.VC (C36 l) Try.f36 l
end
end Go.SX.We

/- Printed by VC.lean: what the executor asks. -/
namespace Go.SX.We
open Go Go.Proofs
theorem g53_eq (l : List Int) : g53 l = (
 (∃ (x0 : Nat), x0 ≤ l.length ∧ ([(0 : Int)] = sumsR (List.take x0 l) ∧ True) ∧ True ∧ (0 : Int) = (↑x0 : Int) ∧ l = l ∧ True) ∧
 ∀ (x : Nat),
 x ≤ l.length →
 ((↑x : Int) < (↑l.length : Int) →
 (↑x : Int) < (↑l.length : Int) ∧
 (∃ (x0 : Nat),
 x0 ≤ (sumsR (List.take (↑x : Int).toNat l)).length ∧
 (sumsR (List.take x l) =
 sumsR (List.take (↑x : Int).toNat l) ++
 List.map (fun (x_1 : Int) => x_1 + l.getD (↑x : Int).toNat (0 : Int)) (List.take x0 (sumsR (List.take (↑x : Int).toNat l))) ∧
 True) ∧
 True ∧ (0 : Int) = (↑x0 : Int) ∧ (↑(sumsR (List.take x l)).length : Int) = (↑(sumsR (List.take x l)).length : Int) ∧ (↑x : Int) = (↑x : Int) ∧ l = l ∧ True) ∧
 ∀ (x_1 : Nat),
 x_1 ≤ (sumsR (List.take (↑x : Int).toNat l)).length →
 ((↑x_1 : Int) < (↑(sumsR (List.take x l)).length : Int) →
 (↑x_1 : Int) < (↑(sumsR (List.take x l)).length : Int) ∧
 ((0 : Int) ≤ (↑x_1 : Int) ∧
 (↑x_1 : Int) <
 (↑(sumsR (List.take (↑x : Int).toNat l) ++
 List.map (fun (x_2 : Int) => x_2 + l.getD (↑x : Int).toNat (0 : Int)) (List.take x_1 (sumsR (List.take (↑x : Int).toNat l)))).length :
 Int)) ∧
 ((0 : Int) ≤ (↑x : Int) ∧ (↑x : Int) < (↑l.length : Int)) ∧
 Fits IntKind.i64
 ((sumsR (List.take (↑x : Int).toNat l) ++
 List.map (fun (x_2 : Int) => x_2 + l.getD (↑x : Int).toNat (0 : Int)) (List.take x_1 (sumsR (List.take (↑x : Int).toNat l)))).getD
 (↑x_1 : Int).toNat (0 : Int) +
 l.getD (↑x : Int).toNat (0 : Int)) ∧
 Small
 ((sumsR (List.take (↑x : Int).toNat l) ++
 List.map (fun (x_2 : Int) => x_2 + l.getD (↑x : Int).toNat (0 : Int)) (List.take x_1 (sumsR (List.take (↑x : Int).toNat l)))).length +
 ((0 : Nat) + (1 : Nat))) ∧
 Fits IntKind.i64 ((↑x_1 : Int) + (1 : Int)) ∧
 ∃ (x' : Nat),
 x' ≤ (sumsR (List.take (↑x : Int).toNat l)).length ∧
 (sumsR (List.take (↑x : Int).toNat l)).length - x' < (sumsR (List.take (↑x : Int).toNat l)).length - x_1 ∧
 (sumsR (List.take (↑x : Int).toNat l) ++
 List.map (fun (x_2 : Int) => x_2 + l.getD (↑x : Int).toNat (0 : Int)) (List.take x_1 (sumsR (List.take (↑x : Int).toNat l))) ++
 [(sumsR (List.take (↑x : Int).toNat l) ++
 List.map (fun (x_2 : Int) => x_2 + l.getD (↑x : Int).toNat (0 : Int))
 (List.take x_1 (sumsR (List.take (↑x : Int).toNat l)))).getD
 (↑x_1 : Int).toNat (0 : Int) +
 l.getD (↑x : Int).toNat (0 : Int)] =
 sumsR (List.take (↑x : Int).toNat l) ++
 List.map (fun (x_2 : Int) => x_2 + l.getD (↑x : Int).toNat (0 : Int)) (List.take x' (sumsR (List.take (↑x : Int).toNat l))) ∧
 True) ∧
 True ∧
 (↑x_1 : Int) + (1 : Int) = (↑x' : Int) ∧
 (↑(sumsR (List.take x l)).length : Int) = (↑(sumsR (List.take x l)).length : Int) ∧ (↑x : Int) = (↑x : Int) ∧ l = l ∧ True) ∧
 (¬(↑x_1 : Int) < (↑(sumsR (List.take x l)).length : Int) →
 ¬(↑x_1 : Int) < (↑(sumsR (List.take x l)).length : Int) ∧
 Fits IntKind.i64 ((↑x : Int) + (1 : Int)) ∧
 ∃ (x' : Nat),
 x' ≤ l.length ∧
 l.length - x' < l.length - x ∧
 (sumsR (List.take (↑x : Int).toNat l) ++
 List.map (fun (x_2 : Int) => x_2 + l.getD (↑x : Int).toNat (0 : Int)) (List.take x_1 (sumsR (List.take (↑x : Int).toNat l))) =
 sumsR (List.take x' l) ∧
 True) ∧
 True ∧ (↑x : Int) + (1 : Int) = (↑x' : Int) ∧ l = l ∧ True)) ∧
 (¬(↑x : Int) < (↑l.length : Int) → ¬(↑x : Int) < (↑l.length : Int) ∧ sumsR (List.take x l) = sumsR l)) := by
 kernel_rfl

theorem g54_eq (n : Int) : g54 n = (
 (∃ (x0 : Nat), x0 ≤ (12 : Nat) ∧ (nilT Int = idxK n.toNat x0 ∧ True) ∧ True ∧ (0 : Int) = (↑x0 : Int) ∧ n = n ∧ True) ∧
 ∀ (x : Nat),
 x ≤ (12 : Nat) →
 ((0 : Int) ≤ (↑x : Int) ∧ (↑x : Int) < (64 : Int)) ∧
 ((0 : Int) < n / (2 : Int) ^ (↑x : Int).toNat →
 (0 : Int) < n / (2 : Int) ^ (↑x : Int).toNat ∧
 ((0 : Int) ≤ (↑x : Int) ∧ (↑x : Int) < (64 : Int)) ∧
 (bitsF BinOp.and IntKind.i64 (n / (2 : Int) ^ (↑x : Int).toNat) (1 : Int) = (1 : Int) →
 bitsF BinOp.and IntKind.i64 (n / (2 : Int) ^ (↑x : Int).toNat) (1 : Int) = (1 : Int) ∧
 Small ((idxK n.toNat x).length + ((0 : Nat) + (1 : Nat))) ∧
 Fits IntKind.i64 ((↑x : Int) + (1 : Int)) ∧
 ∃ (x' : Nat),
 x' ≤ (12 : Nat) ∧
 (12 : Nat) - x' < (12 : Nat) - x ∧
 (idxK n.toNat x ++ [(↑x : Int)] = idxK n.toNat x' ∧ True) ∧ True ∧ (↑x : Int) + (1 : Int) = (↑x' : Int) ∧ n = n ∧ True) ∧
 (¬bitsF BinOp.and IntKind.i64 (n / (2 : Int) ^ (↑x : Int).toNat) (1 : Int) = (1 : Int) →
 ¬bitsF BinOp.and IntKind.i64 (n / (2 : Int) ^ (↑x : Int).toNat) (1 : Int) = (1 : Int) ∧
 Fits IntKind.i64 ((↑x : Int) + (1 : Int)) ∧
 ∃ (x' : Nat),
 x' ≤ (12 : Nat) ∧
 (12 : Nat) - x' < (12 : Nat) - x ∧ (idxK n.toNat x = idxK n.toNat x' ∧ True) ∧ True ∧ (↑x : Int) + (1 : Int) = (↑x' : Int) ∧ n = n ∧ True)) ∧
 (¬(0 : Int) < n / (2 : Int) ^ (↑x : Int).toNat → ¬(0 : Int) < n / (2 : Int) ^ (↑x : Int).toNat ∧ idxK n.toNat x = idxF n.toNat)) := by
 kernel_rfl

theorem g20_eq (l : List Int) : g20 l = (
 (l.length ≤ (12 : Nat) ∧ ∀ (v : Int), v ∈ l → (-1000000 : Int) ≤ v ∧ v ≤ (1000000 : Int)) ∧
 (∃ (x0 : Nat), x0 + (1 : Nat) ≤ (sumsR l).length ∧ (nilT (Int × List Int) = tabN (sumsR l) x0 ∧ True) ∧ (1 : Int) = (↑(x0 + (1 : Nat)) : Int) ∧ True ∧ sumsR l = sumsR l ∧ True) ∧
 ∀ (x : Nat),
 x + (1 : Nat) ≤ (sumsR l).length →
 ((↑(x + (1 : Nat)) : Int) < (↑(sumsR l).length : Int) →
 (↑(x + (1 : Nat)) : Int) < (↑(sumsR l).length : Int) ∧
 ((0 : Int) ≤ (↑(x + (1 : Nat)) : Int) ∧ (↑(x + (1 : Nat)) : Int) < (↑(sumsR l).length : Int)) ∧
 ((0 : Int) ≤ (↑(x + (1 : Nat)) : Int) ∧ (↑(x + (1 : Nat)) : Int) < (↑(sumsR l).length : Int)) ∧
 (((Small ((0 : Nat) + ((lookF (tabN (sumsR l) x) ((sumsR l).getD (↑(x + (1 : Nat)) : Int).toNat (0 : Int))).getD []).length) ∧
 Small (((lookF (tabN (sumsR l) x) ((sumsR l).getD (↑(x + (1 : Nat)) : Int).toNat (0 : Int))).getD []).length + ((0 : Nat) + (1 : Nat))) ∧
 Fits IntKind.i64 ((↑(x + (1 : Nat)) : Int) + (1 : Int)) ∧
 ∃ (x' : Nat),
 x' + (1 : Nat) ≤ (sumsR l).length ∧
 (sumsR l).length - x' < (sumsR l).length - x ∧
 (insF (tabN (sumsR l) x) ((sumsR l).getD (↑(x + (1 : Nat)) : Int).toNat (0 : Int))
 ((lookF (tabN (sumsR l) x) ((sumsR l).getD (↑(x + (1 : Nat)) : Int).toNat (0 : Int))).getD (nilT Int) ++ [(↑(x + (1 : Nat)) : Int)]) =
 tabN (sumsR l) x' ∧
 True) ∧
 (↑(x + (1 : Nat)) : Int) + (1 : Int) = (↑(x' + (1 : Nat)) : Int) ∧ True ∧ sumsR l = sumsR l ∧ True) ∧
 Small ((0 : Nat) + ((lookF (tabN (sumsR l) x) ((sumsR l).getD (↑(x + (1 : Nat)) : Int).toNat (0 : Int))).getD []).length) ∧
 Small (((lookF (tabN (sumsR l) x) ((sumsR l).getD (↑(x + (1 : Nat)) : Int).toNat (0 : Int))).getD []).length + ((0 : Nat) + (1 : Nat))) ∧
 Fits IntKind.i64 ((↑(x + (1 : Nat)) : Int) + (1 : Int)) ∧
 ∃ (x' : Nat),
 x' + (1 : Nat) ≤ (sumsR l).length ∧
 (sumsR l).length - x' < (sumsR l).length - x ∧
 (insF (tabN (sumsR l) x) ((sumsR l).getD (↑(x + (1 : Nat)) : Int).toNat (0 : Int))
 ((lookF (tabN (sumsR l) x) ((sumsR l).getD (↑(x + (1 : Nat)) : Int).toNat (0 : Int))).getD (nilT Int) ++ [(↑(x + (1 : Nat)) : Int)]) =
 tabN (sumsR l) x' ∧
 True) ∧
 (↑(x + (1 : Nat)) : Int) + (1 : Int) = (↑(x' + (1 : Nat)) : Int) ∧ True ∧ sumsR l = sumsR l ∧ True) ∧
 Small ((0 : Nat) + ((lookF (tabN (sumsR l) x) ((sumsR l).getD (↑(x + (1 : Nat)) : Int).toNat (0 : Int))).getD []).length) ∧
 Small (((lookF (tabN (sumsR l) x) ((sumsR l).getD (↑(x + (1 : Nat)) : Int).toNat (0 : Int))).getD []).length + ((0 : Nat) + (1 : Nat))) ∧
 Fits IntKind.i64 ((↑(x + (1 : Nat)) : Int) + (1 : Int)) ∧
 ∃ (x' : Nat),
 x' + (1 : Nat) ≤ (sumsR l).length ∧
 (sumsR l).length - x' < (sumsR l).length - x ∧
 (insF (tabN (sumsR l) x) ((sumsR l).getD (↑(x + (1 : Nat)) : Int).toNat (0 : Int))
 ((lookF (tabN (sumsR l) x) ((sumsR l).getD (↑(x + (1 : Nat)) : Int).toNat (0 : Int))).getD (nilT Int) ++ [(↑(x + (1 : Nat)) : Int)]) =
 tabN (sumsR l) x' ∧
 True) ∧
 (↑(x + (1 : Nat)) : Int) + (1 : Int) = (↑(x' + (1 : Nat)) : Int) ∧ True ∧ sumsR l = sumsR l ∧ True) ∧
 (((Small ((0 : Nat) + ((lookF (tabN (sumsR l) x) ((sumsR l).getD (↑(x + (1 : Nat)) : Int).toNat (0 : Int))).getD []).length) ∧
 Small (((lookF (tabN (sumsR l) x) ((sumsR l).getD (↑(x + (1 : Nat)) : Int).toNat (0 : Int))).getD []).length + ((0 : Nat) + (1 : Nat))) ∧
 Fits IntKind.i64 ((↑(x + (1 : Nat)) : Int) + (1 : Int)) ∧
 ∃ (x' : Nat),
 x' + (1 : Nat) ≤ (sumsR l).length ∧
 (sumsR l).length - x' < (sumsR l).length - x ∧
 (insF (tabN (sumsR l) x) ((sumsR l).getD (↑(x + (1 : Nat)) : Int).toNat (0 : Int))
 ((lookF (tabN (sumsR l) x) ((sumsR l).getD (↑(x + (1 : Nat)) : Int).toNat (0 : Int))).getD (nilT Int) ++ [(↑(x + (1 : Nat)) : Int)]) =
 tabN (sumsR l) x' ∧
 True) ∧
 (↑(x + (1 : Nat)) : Int) + (1 : Int) = (↑(x' + (1 : Nat)) : Int) ∧ True ∧ sumsR l = sumsR l ∧ True) ∧
 Small ((0 : Nat) + ((lookF (tabN (sumsR l) x) ((sumsR l).getD (↑(x + (1 : Nat)) : Int).toNat (0 : Int))).getD []).length) ∧
 Small (((lookF (tabN (sumsR l) x) ((sumsR l).getD (↑(x + (1 : Nat)) : Int).toNat (0 : Int))).getD []).length + ((0 : Nat) + (1 : Nat))) ∧
 Fits IntKind.i64 ((↑(x + (1 : Nat)) : Int) + (1 : Int)) ∧
 ∃ (x' : Nat),
 x' + (1 : Nat) ≤ (sumsR l).length ∧
 (sumsR l).length - x' < (sumsR l).length - x ∧
 (insF (tabN (sumsR l) x) ((sumsR l).getD (↑(x + (1 : Nat)) : Int).toNat (0 : Int))
 ((lookF (tabN (sumsR l) x) ((sumsR l).getD (↑(x + (1 : Nat)) : Int).toNat (0 : Int))).getD (nilT Int) ++ [(↑(x + (1 : Nat)) : Int)]) =
 tabN (sumsR l) x' ∧
 True) ∧
 (↑(x + (1 : Nat)) : Int) + (1 : Int) = (↑(x' + (1 : Nat)) : Int) ∧ True ∧ sumsR l = sumsR l ∧ True) ∧
 (Small ((0 : Nat) + ((lookF (tabN (sumsR l) x) ((sumsR l).getD (↑(x + (1 : Nat)) : Int).toNat (0 : Int))).getD []).length) ∧
 (Small (((lookF (tabN (sumsR l) x) ((sumsR l).getD (↑(x + (1 : Nat)) : Int).toNat (0 : Int))).getD []).length + ((0 : Nat) + (1 : Nat))) ∧
 Fits IntKind.i64 ((↑(x + (1 : Nat)) : Int) + (1 : Int)) ∧
 ∃ (x' : Nat),
 x' + (1 : Nat) ≤ (sumsR l).length ∧
 (sumsR l).length - x' < (sumsR l).length - x ∧
 (insF (tabN (sumsR l) x) ((sumsR l).getD (↑(x + (1 : Nat)) : Int).toNat (0 : Int))
 ((lookF (tabN (sumsR l) x) ((sumsR l).getD (↑(x + (1 : Nat)) : Int).toNat (0 : Int))).getD (nilT Int) ++
 [(↑(x + (1 : Nat)) : Int)]) =
 tabN (sumsR l) x' ∧
 True) ∧
 (↑(x + (1 : Nat)) : Int) + (1 : Int) = (↑(x' + (1 : Nat)) : Int) ∧ True ∧ sumsR l = sumsR l ∧ True) ∧
 (Small (((lookF (tabN (sumsR l) x) ((sumsR l).getD (↑(x + (1 : Nat)) : Int).toNat (0 : Int))).getD []).length + ((0 : Nat) + (1 : Nat))) ∧
 Fits IntKind.i64 ((↑(x + (1 : Nat)) : Int) + (1 : Int)) ∧
 ∃ (x' : Nat),
 x' + (1 : Nat) ≤ (sumsR l).length ∧
 (sumsR l).length - x' < (sumsR l).length - x ∧
 (insF (tabN (sumsR l) x) ((sumsR l).getD (↑(x + (1 : Nat)) : Int).toNat (0 : Int))
 ((lookF (tabN (sumsR l) x) ((sumsR l).getD (↑(x + (1 : Nat)) : Int).toNat (0 : Int))).getD (nilT Int) ++
 [(↑(x + (1 : Nat)) : Int)]) =
 tabN (sumsR l) x' ∧
 True) ∧
 (↑(x + (1 : Nat)) : Int) + (1 : Int) = (↑(x' + (1 : Nat)) : Int) ∧ True ∧ sumsR l = sumsR l ∧ True) ∧
 Small (((lookF (tabN (sumsR l) x) ((sumsR l).getD (↑(x + (1 : Nat)) : Int).toNat (0 : Int))).getD []).length + ((0 : Nat) + (1 : Nat))) ∧
 Fits IntKind.i64 ((↑(x + (1 : Nat)) : Int) + (1 : Int)) ∧
 ∃ (x' : Nat),
 x' + (1 : Nat) ≤ (sumsR l).length ∧
 (sumsR l).length - x' < (sumsR l).length - x ∧
 (insF (tabN (sumsR l) x) ((sumsR l).getD (↑(x + (1 : Nat)) : Int).toNat (0 : Int))
 ((lookF (tabN (sumsR l) x) ((sumsR l).getD (↑(x + (1 : Nat)) : Int).toNat (0 : Int))).getD (nilT Int) ++
 [(↑(x + (1 : Nat)) : Int)]) =
 tabN (sumsR l) x' ∧
 True) ∧
 (↑(x + (1 : Nat)) : Int) + (1 : Int) = (↑(x' + (1 : Nat)) : Int) ∧ True ∧ sumsR l = sumsR l ∧ True) ∧
 (Small ((0 : Nat) + ((lookF (tabN (sumsR l) x) ((sumsR l).getD (↑(x + (1 : Nat)) : Int).toNat (0 : Int))).getD []).length) ∧
 Small (((lookF (tabN (sumsR l) x) ((sumsR l).getD (↑(x + (1 : Nat)) : Int).toNat (0 : Int))).getD []).length + ((0 : Nat) + (1 : Nat))) ∧
 Fits IntKind.i64 ((↑(x + (1 : Nat)) : Int) + (1 : Int)) ∧
 ∃ (x' : Nat),
 x' + (1 : Nat) ≤ (sumsR l).length ∧
 (sumsR l).length - x' < (sumsR l).length - x ∧
 (insF (tabN (sumsR l) x) ((sumsR l).getD (↑(x + (1 : Nat)) : Int).toNat (0 : Int))
 ((lookF (tabN (sumsR l) x) ((sumsR l).getD (↑(x + (1 : Nat)) : Int).toNat (0 : Int))).getD (nilT Int) ++
 [(↑(x + (1 : Nat)) : Int)]) =
 tabN (sumsR l) x' ∧
 True) ∧
 (↑(x + (1 : Nat)) : Int) + (1 : Int) = (↑(x' + (1 : Nat)) : Int) ∧ True ∧ sumsR l = sumsR l ∧ True) ∧
 Small ((0 : Nat) + ((lookF (tabN (sumsR l) x) ((sumsR l).getD (↑(x + (1 : Nat)) : Int).toNat (0 : Int))).getD []).length) ∧
 (Small (((lookF (tabN (sumsR l) x) ((sumsR l).getD (↑(x + (1 : Nat)) : Int).toNat (0 : Int))).getD []).length + ((0 : Nat) + (1 : Nat))) ∧
 Fits IntKind.i64 ((↑(x + (1 : Nat)) : Int) + (1 : Int)) ∧
 ∃ (x' : Nat),
 x' + (1 : Nat) ≤ (sumsR l).length ∧
 (sumsR l).length - x' < (sumsR l).length - x ∧
 (insF (tabN (sumsR l) x) ((sumsR l).getD (↑(x + (1 : Nat)) : Int).toNat (0 : Int))
 ((lookF (tabN (sumsR l) x) ((sumsR l).getD (↑(x + (1 : Nat)) : Int).toNat (0 : Int))).getD (nilT Int) ++
 [(↑(x + (1 : Nat)) : Int)]) =
 tabN (sumsR l) x' ∧
 True) ∧
 (↑(x + (1 : Nat)) : Int) + (1 : Int) = (↑(x' + (1 : Nat)) : Int) ∧ True ∧ sumsR l = sumsR l ∧ True) ∧
 Small (((lookF (tabN (sumsR l) x) ((sumsR l).getD (↑(x + (1 : Nat)) : Int).toNat (0 : Int))).getD []).length + ((0 : Nat) + (1 : Nat))) ∧
 Fits IntKind.i64 ((↑(x + (1 : Nat)) : Int) + (1 : Int)) ∧
 ∃ (x' : Nat),
 x' + (1 : Nat) ≤ (sumsR l).length ∧
 (sumsR l).length - x' < (sumsR l).length - x ∧
 (insF (tabN (sumsR l) x) ((sumsR l).getD (↑(x + (1 : Nat)) : Int).toNat (0 : Int))
 ((lookF (tabN (sumsR l) x) ((sumsR l).getD (↑(x + (1 : Nat)) : Int).toNat (0 : Int))).getD (nilT Int) ++
 [(↑(x + (1 : Nat)) : Int)]) =
 tabN (sumsR l) x' ∧
 True) ∧
 (↑(x + (1 : Nat)) : Int) + (1 : Int) = (↑(x' + (1 : Nat)) : Int) ∧ True ∧ sumsR l = sumsR l ∧ True) ∧
 (Small ((0 : Nat) + ((lookF (tabN (sumsR l) x) ((sumsR l).getD (↑(x + (1 : Nat)) : Int).toNat (0 : Int))).getD []).length) ∧
 Small (((lookF (tabN (sumsR l) x) ((sumsR l).getD (↑(x + (1 : Nat)) : Int).toNat (0 : Int))).getD []).length + ((0 : Nat) + (1 : Nat))) ∧
 Fits IntKind.i64 ((↑(x + (1 : Nat)) : Int) + (1 : Int)) ∧
 ∃ (x' : Nat),
 x' + (1 : Nat) ≤ (sumsR l).length ∧
 (sumsR l).length - x' < (sumsR l).length - x ∧
 (insF (tabN (sumsR l) x) ((sumsR l).getD (↑(x + (1 : Nat)) : Int).toNat (0 : Int))
 ((lookF (tabN (sumsR l) x) ((sumsR l).getD (↑(x + (1 : Nat)) : Int).toNat (0 : Int))).getD (nilT Int) ++ [(↑(x + (1 : Nat)) : Int)]) =
 tabN (sumsR l) x' ∧
 True) ∧
 (↑(x + (1 : Nat)) : Int) + (1 : Int) = (↑(x' + (1 : Nat)) : Int) ∧ True ∧ sumsR l = sumsR l ∧ True) ∧
 (Small ((0 : Nat) + ((lookF (tabN (sumsR l) x) ((sumsR l).getD (↑(x + (1 : Nat)) : Int).toNat (0 : Int))).getD []).length) ∧
 Small (((lookF (tabN (sumsR l) x) ((sumsR l).getD (↑(x + (1 : Nat)) : Int).toNat (0 : Int))).getD []).length + ((0 : Nat) + (1 : Nat))) ∧
 Fits IntKind.i64 ((↑(x + (1 : Nat)) : Int) + (1 : Int)) ∧
 ∃ (x' : Nat),
 x' + (1 : Nat) ≤ (sumsR l).length ∧
 (sumsR l).length - x' < (sumsR l).length - x ∧
 (insF (tabN (sumsR l) x) ((sumsR l).getD (↑(x + (1 : Nat)) : Int).toNat (0 : Int))
 ((lookF (tabN (sumsR l) x) ((sumsR l).getD (↑(x + (1 : Nat)) : Int).toNat (0 : Int))).getD (nilT Int) ++ [(↑(x + (1 : Nat)) : Int)]) =
 tabN (sumsR l) x' ∧
 True) ∧
 (↑(x + (1 : Nat)) : Int) + (1 : Int) = (↑(x' + (1 : Nat)) : Int) ∧ True ∧ sumsR l = sumsR l ∧ True) ∧
 Small ((0 : Nat) + ((lookF (tabN (sumsR l) x) ((sumsR l).getD (↑(x + (1 : Nat)) : Int).toNat (0 : Int))).getD []).length) ∧
 (Small (((lookF (tabN (sumsR l) x) ((sumsR l).getD (↑(x + (1 : Nat)) : Int).toNat (0 : Int))).getD []).length + ((0 : Nat) + (1 : Nat))) ∧
 Fits IntKind.i64 ((↑(x + (1 : Nat)) : Int) + (1 : Int)) ∧
 ∃ (x' : Nat),
 x' + (1 : Nat) ≤ (sumsR l).length ∧
 (sumsR l).length - x' < (sumsR l).length - x ∧
 (insF (tabN (sumsR l) x) ((sumsR l).getD (↑(x + (1 : Nat)) : Int).toNat (0 : Int))
 ((lookF (tabN (sumsR l) x) ((sumsR l).getD (↑(x + (1 : Nat)) : Int).toNat (0 : Int))).getD (nilT Int) ++
 [(↑(x + (1 : Nat)) : Int)]) =
 tabN (sumsR l) x' ∧
 True) ∧
 (↑(x + (1 : Nat)) : Int) + (1 : Int) = (↑(x' + (1 : Nat)) : Int) ∧ True ∧ sumsR l = sumsR l ∧ True) ∧
 Small (((lookF (tabN (sumsR l) x) ((sumsR l).getD (↑(x + (1 : Nat)) : Int).toNat (0 : Int))).getD []).length + ((0 : Nat) + (1 : Nat))) ∧
 Fits IntKind.i64 ((↑(x + (1 : Nat)) : Int) + (1 : Int)) ∧
 ∃ (x' : Nat),
 x' + (1 : Nat) ≤ (sumsR l).length ∧
 (sumsR l).length - x' < (sumsR l).length - x ∧
 (insF (tabN (sumsR l) x) ((sumsR l).getD (↑(x + (1 : Nat)) : Int).toNat (0 : Int))
 ((lookF (tabN (sumsR l) x) ((sumsR l).getD (↑(x + (1 : Nat)) : Int).toNat (0 : Int))).getD (nilT Int) ++
 [(↑(x + (1 : Nat)) : Int)]) =
 tabN (sumsR l) x' ∧
 True) ∧
 (↑(x + (1 : Nat)) : Int) + (1 : Int) = (↑(x' + (1 : Nat)) : Int) ∧ True ∧ sumsR l = sumsR l ∧ True) ∧
 (¬(↑(x + (1 : Nat)) : Int) < (↑(sumsR l).length : Int) →
 ¬(↑(x + (1 : Nat)) : Int) < (↑(sumsR l).length : Int) ∧
 (∃ (x0 : Nat),
 x0 + (1 : Nat) ≤ (sumsR l).length ∧
 (tabN (sumsR l) x = tabN (sumsR l) x ∧ True) ∧
 (accC (sumsR l) x0).fst = nilT Int ∧ (accC (sumsR l) x0).snd = nilT Int ∧ (1 : Int) = (↑(x0 + (1 : Nat)) : Int) ∧ True ∧ sumsR l = sumsR l ∧ True) ∧
 ∀ (x_1 : Nat),
 x_1 + (1 : Nat) ≤ (sumsR l).length →
 ((↑(x_1 + (1 : Nat)) : Int) < (↑(sumsR l).length : Int) →
 (↑(x_1 + (1 : Nat)) : Int) < (↑(sumsR l).length : Int) ∧
 ((0 : Int) ≤ (↑(x_1 + (1 : Nat)) : Int) ∧ (↑(x_1 + (1 : Nat)) : Int) < (↑(sumsR l).length : Int)) ∧
 (∃ (x0 : Nat),
 x0 ≤ (samesF (sumsR l) ((sumsR l).length - (1 : Nat)) ((sumsR l).getD (↑(x_1 + (1 : Nat)) : Int).toNat (0 : Int))).length ∧
 (tabN (sumsR l) x = tabN (sumsR l) x ∧ True) ∧
 (accC (sumsR l) x_1).fst =
 (List.foldl (stepN (↑(x_1 + (1 : Nat)) : Int).toNat) (accC (sumsR l) ((↑(x_1 + (1 : Nat)) : Int).toNat - (1 : Nat)))
 (List.take x0 (samesF (sumsR l) ((sumsR l).length - (1 : Nat)) ((sumsR l).getD (↑(x_1 + (1 : Nat)) : Int).toNat (0 : Int))))).fst ∧
 (accC (sumsR l) x_1).snd =
 (List.foldl (stepN (↑(x_1 + (1 : Nat)) : Int).toNat) (accC (sumsR l) ((↑(x_1 + (1 : Nat)) : Int).toNat - (1 : Nat)))
 (List.take x0 (samesF (sumsR l) ((sumsR l).length - (1 : Nat)) ((sumsR l).getD (↑(x_1 + (1 : Nat)) : Int).toNat (0 : Int))))).snd ∧
 (0 : Int) = (↑x0 : Int) ∧
 (lookF (tabN (sumsR l) x) ((sumsR l).getD (↑(x_1 + (1 : Nat)) : Int).toNat (0 : Int))).getD (nilT Int) =
 (lookF (tabN (sumsR l) x) ((sumsR l).getD (↑(x_1 + (1 : Nat)) : Int).toNat (0 : Int))).getD (nilT Int) ∧
 (↑(x_1 + (1 : Nat)) : Int) = (↑(x_1 + (1 : Nat)) : Int) ∧ True ∧ sumsR l = sumsR l ∧ True) ∧
 ∀ (x_2 : Nat),
 x_2 ≤ (samesF (sumsR l) ((sumsR l).length - (1 : Nat)) ((sumsR l).getD (↑(x_1 + (1 : Nat)) : Int).toNat (0 : Int))).length →
 ((↑x_2 : Int) < (↑((lookF (tabN (sumsR l) x) ((sumsR l).getD (↑(x_1 + (1 : Nat)) : Int).toNat (0 : Int))).getD []).length : Int) →
 (↑x_2 : Int) < (↑((lookF (tabN (sumsR l) x) ((sumsR l).getD (↑(x_1 + (1 : Nat)) : Int).toNat (0 : Int))).getD []).length : Int) ∧
 ((0 : Int) ≤ (↑x_2 : Int) ∧
 (↑x_2 : Int) < (↑((lookF (tabN (sumsR l) x) ((sumsR l).getD (↑(x_1 + (1 : Nat)) : Int).toNat (0 : Int))).getD []).length : Int)) ∧
 (¬bitsF BinOp.and IntKind.i64
 (((lookF (tabN (sumsR l) x) ((sumsR l).getD (↑(x_1 + (1 : Nat)) : Int).toNat (0 : Int))).getD (nilT Int)).getD
 (↑x_2 : Int).toNat (0 : Int))
 (↑(x_1 + (1 : Nat)) : Int) =
 (0 : Int) →
 ¬bitsF BinOp.and IntKind.i64
 (((lookF (tabN (sumsR l) x) ((sumsR l).getD (↑(x_1 + (1 : Nat)) : Int).toNat (0 : Int))).getD (nilT Int)).getD
 (↑x_2 : Int).toNat (0 : Int))
 (↑(x_1 + (1 : Nat)) : Int) =
 (0 : Int) ∧
 Fits IntKind.i64 ((↑x_2 : Int) + (1 : Int)) ∧
 ∃ (x' : Nat),
 x' ≤ (samesF (sumsR l) ((sumsR l).length - (1 : Nat)) ((sumsR l).getD (↑(x_1 + (1 : Nat)) : Int).toNat (0 : Int))).length ∧
 (samesF (sumsR l) ((sumsR l).length - (1 : Nat)) ((sumsR l).getD (↑(x_1 + (1 : Nat)) : Int).toNat (0 : Int))).length - x' <
 (samesF (sumsR l) ((sumsR l).length - (1 : Nat)) ((sumsR l).getD (↑(x_1 + (1 : Nat)) : Int).toNat (0 : Int))).length -
 x_2 ∧
 (tabN (sumsR l) x = tabN (sumsR l) x ∧ True) ∧
 (List.foldl (stepN (↑(x_1 + (1 : Nat)) : Int).toNat) (accC (sumsR l) ((↑(x_1 + (1 : Nat)) : Int).toNat - (1 : Nat)))
 (List.take x_2
 (samesF (sumsR l) ((sumsR l).length - (1 : Nat))
 ((sumsR l).getD (↑(x_1 + (1 : Nat)) : Int).toNat (0 : Int))))).fst =
 (List.foldl (stepN (↑(x_1 + (1 : Nat)) : Int).toNat) (accC (sumsR l) ((↑(x_1 + (1 : Nat)) : Int).toNat - (1 : Nat)))
 (List.take x'
 (samesF (sumsR l) ((sumsR l).length - (1 : Nat))
 ((sumsR l).getD (↑(x_1 + (1 : Nat)) : Int).toNat (0 : Int))))).fst ∧
 (List.foldl (stepN (↑(x_1 + (1 : Nat)) : Int).toNat) (accC (sumsR l) ((↑(x_1 + (1 : Nat)) : Int).toNat - (1 : Nat)))
 (List.take x_2
 (samesF (sumsR l) ((sumsR l).length - (1 : Nat))
 ((sumsR l).getD (↑(x_1 + (1 : Nat)) : Int).toNat (0 : Int))))).snd =
 (List.foldl (stepN (↑(x_1 + (1 : Nat)) : Int).toNat) (accC (sumsR l) ((↑(x_1 + (1 : Nat)) : Int).toNat - (1 : Nat)))
 (List.take x'
 (samesF (sumsR l) ((sumsR l).length - (1 : Nat))
 ((sumsR l).getD (↑(x_1 + (1 : Nat)) : Int).toNat (0 : Int))))).snd ∧
 (↑x_2 : Int) + (1 : Int) = (↑x' : Int) ∧
 (lookF (tabN (sumsR l) x) ((sumsR l).getD (↑(x_1 + (1 : Nat)) : Int).toNat (0 : Int))).getD (nilT Int) =
 (lookF (tabN (sumsR l) x) ((sumsR l).getD (↑(x_1 + (1 : Nat)) : Int).toNat (0 : Int))).getD (nilT Int) ∧
 (↑(x_1 + (1 : Nat)) : Int) = (↑(x_1 + (1 : Nat)) : Int) ∧ True ∧ sumsR l = sumsR l ∧ True) ∧
 (¬¬bitsF BinOp.and IntKind.i64
 (((lookF (tabN (sumsR l) x) ((sumsR l).getD (↑(x_1 + (1 : Nat)) : Int).toNat (0 : Int))).getD (nilT Int)).getD
 (↑x_2 : Int).toNat (0 : Int))
 (↑(x_1 + (1 : Nat)) : Int) =
 (0 : Int) →
 ¬¬bitsF BinOp.and IntKind.i64
 (((lookF (tabN (sumsR l) x) ((sumsR l).getD (↑(x_1 + (1 : Nat)) : Int).toNat (0 : Int))).getD (nilT Int)).getD
 (↑x_2 : Int).toNat (0 : Int))
 (↑(x_1 + (1 : Nat)) : Int) =
 (0 : Int) ∧
 ((0 : Int) ≤ (↑x_2 : Int) ∧
 (↑x_2 : Int) <
 (↑((lookF (tabN (sumsR l) x) ((sumsR l).getD (↑(x_1 + (1 : Nat)) : Int).toNat (0 : Int))).getD []).length : Int)) ∧
 ((0 : Int) ≤ (↑(x_1 + (1 : Nat)) : Int) ∧ (↑(x_1 + (1 : Nat)) : Int) < (4096 : Int)) ∧
 ((0 : Int) ≤
 ((lookF (tabN (sumsR l) x) ((sumsR l).getD (↑(x_1 + (1 : Nat)) : Int).toNat (0 : Int))).getD []).getD (↑x_2 : Int).toNat
 (0 : Int) ∧
 ((lookF (tabN (sumsR l) x) ((sumsR l).getD (↑(x_1 + (1 : Nat)) : Int).toNat (0 : Int))).getD []).getD (↑x_2 : Int).toNat
 (0 : Int) <
 (4096 : Int)) ∧
 ((idxF (↑(x_1 + (1 : Nat)) : Int).toNat).length ≤ (1000 : Nat) ∧
 (idxF
 (((lookF (tabN (sumsR l) x) ((sumsR l).getD (↑(x_1 + (1 : Nat)) : Int).toNat (0 : Int))).getD []).getD
 (↑x_2 : Int).toNat (0 : Int)).toNat).length ≤
 (1000 : Nat)) ∧
 (beforeF (idxF (↑(x_1 + (1 : Nat)) : Int).toNat)
 (idxF
 (((lookF (tabN (sumsR l) x) ((sumsR l).getD (↑(x_1 + (1 : Nat)) : Int).toNat (0 : Int))).getD (nilT Int)).getD
 (↑x_2 : Int).toNat (0 : Int)).toNat) =
 true →
 beforeF (idxF (↑(x_1 + (1 : Nat)) : Int).toNat)
 (idxF
 (((lookF (tabN (sumsR l) x) ((sumsR l).getD (↑(x_1 + (1 : Nat)) : Int).toNat (0 : Int))).getD (nilT Int)).getD
 (↑x_2 : Int).toNat (0 : Int)).toNat) =
 true ∧
 beforeF (idxF (↑(x_1 + (1 : Nat)) : Int).toNat)
 (idxF
 (((lookF (tabN (sumsR l) x) ((sumsR l).getD (↑(x_1 + (1 : Nat)) : Int).toNat (0 : Int))).getD (nilT Int)).getD
 (↑x_2 : Int).toNat (0 : Int)).toNat) =
 true ∧
 ((List.foldl (stepN (↑(x_1 + (1 : Nat)) : Int).toNat)
 (accC (sumsR l) ((↑(x_1 + (1 : Nat)) : Int).toNat - (1 : Nat)))
 (List.take x_2
 (samesF (sumsR l) ((sumsR l).length - (1 : Nat))
 ((sumsR l).getD (↑(x_1 + (1 : Nat)) : Int).toNat (0 : Int))))).fst.length =
 (0 : Nat) →
 (List.foldl (stepN (↑(x_1 + (1 : Nat)) : Int).toNat)
 (accC (sumsR l) ((↑(x_1 + (1 : Nat)) : Int).toNat - (1 : Nat)))
 (List.take x_2
 (samesF (sumsR l) ((sumsR l).length - (1 : Nat))
 ((sumsR l).getD (↑(x_1 + (1 : Nat)) : Int).toNat (0 : Int))))).fst.length =
 (0 : Nat) ∧
 (List.foldl (stepN (↑(x_1 + (1 : Nat)) : Int).toNat)
 (accC (sumsR l) ((↑(x_1 + (1 : Nat)) : Int).toNat - (1 : Nat)))
 (List.take x_2
 (samesF (sumsR l) ((sumsR l).length - (1 : Nat))
 ((sumsR l).getD (↑(x_1 + (1 : Nat)) : Int).toNat (0 : Int))))).fst.length =
 (0 : Nat) ∧
 Fits IntKind.i64 ((↑x_2 : Int) + (1 : Int)) ∧
 ∃ (x' : Nat),
 x' ≤
 (samesF (sumsR l) ((sumsR l).length - (1 : Nat))
 ((sumsR l).getD (↑(x_1 + (1 : Nat)) : Int).toNat (0 : Int))).length ∧
 (samesF (sumsR l) ((sumsR l).length - (1 : Nat))
 ((sumsR l).getD (↑(x_1 + (1 : Nat)) : Int).toNat (0 : Int))).length -
 x' <
 (samesF (sumsR l) ((sumsR l).length - (1 : Nat))
 ((sumsR l).getD (↑(x_1 + (1 : Nat)) : Int).toNat (0 : Int))).length -
 x_2 ∧
 (tabN (sumsR l) x = tabN (sumsR l) x ∧ True) ∧
 (idxF (↑(x_1 + (1 : Nat)) : Int).toNat =
 (List.foldl (stepN (↑(x_1 + (1 : Nat)) : Int).toNat)
 (accC (sumsR l) ((↑(x_1 + (1 : Nat)) : Int).toNat - (1 : Nat)))
 (List.take x'
 (samesF (sumsR l) ((sumsR l).length - (1 : Nat))
 ((sumsR l).getD (↑(x_1 + (1 : Nat)) : Int).toNat (0 : Int))))).fst ∧
 (List.foldl (stepN (↑(x_1 + (1 : Nat)) : Int).toNat)
 (accC (sumsR l) ((↑(x_1 + (1 : Nat)) : Int).toNat - (1 : Nat)))
 (List.take x'
 (samesF (sumsR l) ((sumsR l).length - (1 : Nat))
 ((sumsR l).getD (↑(x_1 + (1 : Nat)) : Int).toNat (0 : Int))))).fst ≠
 []) ∧
 idxF
 (((lookF (tabN (sumsR l) x)
 ((sumsR l).getD (↑(x_1 + (1 : Nat)) : Int).toNat (0 : Int))).getD
 (nilT Int)).getD
 (↑x_2 : Int).toNat (0 : Int)).toNat =
 (List.foldl (stepN (↑(x_1 + (1 : Nat)) : Int).toNat)
 (accC (sumsR l) ((↑(x_1 + (1 : Nat)) : Int).toNat - (1 : Nat)))
 (List.take x'
 (samesF (sumsR l) ((sumsR l).length - (1 : Nat))
 ((sumsR l).getD (↑(x_1 + (1 : Nat)) : Int).toNat (0 : Int))))).snd ∧
 (↑x_2 : Int) + (1 : Int) = (↑x' : Int) ∧
 (lookF (tabN (sumsR l) x) ((sumsR l).getD (↑(x_1 + (1 : Nat)) : Int).toNat (0 : Int))).getD
 (nilT Int) =
 (lookF (tabN (sumsR l) x)
 ((sumsR l).getD (↑(x_1 + (1 : Nat)) : Int).toNat (0 : Int))).getD
 (nilT Int) ∧
 (↑(x_1 + (1 : Nat)) : Int) = (↑(x_1 + (1 : Nat)) : Int) ∧
 True ∧ sumsR l = sumsR l ∧ True) ∧
 (¬(List.foldl (stepN (↑(x_1 + (1 : Nat)) : Int).toNat)
 (accC (sumsR l) ((↑(x_1 + (1 : Nat)) : Int).toNat - (1 : Nat)))
 (List.take x_2
 (samesF (sumsR l) ((sumsR l).length - (1 : Nat))
 ((sumsR l).getD (↑(x_1 + (1 : Nat)) : Int).toNat (0 : Int))))).fst.length =
 (0 : Nat) →
 ¬(List.foldl (stepN (↑(x_1 + (1 : Nat)) : Int).toNat)
 (accC (sumsR l) ((↑(x_1 + (1 : Nat)) : Int).toNat - (1 : Nat)))
 (List.take x_2
 (samesF (sumsR l) ((sumsR l).length - (1 : Nat))
 ((sumsR l).getD (↑(x_1 + (1 : Nat)) : Int).toNat (0 : Int))))).fst.length =
 (0 : Nat) ∧
 ¬(List.foldl (stepN (↑(x_1 + (1 : Nat)) : Int).toNat)
 (accC (sumsR l) ((↑(x_1 + (1 : Nat)) : Int).toNat - (1 : Nat)))
 (List.take x_2
 (samesF (sumsR l) ((sumsR l).length - (1 : Nat))
 ((sumsR l).getD (↑(x_1 + (1 : Nat)) : Int).toNat (0 : Int))))).fst.length =
 (0 : Nat) ∧
 ((idxF (↑(x_1 + (1 : Nat)) : Int).toNat).length ≤ (1000 : Nat) ∧
 (List.foldl (stepN (↑(x_1 + (1 : Nat)) : Int).toNat)
 (accC (sumsR l) ((↑(x_1 + (1 : Nat)) : Int).toNat - (1 : Nat)))
 (List.take x_2
 (samesF (sumsR l) ((sumsR l).length - (1 : Nat))
 ((sumsR l).getD (↑(x_1 + (1 : Nat)) : Int).toNat (0 : Int))))).fst.length ≤
 (1000 : Nat)) ∧
 (beforeF (idxF (↑(x_1 + (1 : Nat)) : Int).toNat)
 (List.foldl (stepN (↑(x_1 + (1 : Nat)) : Int).toNat)
 (accC (sumsR l) ((↑(x_1 + (1 : Nat)) : Int).toNat - (1 : Nat)))
 (List.take x_2
 (samesF (sumsR l) ((sumsR l).length - (1 : Nat))
 ((sumsR l).getD (↑(x_1 + (1 : Nat)) : Int).toNat (0 : Int))))).fst =
 true →
 beforeF (idxF (↑(x_1 + (1 : Nat)) : Int).toNat)
 (List.foldl (stepN (↑(x_1 + (1 : Nat)) : Int).toNat)
 (accC (sumsR l) ((↑(x_1 + (1 : Nat)) : Int).toNat - (1 : Nat)))
 (List.take x_2
 (samesF (sumsR l) ((sumsR l).length - (1 : Nat))
 ((sumsR l).getD (↑(x_1 + (1 : Nat)) : Int).toNat (0 : Int))))).fst =
 true ∧
 beforeF (idxF (↑(x_1 + (1 : Nat)) : Int).toNat)
 (List.foldl (stepN (↑(x_1 + (1 : Nat)) : Int).toNat)
 (accC (sumsR l) ((↑(x_1 + (1 : Nat)) : Int).toNat - (1 : Nat)))
 (List.take x_2
 (samesF (sumsR l) ((sumsR l).length - (1 : Nat))
 ((sumsR l).getD (↑(x_1 + (1 : Nat)) : Int).toNat (0 : Int))))).fst =
 true ∧
 beforeF (idxF (↑(x_1 + (1 : Nat)) : Int).toNat)
 (List.foldl (stepN (↑(x_1 + (1 : Nat)) : Int).toNat)
 (accC (sumsR l) ((↑(x_1 + (1 : Nat)) : Int).toNat - (1 : Nat)))
 (List.take x_2
 (samesF (sumsR l) ((sumsR l).length - (1 : Nat))
 ((sumsR l).getD (↑(x_1 + (1 : Nat)) : Int).toNat (0 : Int))))).fst =
 true ∧
 Fits IntKind.i64 ((↑x_2 : Int) + (1 : Int)) ∧
 ∃ (x' : Nat),
 x' ≤
 (samesF (sumsR l) ((sumsR l).length - (1 : Nat))
 ((sumsR l).getD (↑(x_1 + (1 : Nat)) : Int).toNat (0 : Int))).length ∧
 (samesF (sumsR l) ((sumsR l).length - (1 : Nat))
 ((sumsR l).getD (↑(x_1 + (1 : Nat)) : Int).toNat (0 : Int))).length -
 x' <
 (samesF (sumsR l) ((sumsR l).length - (1 : Nat))
 ((sumsR l).getD (↑(x_1 + (1 : Nat)) : Int).toNat (0 : Int))).length -
 x_2 ∧
 (tabN (sumsR l) x = tabN (sumsR l) x ∧ True) ∧
 (idxF (↑(x_1 + (1 : Nat)) : Int).toNat =
 (List.foldl (stepN (↑(x_1 + (1 : Nat)) : Int).toNat)
 (accC (sumsR l) ((↑(x_1 + (1 : Nat)) : Int).toNat - (1 : Nat)))
 (List.take x'
 (samesF (sumsR l) ((sumsR l).length - (1 : Nat))
 ((sumsR l).getD (↑(x_1 + (1 : Nat)) : Int).toNat (0 : Int))))).fst ∧
 (List.foldl (stepN (↑(x_1 + (1 : Nat)) : Int).toNat)
 (accC (sumsR l) ((↑(x_1 + (1 : Nat)) : Int).toNat - (1 : Nat)))
 (List.take x'
 (samesF (sumsR l) ((sumsR l).length - (1 : Nat))
 ((sumsR l).getD (↑(x_1 + (1 : Nat)) : Int).toNat (0 : Int))))).fst ≠
 []) ∧
 idxF
 (((lookF (tabN (sumsR l) x)
 ((sumsR l).getD (↑(x_1 + (1 : Nat)) : Int).toNat (0 : Int))).getD
 (nilT Int)).getD
 (↑x_2 : Int).toNat (0 : Int)).toNat =
 (List.foldl (stepN (↑(x_1 + (1 : Nat)) : Int).toNat)
 (accC (sumsR l) ((↑(x_1 + (1 : Nat)) : Int).toNat - (1 : Nat)))
 (List.take x'
 (samesF (sumsR l) ((sumsR l).length - (1 : Nat))
 ((sumsR l).getD (↑(x_1 + (1 : Nat)) : Int).toNat (0 : Int))))).snd ∧
 (↑x_2 : Int) + (1 : Int) = (↑x' : Int) ∧
 (lookF (tabN (sumsR l) x)
 ((sumsR l).getD (↑(x_1 + (1 : Nat)) : Int).toNat (0 : Int))).getD
 (nilT Int) =
 (lookF (tabN (sumsR l) x)
 ((sumsR l).getD (↑(x_1 + (1 : Nat)) : Int).toNat (0 : Int))).getD
 (nilT Int) ∧
 (↑(x_1 + (1 : Nat)) : Int) = (↑(x_1 + (1 : Nat)) : Int) ∧
 True ∧ sumsR l = sumsR l ∧ True) ∧
 (beforeF (idxF (↑(x_1 + (1 : Nat)) : Int).toNat)
 (List.foldl (stepN (↑(x_1 + (1 : Nat)) : Int).toNat)
 (accC (sumsR l) ((↑(x_1 + (1 : Nat)) : Int).toNat - (1 : Nat)))
 (List.take x_2
 (samesF (sumsR l) ((sumsR l).length - (1 : Nat))
 ((sumsR l).getD (↑(x_1 + (1 : Nat)) : Int).toNat (0 : Int))))).fst =
 false →
 beforeF (idxF (↑(x_1 + (1 : Nat)) : Int).toNat)
 (List.foldl (stepN (↑(x_1 + (1 : Nat)) : Int).toNat)
 (accC (sumsR l) ((↑(x_1 + (1 : Nat)) : Int).toNat - (1 : Nat)))
 (List.take x_2
 (samesF (sumsR l) ((sumsR l).length - (1 : Nat))
 ((sumsR l).getD (↑(x_1 + (1 : Nat)) : Int).toNat (0 : Int))))).fst =
 false ∧
 beforeF (idxF (↑(x_1 + (1 : Nat)) : Int).toNat)
 (List.foldl (stepN (↑(x_1 + (1 : Nat)) : Int).toNat)
 (accC (sumsR l) ((↑(x_1 + (1 : Nat)) : Int).toNat - (1 : Nat)))
 (List.take x_2
 (samesF (sumsR l) ((sumsR l).length - (1 : Nat))
 ((sumsR l).getD (↑(x_1 + (1 : Nat)) : Int).toNat (0 : Int))))).fst =
 false ∧
 beforeF (idxF (↑(x_1 + (1 : Nat)) : Int).toNat)
 (List.foldl (stepN (↑(x_1 + (1 : Nat)) : Int).toNat)
 (accC (sumsR l) ((↑(x_1 + (1 : Nat)) : Int).toNat - (1 : Nat)))
 (List.take x_2
 (samesF (sumsR l) ((sumsR l).length - (1 : Nat))
 ((sumsR l).getD (↑(x_1 + (1 : Nat)) : Int).toNat (0 : Int))))).fst =
 false ∧
 ((idxF (↑(x_1 + (1 : Nat)) : Int).toNat).length ≤ (1000 : Nat) ∧
 (List.foldl (stepN (↑(x_1 + (1 : Nat)) : Int).toNat)
 (accC (sumsR l) ((↑(x_1 + (1 : Nat)) : Int).toNat - (1 : Nat)))
 (List.take x_2
 (samesF (sumsR l) ((sumsR l).length - (1 : Nat))
 ((sumsR l).getD (↑(x_1 + (1 : Nat)) : Int).toNat (0 : Int))))).fst.length ≤
 (1000 : Nat)) ∧
 (decide
 (idxF (↑(x_1 + (1 : Nat)) : Int).toNat =
 (List.foldl (stepN (↑(x_1 + (1 : Nat)) : Int).toNat)
 (accC (sumsR l) ((↑(x_1 + (1 : Nat)) : Int).toNat - (1 : Nat)))
 (List.take x_2
 (samesF (sumsR l) ((sumsR l).length - (1 : Nat))
 ((sumsR l).getD (↑(x_1 + (1 : Nat)) : Int).toNat (0 : Int))))).fst) =
 true →
 decide
 (idxF (↑(x_1 + (1 : Nat)) : Int).toNat =
 (List.foldl (stepN (↑(x_1 + (1 : Nat)) : Int).toNat)
 (accC (sumsR l) ((↑(x_1 + (1 : Nat)) : Int).toNat - (1 : Nat)))
 (List.take x_2
 (samesF (sumsR l) ((sumsR l).length - (1 : Nat))
 ((sumsR l).getD (↑(x_1 + (1 : Nat)) : Int).toNat (0 : Int))))).fst) =
 true ∧
 decide
 (idxF (↑(x_1 + (1 : Nat)) : Int).toNat =
 (List.foldl (stepN (↑(x_1 + (1 : Nat)) : Int).toNat)
 (accC (sumsR l) ((↑(x_1 + (1 : Nat)) : Int).toNat - (1 : Nat)))
 (List.take x_2
 (samesF (sumsR l) ((sumsR l).length - (1 : Nat))
 ((sumsR l).getD (↑(x_1 + (1 : Nat)) : Int).toNat (0 : Int))))).fst) =
 true ∧
 ((idxF
 (((lookF (tabN (sumsR l) x)
 ((sumsR l).getD (↑(x_1 + (1 : Nat)) : Int).toNat
 (0 : Int))).getD
 []).getD
 (↑x_2 : Int).toNat (0 : Int)).toNat).length ≤
 (1000 : Nat) ∧
 (List.foldl (stepN (↑(x_1 + (1 : Nat)) : Int).toNat)
 (accC (sumsR l) ((↑(x_1 + (1 : Nat)) : Int).toNat - (1 : Nat)))
 (List.take x_2
 (samesF (sumsR l) ((sumsR l).length - (1 : Nat))
 ((sumsR l).getD (↑(x_1 + (1 : Nat)) : Int).toNat
 (0 : Int))))).snd.length ≤
 (1000 : Nat)) ∧
 (beforeF
 (idxF
 (((lookF (tabN (sumsR l) x)
 ((sumsR l).getD (↑(x_1 + (1 : Nat)) : Int).toNat
 (0 : Int))).getD
 (nilT Int)).getD
 (↑x_2 : Int).toNat (0 : Int)).toNat)
 (List.foldl (stepN (↑(x_1 + (1 : Nat)) : Int).toNat)
 (accC (sumsR l) ((↑(x_1 + (1 : Nat)) : Int).toNat - (1 : Nat)))
 (List.take x_2
 (samesF (sumsR l) ((sumsR l).length - (1 : Nat))
 ((sumsR l).getD (↑(x_1 + (1 : Nat)) : Int).toNat (0 : Int))))).snd =
 true →
 beforeF
 (idxF
 (((lookF (tabN (sumsR l) x)
 ((sumsR l).getD (↑(x_1 + (1 : Nat)) : Int).toNat
 (0 : Int))).getD
 (nilT Int)).getD
 (↑x_2 : Int).toNat (0 : Int)).toNat)
 (List.foldl (stepN (↑(x_1 + (1 : Nat)) : Int).toNat)
 (accC (sumsR l) ((↑(x_1 + (1 : Nat)) : Int).toNat - (1 : Nat)))
 (List.take x_2
 (samesF (sumsR l) ((sumsR l).length - (1 : Nat))
 ((sumsR l).getD (↑(x_1 + (1 : Nat)) : Int).toNat
 (0 : Int))))).snd =
 true ∧
 beforeF
 (idxF
 (((lookF (tabN (sumsR l) x)
 ((sumsR l).getD (↑(x_1 + (1 : Nat)) : Int).toNat
 (0 : Int))).getD
 (nilT Int)).getD
 (↑x_2 : Int).toNat (0 : Int)).toNat)
 (List.foldl (stepN (↑(x_1 + (1 : Nat)) : Int).toNat)
 (accC (sumsR l) ((↑(x_1 + (1 : Nat)) : Int).toNat - (1 : Nat)))
 (List.take x_2
 (samesF (sumsR l) ((sumsR l).length - (1 : Nat))
 ((sumsR l).getD (↑(x_1 + (1 : Nat)) : Int).toNat
 (0 : Int))))).snd =
 true ∧
 beforeF
 (idxF
 (((lookF (tabN (sumsR l) x)
 ((sumsR l).getD (↑(x_1 + (1 : Nat)) : Int).toNat
 (0 : Int))).getD
 (nilT Int)).getD
 (↑x_2 : Int).toNat (0 : Int)).toNat)
 (List.foldl (stepN (↑(x_1 + (1 : Nat)) : Int).toNat)
 (accC (sumsR l) ((↑(x_1 + (1 : Nat)) : Int).toNat - (1 : Nat)))
 (List.take x_2
 (samesF (sumsR l) ((sumsR l).length - (1 : Nat))
 ((sumsR l).getD (↑(x_1 + (1 : Nat)) : Int).toNat
 (0 : Int))))).snd =
 true ∧
 beforeF
 (idxF
 (((lookF (tabN (sumsR l) x)
 ((sumsR l).getD (↑(x_1 + (1 : Nat)) : Int).toNat
 (0 : Int))).getD
 (nilT Int)).getD
 (↑x_2 : Int).toNat (0 : Int)).toNat)
 (List.foldl (stepN (↑(x_1 + (1 : Nat)) : Int).toNat)
 (accC (sumsR l) ((↑(x_1 + (1 : Nat)) : Int).toNat - (1 : Nat)))
 (List.take x_2
 (samesF (sumsR l) ((sumsR l).length - (1 : Nat))
 ((sumsR l).getD (↑(x_1 + (1 : Nat)) : Int).toNat
 (0 : Int))))).snd =
 true ∧
 Fits IntKind.i64 ((↑x_2 : Int) + (1 : Int)) ∧
 ∃ (x' : Nat),
 x' ≤
 (samesF (sumsR l) ((sumsR l).length - (1 : Nat))
 ((sumsR l).getD (↑(x_1 + (1 : Nat)) : Int).toNat
 (0 : Int))).length ∧
 (samesF (sumsR l) ((sumsR l).length - (1 : Nat))
 ((sumsR l).getD (↑(x_1 + (1 : Nat)) : Int).toNat
 (0 : Int))).length -
 x' <
 (samesF (sumsR l) ((sumsR l).length - (1 : Nat))
 ((sumsR l).getD (↑(x_1 + (1 : Nat)) : Int).toNat
 (0 : Int))).length -
 x_2 ∧
 (tabN (sumsR l) x = tabN (sumsR l) x ∧ True) ∧
 (idxF (↑(x_1 + (1 : Nat)) : Int).toNat =
 (List.foldl (stepN (↑(x_1 + (1 : Nat)) : Int).toNat)
 (accC (sumsR l)
 ((↑(x_1 + (1 : Nat)) : Int).toNat - (1 : Nat)))
 (List.take x'
 (samesF (sumsR l) ((sumsR l).length - (1 : Nat))
 ((sumsR l).getD (↑(x_1 + (1 : Nat)) : Int).toNat
 (0 : Int))))).fst ∧
 (List.foldl (stepN (↑(x_1 + (1 : Nat)) : Int).toNat)
 (accC (sumsR l)
 ((↑(x_1 + (1 : Nat)) : Int).toNat - (1 : Nat)))
 (List.take x'
 (samesF (sumsR l) ((sumsR l).length - (1 : Nat))
 ((sumsR l).getD (↑(x_1 + (1 : Nat)) : Int).toNat
 (0 : Int))))).fst ≠
 []) ∧
 idxF
 (((lookF (tabN (sumsR l) x)
 ((sumsR l).getD
 (↑(x_1 + (1 : Nat)) : Int).toNat
 (0 : Int))).getD
 (nilT Int)).getD
 (↑x_2 : Int).toNat (0 : Int)).toNat =
 (List.foldl (stepN (↑(x_1 + (1 : Nat)) : Int).toNat)
 (accC (sumsR l)
 ((↑(x_1 + (1 : Nat)) : Int).toNat - (1 : Nat)))
 (List.take x'
 (samesF (sumsR l) ((sumsR l).length - (1 : Nat))
 ((sumsR l).getD (↑(x_1 + (1 : Nat)) : Int).toNat
 (0 : Int))))).snd ∧
 (↑x_2 : Int) + (1 : Int) = (↑x' : Int) ∧
 (lookF (tabN (sumsR l) x)
 ((sumsR l).getD
 (↑(x_1 + (1 : Nat)) : Int).toNat
 (0 : Int))).getD
 (nilT Int) =
 (lookF (tabN (sumsR l) x)
 ((sumsR l).getD
 (↑(x_1 + (1 : Nat)) : Int).toNat
 (0 : Int))).getD
 (nilT Int) ∧
 (↑(x_1 + (1 : Nat)) : Int) =
 (↑(x_1 + (1 : Nat)) : Int) ∧
 True ∧ sumsR l = sumsR l ∧ True) ∧
 (beforeF
 (idxF
 (((lookF (tabN (sumsR l) x)
 ((sumsR l).getD (↑(x_1 + (1 : Nat)) : Int).toNat
 (0 : Int))).getD
 (nilT Int)).getD
 (↑x_2 : Int).toNat (0 : Int)).toNat)
 (List.foldl (stepN (↑(x_1 + (1 : Nat)) : Int).toNat)
 (accC (sumsR l) ((↑(x_1 + (1 : Nat)) : Int).toNat - (1 : Nat)))
 (List.take x_2
 (samesF (sumsR l) ((sumsR l).length - (1 : Nat))
 ((sumsR l).getD (↑(x_1 + (1 : Nat)) : Int).toNat (0 : Int))))).snd =
 false →
 beforeF
 (idxF
 (((lookF (tabN (sumsR l) x)
 ((sumsR l).getD (↑(x_1 + (1 : Nat)) : Int).toNat
 (0 : Int))).getD
 (nilT Int)).getD
 (↑x_2 : Int).toNat (0 : Int)).toNat)
 (List.foldl (stepN (↑(x_1 + (1 : Nat)) : Int).toNat)
 (accC (sumsR l) ((↑(x_1 + (1 : Nat)) : Int).toNat - (1 : Nat)))
 (List.take x_2
 (samesF (sumsR l) ((sumsR l).length - (1 : Nat))
 ((sumsR l).getD (↑(x_1 + (1 : Nat)) : Int).toNat
 (0 : Int))))).snd =
 false ∧
 beforeF
 (idxF
 (((lookF (tabN (sumsR l) x)
 ((sumsR l).getD (↑(x_1 + (1 : Nat)) : Int).toNat
 (0 : Int))).getD
 (nilT Int)).getD
 (↑x_2 : Int).toNat (0 : Int)).toNat)
 (List.foldl (stepN (↑(x_1 + (1 : Nat)) : Int).toNat)
 (accC (sumsR l) ((↑(x_1 + (1 : Nat)) : Int).toNat - (1 : Nat)))
 (List.take x_2
 (samesF (sumsR l) ((sumsR l).length - (1 : Nat))
 ((sumsR l).getD (↑(x_1 + (1 : Nat)) : Int).toNat
 (0 : Int))))).snd =
 false ∧
 beforeF
 (idxF
 (((lookF (tabN (sumsR l) x)
 ((sumsR l).getD (↑(x_1 + (1 : Nat)) : Int).toNat
 (0 : Int))).getD
 (nilT Int)).getD
 (↑x_2 : Int).toNat (0 : Int)).toNat)
 (List.foldl (stepN (↑(x_1 + (1 : Nat)) : Int).toNat)
 (accC (sumsR l) ((↑(x_1 + (1 : Nat)) : Int).toNat - (1 : Nat)))
 (List.take x_2
 (samesF (sumsR l) ((sumsR l).length - (1 : Nat))
 ((sumsR l).getD (↑(x_1 + (1 : Nat)) : Int).toNat
 (0 : Int))))).snd =
 false ∧
 beforeF
 (idxF
 (((lookF (tabN (sumsR l) x)
 ((sumsR l).getD (↑(x_1 + (1 : Nat)) : Int).toNat
 (0 : Int))).getD
 (nilT Int)).getD
 (↑x_2 : Int).toNat (0 : Int)).toNat)
 (List.foldl (stepN (↑(x_1 + (1 : Nat)) : Int).toNat)
 (accC (sumsR l) ((↑(x_1 + (1 : Nat)) : Int).toNat - (1 : Nat)))
 (List.take x_2
 (samesF (sumsR l) ((sumsR l).length - (1 : Nat))
 ((sumsR l).getD (↑(x_1 + (1 : Nat)) : Int).toNat
 (0 : Int))))).snd =
 false ∧
 Fits IntKind.i64 ((↑x_2 : Int) + (1 : Int)) ∧
 ∃ (x' : Nat),
 x' ≤
 (samesF (sumsR l) ((sumsR l).length - (1 : Nat))
 ((sumsR l).getD (↑(x_1 + (1 : Nat)) : Int).toNat
 (0 : Int))).length ∧
 (samesF (sumsR l) ((sumsR l).length - (1 : Nat))
 ((sumsR l).getD (↑(x_1 + (1 : Nat)) : Int).toNat
 (0 : Int))).length -
 x' <
 (samesF (sumsR l) ((sumsR l).length - (1 : Nat))
 ((sumsR l).getD (↑(x_1 + (1 : Nat)) : Int).toNat
 (0 : Int))).length -
 x_2 ∧
 (tabN (sumsR l) x = tabN (sumsR l) x ∧ True) ∧
 (List.foldl (stepN (↑(x_1 + (1 : Nat)) : Int).toNat)
 (accC (sumsR l)
 ((↑(x_1 + (1 : Nat)) : Int).toNat - (1 : Nat)))
 (List.take x_2
 (samesF (sumsR l) ((sumsR l).length - (1 : Nat))
 ((sumsR l).getD (↑(x_1 + (1 : Nat)) : Int).toNat
 (0 : Int))))).fst =
 (List.foldl (stepN (↑(x_1 + (1 : Nat)) : Int).toNat)
 (accC (sumsR l)
 ((↑(x_1 + (1 : Nat)) : Int).toNat - (1 : Nat)))
 (List.take x'
 (samesF (sumsR l) ((sumsR l).length - (1 : Nat))
 ((sumsR l).getD (↑(x_1 + (1 : Nat)) : Int).toNat
 (0 : Int))))).fst ∧
 (List.foldl (stepN (↑(x_1 + (1 : Nat)) : Int).toNat)
 (accC (sumsR l)
 ((↑(x_1 + (1 : Nat)) : Int).toNat - (1 : Nat)))
 (List.take x_2
 (samesF (sumsR l) ((sumsR l).length - (1 : Nat))
 ((sumsR l).getD (↑(x_1 + (1 : Nat)) : Int).toNat
 (0 : Int))))).snd =
 (List.foldl (stepN (↑(x_1 + (1 : Nat)) : Int).toNat)
 (accC (sumsR l)
 ((↑(x_1 + (1 : Nat)) : Int).toNat - (1 : Nat)))
 (List.take x'
 (samesF (sumsR l) ((sumsR l).length - (1 : Nat))
 ((sumsR l).getD (↑(x_1 + (1 : Nat)) : Int).toNat
 (0 : Int))))).snd ∧
 (↑x_2 : Int) + (1 : Int) = (↑x' : Int) ∧
 (lookF (tabN (sumsR l) x)
 ((sumsR l).getD
 (↑(x_1 + (1 : Nat)) : Int).toNat
 (0 : Int))).getD
 (nilT Int) =
 (lookF (tabN (sumsR l) x)
 ((sumsR l).getD
 (↑(x_1 + (1 : Nat)) : Int).toNat
 (0 : Int))).getD
 (nilT Int) ∧
 (↑(x_1 + (1 : Nat)) : Int) =
 (↑(x_1 + (1 : Nat)) : Int) ∧
 True ∧ sumsR l = sumsR l ∧ True)) ∧
 (decide
 (idxF (↑(x_1 + (1 : Nat)) : Int).toNat =
 (List.foldl (stepN (↑(x_1 + (1 : Nat)) : Int).toNat)
 (accC (sumsR l) ((↑(x_1 + (1 : Nat)) : Int).toNat - (1 : Nat)))
 (List.take x_2
 (samesF (sumsR l) ((sumsR l).length - (1 : Nat))
 ((sumsR l).getD (↑(x_1 + (1 : Nat)) : Int).toNat (0 : Int))))).fst) =
 false →
 decide
 (idxF (↑(x_1 + (1 : Nat)) : Int).toNat =
 (List.foldl (stepN (↑(x_1 + (1 : Nat)) : Int).toNat)
 (accC (sumsR l) ((↑(x_1 + (1 : Nat)) : Int).toNat - (1 : Nat)))
 (List.take x_2
 (samesF (sumsR l) ((sumsR l).length - (1 : Nat))
 ((sumsR l).getD (↑(x_1 + (1 : Nat)) : Int).toNat (0 : Int))))).fst) =
 false ∧
 decide
 (idxF (↑(x_1 + (1 : Nat)) : Int).toNat =
 (List.foldl (stepN (↑(x_1 + (1 : Nat)) : Int).toNat)
 (accC (sumsR l) ((↑(x_1 + (1 : Nat)) : Int).toNat - (1 : Nat)))
 (List.take x_2
 (samesF (sumsR l) ((sumsR l).length - (1 : Nat))
 ((sumsR l).getD (↑(x_1 + (1 : Nat)) : Int).toNat (0 : Int))))).fst) =
 false ∧
 Fits IntKind.i64 ((↑x_2 : Int) + (1 : Int)) ∧
 ∃ (x' : Nat),
 x' ≤
 (samesF (sumsR l) ((sumsR l).length - (1 : Nat))
 ((sumsR l).getD (↑(x_1 + (1 : Nat)) : Int).toNat (0 : Int))).length ∧
 (samesF (sumsR l) ((sumsR l).length - (1 : Nat))
 ((sumsR l).getD (↑(x_1 + (1 : Nat)) : Int).toNat (0 : Int))).length -
 x' <
 (samesF (sumsR l) ((sumsR l).length - (1 : Nat))
 ((sumsR l).getD (↑(x_1 + (1 : Nat)) : Int).toNat (0 : Int))).length -
 x_2 ∧
 (tabN (sumsR l) x = tabN (sumsR l) x ∧ True) ∧
 (List.foldl (stepN (↑(x_1 + (1 : Nat)) : Int).toNat)
 (accC (sumsR l) ((↑(x_1 + (1 : Nat)) : Int).toNat - (1 : Nat)))
 (List.take x_2
 (samesF (sumsR l) ((sumsR l).length - (1 : Nat))
 ((sumsR l).getD (↑(x_1 + (1 : Nat)) : Int).toNat
 (0 : Int))))).fst =
 (List.foldl (stepN (↑(x_1 + (1 : Nat)) : Int).toNat)
 (accC (sumsR l) ((↑(x_1 + (1 : Nat)) : Int).toNat - (1 : Nat)))
 (List.take x'
 (samesF (sumsR l) ((sumsR l).length - (1 : Nat))
 ((sumsR l).getD (↑(x_1 + (1 : Nat)) : Int).toNat
 (0 : Int))))).fst ∧
 (List.foldl (stepN (↑(x_1 + (1 : Nat)) : Int).toNat)
 (accC (sumsR l) ((↑(x_1 + (1 : Nat)) : Int).toNat - (1 : Nat)))
 (List.take x_2
 (samesF (sumsR l) ((sumsR l).length - (1 : Nat))
 ((sumsR l).getD (↑(x_1 + (1 : Nat)) : Int).toNat
 (0 : Int))))).snd =
 (List.foldl (stepN (↑(x_1 + (1 : Nat)) : Int).toNat)
 (accC (sumsR l) ((↑(x_1 + (1 : Nat)) : Int).toNat - (1 : Nat)))
 (List.take x'
 (samesF (sumsR l) ((sumsR l).length - (1 : Nat))
 ((sumsR l).getD (↑(x_1 + (1 : Nat)) : Int).toNat
 (0 : Int))))).snd ∧
 (↑x_2 : Int) + (1 : Int) = (↑x' : Int) ∧
 (lookF (tabN (sumsR l) x)
 ((sumsR l).getD (↑(x_1 + (1 : Nat)) : Int).toNat
 (0 : Int))).getD
 (nilT Int) =
 (lookF (tabN (sumsR l) x)
 ((sumsR l).getD (↑(x_1 + (1 : Nat)) : Int).toNat
 (0 : Int))).getD
 (nilT Int) ∧
 (↑(x_1 + (1 : Nat)) : Int) = (↑(x_1 + (1 : Nat)) : Int) ∧
 True ∧ sumsR l = sumsR l ∧ True)))) ∧
 (beforeF (idxF (↑(x_1 + (1 : Nat)) : Int).toNat)
 (idxF
 (((lookF (tabN (sumsR l) x) ((sumsR l).getD (↑(x_1 + (1 : Nat)) : Int).toNat (0 : Int))).getD (nilT Int)).getD
 (↑x_2 : Int).toNat (0 : Int)).toNat) =
 false →
 beforeF (idxF (↑(x_1 + (1 : Nat)) : Int).toNat)
 (idxF
 (((lookF (tabN (sumsR l) x) ((sumsR l).getD (↑(x_1 + (1 : Nat)) : Int).toNat (0 : Int))).getD (nilT Int)).getD
 (↑x_2 : Int).toNat (0 : Int)).toNat) =
 false ∧
 beforeF (idxF (↑(x_1 + (1 : Nat)) : Int).toNat)
 (idxF
 (((lookF (tabN (sumsR l) x) ((sumsR l).getD (↑(x_1 + (1 : Nat)) : Int).toNat (0 : Int))).getD (nilT Int)).getD
 (↑x_2 : Int).toNat (0 : Int)).toNat) =
 false ∧
 Fits IntKind.i64 ((↑x_2 : Int) + (1 : Int)) ∧
 ∃ (x' : Nat),
 x' ≤
 (samesF (sumsR l) ((sumsR l).length - (1 : Nat))
 ((sumsR l).getD (↑(x_1 + (1 : Nat)) : Int).toNat (0 : Int))).length ∧
 (samesF (sumsR l) ((sumsR l).length - (1 : Nat))
 ((sumsR l).getD (↑(x_1 + (1 : Nat)) : Int).toNat (0 : Int))).length -
 x' <
 (samesF (sumsR l) ((sumsR l).length - (1 : Nat))
 ((sumsR l).getD (↑(x_1 + (1 : Nat)) : Int).toNat (0 : Int))).length -
 x_2 ∧
 (tabN (sumsR l) x = tabN (sumsR l) x ∧ True) ∧
 (List.foldl (stepN (↑(x_1 + (1 : Nat)) : Int).toNat)
 (accC (sumsR l) ((↑(x_1 + (1 : Nat)) : Int).toNat - (1 : Nat)))
 (List.take x_2
 (samesF (sumsR l) ((sumsR l).length - (1 : Nat))
 ((sumsR l).getD (↑(x_1 + (1 : Nat)) : Int).toNat (0 : Int))))).fst =
 (List.foldl (stepN (↑(x_1 + (1 : Nat)) : Int).toNat)
 (accC (sumsR l) ((↑(x_1 + (1 : Nat)) : Int).toNat - (1 : Nat)))
 (List.take x'
 (samesF (sumsR l) ((sumsR l).length - (1 : Nat))
 ((sumsR l).getD (↑(x_1 + (1 : Nat)) : Int).toNat (0 : Int))))).fst ∧
 (List.foldl (stepN (↑(x_1 + (1 : Nat)) : Int).toNat)
 (accC (sumsR l) ((↑(x_1 + (1 : Nat)) : Int).toNat - (1 : Nat)))
 (List.take x_2
 (samesF (sumsR l) ((sumsR l).length - (1 : Nat))
 ((sumsR l).getD (↑(x_1 + (1 : Nat)) : Int).toNat (0 : Int))))).snd =
 (List.foldl (stepN (↑(x_1 + (1 : Nat)) : Int).toNat)
 (accC (sumsR l) ((↑(x_1 + (1 : Nat)) : Int).toNat - (1 : Nat)))
 (List.take x'
 (samesF (sumsR l) ((sumsR l).length - (1 : Nat))
 ((sumsR l).getD (↑(x_1 + (1 : Nat)) : Int).toNat (0 : Int))))).snd ∧
 (↑x_2 : Int) + (1 : Int) = (↑x' : Int) ∧
 (lookF (tabN (sumsR l) x) ((sumsR l).getD (↑(x_1 + (1 : Nat)) : Int).toNat (0 : Int))).getD
 (nilT Int) =
 (lookF (tabN (sumsR l) x) ((sumsR l).getD (↑(x_1 + (1 : Nat)) : Int).toNat (0 : Int))).getD
 (nilT Int) ∧
 (↑(x_1 + (1 : Nat)) : Int) = (↑(x_1 + (1 : Nat)) : Int) ∧ True ∧ sumsR l = sumsR l ∧ True))) ∧
 (¬(↑x_2 : Int) < (↑((lookF (tabN (sumsR l) x) ((sumsR l).getD (↑(x_1 + (1 : Nat)) : Int).toNat (0 : Int))).getD []).length : Int) →
 ¬(↑x_2 : Int) < (↑((lookF (tabN (sumsR l) x) ((sumsR l).getD (↑(x_1 + (1 : Nat)) : Int).toNat (0 : Int))).getD []).length : Int) ∧
 Fits IntKind.i64 ((↑(x_1 + (1 : Nat)) : Int) + (1 : Int)) ∧
 ∃ (x' : Nat),
 x' + (1 : Nat) ≤ (sumsR l).length ∧
 (sumsR l).length - x' < (sumsR l).length - x_1 ∧
 (tabN (sumsR l) x = tabN (sumsR l) x ∧ True) ∧
 (List.foldl (stepN (↑(x_1 + (1 : Nat)) : Int).toNat) (accC (sumsR l) ((↑(x_1 + (1 : Nat)) : Int).toNat - (1 : Nat)))
 (List.take x_2
 (samesF (sumsR l) ((sumsR l).length - (1 : Nat)) ((sumsR l).getD (↑(x_1 + (1 : Nat)) : Int).toNat (0 : Int))))).fst =
 (accC (sumsR l) x').fst ∧
 (List.foldl (stepN (↑(x_1 + (1 : Nat)) : Int).toNat) (accC (sumsR l) ((↑(x_1 + (1 : Nat)) : Int).toNat - (1 : Nat)))
 (List.take x_2
 (samesF (sumsR l) ((sumsR l).length - (1 : Nat)) ((sumsR l).getD (↑(x_1 + (1 : Nat)) : Int).toNat (0 : Int))))).snd =
 (accC (sumsR l) x').snd ∧
 (↑(x_1 + (1 : Nat)) : Int) + (1 : Int) = (↑(x' + (1 : Nat)) : Int) ∧ True ∧ sumsR l = sumsR l ∧ True)) ∧
 (¬(↑(x_1 + (1 : Nat)) : Int) < (↑(sumsR l).length : Int) →
 ¬(↑(x_1 + (1 : Nat)) : Int) < (↑(sumsR l).length : Int) ∧
 ((accC (sumsR l) x_1).fst, (accC (sumsR l) x_1).snd, decide ¬(accC (sumsR l) x_1).fst.length = (0 : Nat)) = refC l))) := by
 kernel_rfl

theorem g36_eq (l : List Int) : g36 l = (
 (l.length ≤ (12 : Nat) ∧ ∀ (v : Int), v ∈ l → (-1000000 : Int) ≤ v ∧ v ≤ (1000000 : Int)) ∧
 Fits IntKind.i64 ((↑(refC l).fst.length : Int) + (↑(refC l).snd.fst.length : Int)) ∧
 decide ((↑(refC l).fst.length : Int) + (↑(refC l).snd.fst.length : Int) = (0 : Int)) = distF l) := by
 kernel_rfl

end Go.SX.We

/- Chapter 08: the reference's sums, sets and first clash, proved. -/
namespace Go.SX.We
open Go Go.Proofs

theorem ok54 : p54.OK Try.prog := p54.ok (fn := Try.f54) C54 (fun _ => cx0') (by kernel_rfl) (by kernel_rfl) (by kernel_rfl) fun p hp => by
  have key : ∀ n : Int, 0 ≤ n → n < 4096 → g54 n := fun n h0 h1 => by
    refine (g54_eq n).mpr ?_
    obtain ⟨m, rfl⟩ : ∃ m : Nat, n = (m : Int) := ⟨n.toNat, by omega⟩
    simp only [pp1, eq_self, and_true, true_and, Int.toNat_natCast, nilT]
    have hm : m < 4096 := by omega
    refine ⟨⟨0, by omega, rfl, rfl⟩, fun k hk => ⟨by omega, fun h2 => ?_, fun h2 => ?_⟩⟩
    · have hk12 : k < 12 := by
        rcases Nat.lt_or_ge k 12 with h | h
        · exact h
        · have ek : k = 12 := by omega
          subst ek
          have : (m : Int) / 2 ^ 12 = 0 := Int.ediv_eq_zero_of_lt (by omega) (by omega)
          omega
      have hl : (idxK m k).length ≤ k := by
        unfold idxK
        rw [List.length_map]
        exact Nat.le_trans (List.length_filter_le _ _) (by simp)
      refine ⟨by omega, fun h3 => ?_, fun h3 => ?_⟩
      · exact ⟨by unfold Small; omega, fi (by omega) (by omega), k + 1, by omega, by omega, by rw [idxK_snoc, (bit_and hm).1 h3]; rfl, by omega⟩
      · have hb : m.testBit k = false := by
          cases hb : m.testBit k with
          | false => rfl
          | true => exact absurd ((bit_and hm).2 hb) h3
        exact ⟨fi (by omega) (by omega), k + 1, by omega, by omega, by rw [idxK_snoc, hb]; rfl, by omega⟩
    · have e1 : (m : Int) / 2 ^ k = ((m / 2 ^ k : Nat) : Int) := by push_cast; rfl
      rw [e1] at h2
      have h3 : m / 2 ^ k = 0 := Nat.eq_zero_of_not_pos fun h => h2 (Int.natCast_pos.2 h)
      rcases Nat.div_eq_zero_iff.1 h3 with h4 | h4
      · have := Nat.two_pow_pos k; omega
      · exact (idxF_eq h4).symm
  exact key p hp.1 hp.2

theorem ok53 : p53.OK Try.prog := p53.ok (fn := Try.f53) C53 (fun _ => cx0') (by kernel_rfl) (by kernel_rfl) (by kernel_rfl) fun p hp => by
  have key : ∀ l : List Int, l.length ≤ 12 → (∀ v ∈ l, -1000000 ≤ v ∧ v ≤ 1000000) → g53 l := fun l hl hv => by
    refine (g53_eq l).mpr ?_
    simp only [pp1, eq_self, and_true, true_and, Int.toNat_natCast, nilT]
    refine ⟨⟨0, by omega, rfl, rfl⟩, fun k hk => ⟨fun h2 => ?_, fun h2 => ?_⟩⟩
    · have hk' : k < l.length := by omega
      have hvk := hv _ (getD_mem l 0 hk')
      have hlt : (l.take k).length ≤ 12 := by rw [List.length_take]; omega
      have hb := sums_bound (l := l.take k) (fun v h => hv v (List.mem_of_mem_take h)) hlt
      have hn := sums_len (l := l.take k) hlt
      have et : l.take (k + 1) = l.take k ++ [l.getD k 0] := by rw [List.take_add_one, List.getElem?_eq_getElem hk']; simp [List.getD, List.getElem?_eq_getElem hk']
      have es : sumsR (l.take (k + 1)) = sumsR (l.take k) ++ (sumsR (l.take k)).map (· + l.getD k 0) := by rw [et, sumsR_snoc]
      generalize sumsR (l.take k) = S at hb hn es
      refine ⟨⟨0, by omega, by simp, rfl⟩, fun j hj => ⟨fun h3 => ?_, fun h3 => ?_⟩⟩
      · have hj' : j < S.length := by omega
        have hg : (S ++ (S.take j).map (fun x => x + l.getD k 0)).getD j 0 = S.getD j 0 := by rw [getD_app, if_pos hj']
        have hsj := hb _ (getD_mem S 0 hj')
        rw [hg]
        refine ⟨⟨by omega, by rw [List.length_append]; omega⟩, by omega, fi (by omega) (by omega), by unfold Small; simp; omega, fi (by omega) (by omega), j + 1, by omega, by omega, ?_, by omega⟩
        rw [List.append_assoc]
        congr 1
        have e : S.take (j + 1) = S.take j ++ [S.getD j 0] := by rw [List.take_add_one, List.getElem?_eq_getElem hj']; simp [List.getD, List.getElem?_eq_getElem hj']
        rw [e, List.map_append]; rfl
      · have ej : j = S.length := by omega
        subst ej
        exact ⟨fi (by omega) (by omega), k + 1, by omega, by omega, by rw [List.take_length, es], by omega⟩
    · have ek : k = l.length := by omega
      subst ek
      rw [List.take_length]
  exact key p hp.1 hp.2

def sameF (a b : List Int) : Bool := decide (a = b)
theorem same_def (a b : List Int) {d : Decidable (a = b)} : @decide (a = b) d = sameF a b := by unfold sameF; congr
theorem stepN_skip {n : Nat} {P : Pr} {m : Int} (h : ¬ m.toNat &&& n = 0) : stepN n P m = P := by unfold stepN; rw [decide_eq_false h]; rfl
theorem stepN_do {n : Nat} {P : Pr} {m : Int} (h : m.toNat &&& n = 0) : stepN n P m = stepP P (idxF n, idxF m.toNat) := by unfold stepN; rw [decide_eq_true h]; rfl
theorem idx_len {n : Nat} (h : n < 4096) : (idxF n).length ≤ 12 := by
  rw [idxF_eq (k := 12) h]
  unfold idxK
  rw [List.length_map]
  exact Nat.le_trans (List.length_filter_le _ _) (by simp)
def SmP (P : Pr) : Prop := P.1.length ≤ 12 ∧ P.2.length ≤ 12
theorem stepN_sm {n : Nat} {P : Pr} {m : Int} (hn : n < 4096) (hm : m.toNat < 4096) (h : SmP P) : SmP (stepN n P m) := by
  unfold stepN stepP
  cases decide (m.toNat &&& n = 0) with
  | false => exact h
  | true =>
    simp only [cond_true]
    cases (beforeF (idxF n) (idxF m.toNat) && (decide (P.1.length = 0) || ltP (idxF n, idxF m.toNat) P)) with
    | false => exact h
    | true => exact ⟨idx_len hn, idx_len hm⟩
theorem fold_sm {n : Nat} (hn : n < 4096) : ∀ (l : List Int) {P : Pr}, (∀ m ∈ l, m.toNat < 4096) → SmP P → SmP (l.foldl (stepN n) P)
  | [], _, _, h => h
  | m :: l, _, hl, h => fold_sm hn l (fun m hm => hl m (List.mem_cons_of_mem _ hm)) (stepN_sm hn (hl m (by simp)) h)
theorem sames_lt {S : List Int} {s m : Int} (h : m ∈ samesF S (S.length - 1) s) : ∃ i : Nat, m = (i : Int) ∧ 1 ≤ i ∧ i < S.length := by
  obtain ⟨i, h1, _, rfl⟩ := mem_sames.1 h
  exact ⟨i + 1, rfl, by omega, by omega⟩
theorem accC_sm {S : List Int} (hS : S.length ≤ 4096) : ∀ k, k < S.length → SmP (accC S k)
  | 0, _ => ⟨by simp [accC], by simp [accC]⟩
  | k + 1, h => fold_sm (by omega) _ (fun m hm => by obtain ⟨i, rfl, _, h2⟩ := sames_lt hm; omega) (accC_sm hS k (by omega))
theorem ok20 : p20.OK Try.prog := p20.ok (fn := Try.f20) C20 (fun _ => cx_ok (cs := [p53.ci, p54.ci, p35.ci, p21.ci]) ⟨PC.OK.ci ok53, PC.OK.ci ok54, PC.OK.ci ok35, PC.OK.ci ok21, trivial⟩ _) (by kernel_rfl) (by kernel_rfl) (by kernel_rfl) fun p hp => by
  have key : ∀ l : List Int, l.length ≤ 12 → (∀ v ∈ l, -1000000 ≤ v ∧ v ≤ 1000000) → g20 l := fun l hl hv => by
    refine (g20_eq l).mpr ?_
    simp only [pp1, eq_self, and_true, true_and, and_self, Int.toNat_natCast, nilT, look_tabN, same_def, Nat.add_sub_cancel]
    obtain ⟨hS1, hS2⟩ := sums_len hl
    have eF : refC l = ((accC (sumsR l) ((sumsR l).length - 1)).1, (accC (sumsR l) ((sumsR l).length - 1)).2, decide (¬ (accC (sumsR l) ((sumsR l).length - 1)).1.length = 0)) := rfl
    rw [eF]
    generalize sumsR l = S at hS1 hS2
    refine ⟨⟨hl, hv⟩, ⟨0, by omega, rfl, rfl⟩, fun a ha => ⟨fun h1 => ?_, fun h1 => ?_⟩⟩
    · have hs := sames_length S a (S.getD (a + 1) 0)
      refine ⟨by omega, by omega, by unfold Small; omega, by unfold Small; omega, fi (by omega) (by omega), a + 1, by omega, by omega, ?_, by omega⟩
      rw [tabN, look_tabN]
    · have ea : a = S.length - 1 := by omega
      subst ea
      refine ⟨⟨0, by omega, rfl, rfl, rfl⟩, fun n hn => ⟨fun h2 => ⟨by omega, ⟨0, by omega, rfl, rfl, rfl⟩, fun j hj => ⟨fun h3 => ?_, fun h3 => ?_⟩⟩, fun h2 => ?_⟩⟩
      · have hn2 : n + 1 < S.length := by omega
        have hlt := fun {m : Int} => @sames_lt S (S.getD (n + 1) 0) m
        have hsm := accC_sm hS2 n (by omega)
        have hm4 : ∀ m ∈ samesF S (S.length - 1) (S.getD (n + 1) 0), m.toNat < 4096 := fun m hm => by obtain ⟨i, rfl, _, h2⟩ := hlt hm; omega
        have hTl := sames_length S (S.length - 1) (S.getD (n + 1) 0)
        generalize hT : samesF S (S.length - 1) (S.getD (n + 1) 0) = T at hj h3 hm4 hlt hTl
        generalize accC S n = A at hsm
        have hj' : j < T.length := by omega
        obtain ⟨i, hi, i1, i2⟩ := hlt (getD_mem T 0 hj')
        have hP := fold_sm (n := n + 1) (by omega) (T.take j) (fun m hm => hm4 m (List.mem_of_mem_take hm)) hsm
        have hst : (T.take (j + 1)).foldl (stepN (n + 1)) A = stepN (n + 1) ((T.take j).foldl (stepN (n + 1)) A) (T.getD j 0) := by
          have e : T.take (j + 1) = T.take j ++ [T.getD j 0] := by rw [List.take_add_one, List.getElem?_eq_getElem hj']; simp [List.getD, List.getElem?_eq_getElem hj']
          rw [e, List.foldl_append]; rfl
        generalize hPe : (T.take j).foldl (stepN (n + 1)) A = P at hst hP
        obtain ⟨hP1, hP2⟩ := hP
        have hi4 : i < 4096 := by omega
        have hb := and64' (a := i) (b := n + 1) hi4 (by omega)
        rw [hi] at hst ⊢
        rw [hb]
        have l1 := idx_len (n := n + 1) (by omega)
        have l2 := idx_len hi4
        have eN : ((i : Int)).toNat = i := Int.toNat_natCast i
        rw [eN]
        have same : stepN (n + 1) P (i : Int) = P → Fits .i64 ((j : Int) + 1) ∧ ∃ x', x' ≤ T.length ∧ T.length - x' < T.length - j ∧ P.1 = ((T.take x').foldl (stepN (n + 1)) A).1 ∧ P.2 = ((T.take x').foldl (stepN (n + 1)) A).2 ∧ (j : Int) + 1 = (x' : Int) := fun h =>
          ⟨fi (by omega) (by omega), j + 1, by omega, by omega, by rw [hst, h], by rw [hst, h], by omega⟩
        have new : stepN (n + 1) P (i : Int) = (idxF (n + 1), idxF i) → Fits .i64 ((j : Int) + 1) ∧ ∃ x', x' ≤ T.length ∧ T.length - x' < T.length - j ∧ (idxF (n + 1) = ((T.take x').foldl (stepN (n + 1)) A).1 ∧ ((T.take x').foldl (stepN (n + 1)) A).1 ≠ []) ∧ idxF i = ((T.take x').foldl (stepN (n + 1)) A).2 ∧ (j : Int) + 1 = (x' : Int) := fun h =>
          ⟨fi (by omega) (by omega), j + 1, by omega, by omega, ⟨by rw [hst, h], by rw [hst, h]; exact idx_ne (Nat.succ_pos n)⟩, by rw [hst, h], by omega⟩
        refine ⟨by omega, fun h4 => same (stepN_skip (by rw [eN]; intro e; exact h4 (by rw [e]; rfl))), fun h4 => ⟨by omega, by omega, by omega, by omega, ?_⟩⟩
        have h4 : i &&& (n + 1) = 0 := by have := Classical.not_not.1 h4; omega
        have hdo : stepN (n + 1) P (i : Int) = stepP P (idxF (n + 1), idxF i) := stepN_do (by rw [eN]; exact h4)
        rw [hdo] at same new
        unfold stepP ltP at same new
        simp only [same_def] at same new
        refine ⟨fun h5 => ⟨fun h6 => new ?_, fun h6 => ⟨by omega, fun h7 => new ?_, fun h7 => ⟨by omega, fun h8 => ⟨by omega, fun h9 => new ?_, fun h9 => same ?_⟩, fun h8 => same ?_⟩⟩⟩, fun h5 => same ?_⟩
        · simp only [h5, decide_eq_true h6, Bool.true_and, Bool.true_or, cond_true]
        · simp only [h5, h7, Bool.true_and, Bool.true_or, Bool.or_true, cond_true]
        · simp only [h5, h8, h9, Bool.true_and, Bool.or_true, cond_true]
        · simp only [h5, h7, h9, decide_eq_false h6, Bool.and_false, Bool.or_false, cond_false]
        · simp only [h5, h7, h8, decide_eq_false h6, Bool.false_and, Bool.and_false, Bool.or_false, cond_false]
        · simp only [h5, Bool.false_and, cond_false]
      · have ej : j = (samesF S (S.length - 1) (S.getD (n + 1) 0)).length := by omega
        subst ej
        rw [List.take_length]
        exact ⟨fi (by omega) (by omega), n + 1, by omega, by omega, rfl, rfl, by omega⟩
      · have en : n = S.length - 1 := by omega
        subst en
        rfl
  exact key p hp.1 hp.2
theorem ok36 : p36.OK Try.prog := p36.ok (fn := Try.f36) C36 (fun _ => cx_ok (cs := [p20.ci]) ⟨PC.OK.ci ok20, trivial⟩ _) (by kernel_rfl) (by kernel_rfl) (by kernel_rfl) fun p hp => by
  have key : ∀ l : List Int, l.length ≤ 12 → (∀ v ∈ l, 1 ≤ v ∧ v ≤ 1000000) → g36 l := fun l hl hv => by
    refine (g36_eq l).mpr ?_
    have h1 : ∀ v ∈ l, 1 ≤ v := fun v h => (hv v h).1
    obtain ⟨hS1, hS2⟩ := sums_len hl
    have hsm : SmP (accC (sumsR l) ((sumsR l).length - 1)) := accC_sm hS2 _ (by omega)
    have a1 : (refC l).1.length ≤ 12 := hsm.1
    have a2 : (refC l).2.1.length ≤ 12 := hsm.2
    refine ⟨⟨hl, fun v h => by have := hv v h; omega⟩, fi (by omega) (by omega), ?_⟩
    have := refC_len h1
    cases hd : distF l with
    | true => exact decide_eq_true (by have := this.2 hd; omega)
    | false => exact decide_eq_false fun e => by have := this.1 (by omega); rw [hd] at this; cases this
  exact key p hp.1 hp.2
end Go.SX.We
