/- Printed by VC.lean: what the executor asks. -/
import Derived.Test.YtfbgbdiajghnbaaDoorPa2
namespace Go.SX.Pa
open Go Go.Proofs
theorem g59_eq (es : List Ed) : g59 es = (
 (∃ (x0 : Nat),
 x0 ≤ es.length ∧
 ([] = (degTo es x0).fst ∧ [] = (degTo es x0).snd.fst ∧ True) ∧
 (0 : Int) = (↑x0 : Int) ∧ (0 : Int) = (degTo es x0).snd.snd ∧ (↑es.length : Int) = (↑es.length : Int) ∧ es = es ∧ True ∧ True ∧ True) ∧
 ∀ (x : Nat),
 x ≤ es.length →
 ((↑x : Int) < (↑es.length : Int) →
 (↑x : Int) < (↑es.length : Int) ∧
 ((0 : Int) ≤ (↑x : Int) ∧ (↑x : Int) < (↑es.length : Int)) ∧
 Fits IntKind.i64 ((lookF (degTo es x).fst (es.getD (↑x : Int).toNat ((0 : Int), (0 : Int))).fst).getD (0 : Int) + (1 : Int)) ∧
 Fits IntKind.i64 ((lookF (degTo es x).snd.fst (es.getD (↑x : Int).toNat ((0 : Int), (0 : Int))).snd).getD (0 : Int) + (1 : Int)) ∧
 Fits IntKind.i64 ((↑x : Int) + (1 : Int)) ∧
 ∃ (x' : Nat),
 x' ≤ es.length ∧
 es.length - x' < es.length - x ∧
 (insF (degTo es x).fst (es.getD (↑x : Int).toNat ((0 : Int), (0 : Int))).fst
 ((lookF (degTo es x).fst (es.getD (↑x : Int).toNat ((0 : Int), (0 : Int))).fst).getD (0 : Int) + (1 : Int)) =
 (degTo es x').fst ∧
 insF (degTo es x).snd.fst (es.getD (↑x : Int).toNat ((0 : Int), (0 : Int))).snd
 ((lookF (degTo es x).snd.fst (es.getD (↑x : Int).toNat ((0 : Int), (0 : Int))).snd).getD (0 : Int) + (1 : Int)) =
 (degTo es x').snd.fst ∧
 True) ∧
 (↑x : Int) + (1 : Int) = (↑x' : Int) ∧
 max
 (max (degTo es x).snd.snd
 ((lookF
 (insF (degTo es x).fst (es.getD (↑x : Int).toNat ((0 : Int), (0 : Int))).fst
 ((lookF (degTo es x).fst (es.getD (↑x : Int).toNat ((0 : Int), (0 : Int))).fst).getD (0 : Int) + (1 : Int)))
 (es.getD (↑x : Int).toNat ((0 : Int), (0 : Int))).fst).getD
 (0 : Int)))
 ((lookF
 (insF (degTo es x).snd.fst (es.getD (↑x : Int).toNat ((0 : Int), (0 : Int))).snd
 ((lookF (degTo es x).snd.fst (es.getD (↑x : Int).toNat ((0 : Int), (0 : Int))).snd).getD (0 : Int) + (1 : Int)))
 (es.getD (↑x : Int).toNat ((0 : Int), (0 : Int))).snd).getD
 (0 : Int)) =
 (degTo es x').snd.snd ∧
 (↑es.length : Int) = (↑es.length : Int) ∧ es = es ∧ True ∧ True ∧ True) ∧
 (¬(↑x : Int) < (↑es.length : Int) → ¬(↑x : Int) < (↑es.length : Int) ∧ (degTo es x).snd.snd = degF es)) := by
 kernel_rfl

theorem g72_eq (es : List Ed) (m : Int) (out : List Int) : g72 es m out = (
 ((↑out.length : Int) = (↑es.length : Int) →
 (↑out.length : Int) = (↑es.length : Int) ∧
 true = (extR es m out).isSome ∧ (True ∧ True) ∧ (es = es ∧ True) ∧ (m = m ∧ True) ∧ (True ∧ True) ∧ out = (extR es m out).getD out ∧ True) ∧
 (¬(↑out.length : Int) = (↑es.length : Int) →
 ¬(↑out.length : Int) = (↑es.length : Int) ∧
 (∃ (x0 : Nat),
 ((↑x0 : Int) ≤ m ∧ ∀ (c : Nat), c < x0 → clashF es (out ++ [(↑c : Int)]) out.length = true ∨ extR es m (out ++ [(↑c : Int)]) = none) ∧
 ((True ∧ True) ∧ (es = es ∧ True) ∧ (m = m ∧ True) ∧ (True ∧ True) ∧ out = loopOut out x0 ∧ True) ∧
 (0 : Int) = (↑x0 : Int) ∧ m = m ∧ (↑out.length : Int) = (↑out.length : Int) ∧ True ∧ True ∧ True ∧ True ∧ True) ∧
 ∀ (x : Nat),
 ((↑x : Int) ≤ m ∧ ∀ (c : Nat), c < x → clashF es (out ++ [(↑c : Int)]) out.length = true ∨ extR es m (out ++ [(↑c : Int)]) = none) →
 ((↑x : Int) < m →
 (↑x : Int) < m ∧
 ((0 : Int) ≤ (↑out.length : Int) ∧ (↑out.length : Int) ≤ (↑(loopOut out x).length : Int)) ∧
 Small ((↑out.length : Int).toNat + ((0 : Nat) + (1 : Nat))) ∧
 (es.length ≤ (1000 : Nat) ∧
 (List.take (↑out.length : Int).toNat (loopOut out x) ++ [(↑x : Int)]).length ≤ (1000 : Nat) ∧
 (0 : Int) ≤ (↑out.length : Int) ∧
 (↑out.length : Int) < (↑es.length : Int) ∧
 (↑out.length : Int) < (↑(List.take (↑out.length : Int).toNat (loopOut out x) ++ [(↑x : Int)]).length : Int)) ∧
 ((!clashF es (List.take (↑out.length : Int).toNat (loopOut out x) ++ [(↑x : Int)]) (↑out.length : Int).toNat) = true →
 (!clashF es (List.take (↑out.length : Int).toNat (loopOut out x) ++ [(↑x : Int)]) (↑out.length : Int).toNat) = true ∧
 (!clashF es (List.take (↑out.length : Int).toNat (loopOut out x) ++ [(↑x : Int)]) (↑out.length : Int).toNat) = true ∧
 True ∧
 ((True ∧ True) ∧
 (es = es ∧ True) ∧
 (m = m ∧ True) ∧
 (True ∧ True) ∧
 List.take (↑out.length : Int).toNat (loopOut out x) ++ [(↑x : Int)] =
 List.take (↑out.length : Int).toNat (loopOut out x) ++ [(↑x : Int)] ∧
 True) ∧
 (True ∧ True ∧ True ∧ True ∧ True) ∧
 (((List.take (↑out.length : Int).toNat (loopOut out x) ++ [(↑x : Int)]).length ≤ es.length ∧
 es.length ≤ (1000 : Nat) ∧ (0 : Int) ≤ m ∧ m ≤ (1000 : Int)) ∧
 m72 (es, m, List.take (↑out.length : Int).toNat (loopOut out x) ++ [(↑x : Int)]) < m72 (es, m, out)) ∧
 ((extR es m (List.take (↑out.length : Int).toNat (loopOut out x) ++ [(↑x : Int)])).isSome = true →
 (extR es m (List.take (↑out.length : Int).toNat (loopOut out x) ++ [(↑x : Int)])).isSome = true ∧
 (extR es m (List.take (↑out.length : Int).toNat (loopOut out x) ++ [(↑x : Int)])).isSome = true ∧
 true = (extR es m out).isSome ∧
 (True ∧ True) ∧
 (es = es ∧ True) ∧
 (m = m ∧ True) ∧
 (True ∧ True) ∧
 (extR es m (List.take (↑out.length : Int).toNat (loopOut out x) ++ [(↑x : Int)])).getD
 (List.take (↑out.length : Int).toNat (loopOut out x) ++ [(↑x : Int)]) =
 (extR es m out).getD out ∧
 True) ∧
 ((extR es m (List.take (↑out.length : Int).toNat (loopOut out x) ++ [(↑x : Int)])).isSome = false →
 (extR es m (List.take (↑out.length : Int).toNat (loopOut out x) ++ [(↑x : Int)])).isSome = false ∧
 (extR es m (List.take (↑out.length : Int).toNat (loopOut out x) ++ [(↑x : Int)])).isSome = false ∧
 Fits IntKind.i64 ((↑x : Int) + (1 : Int)) ∧
 ∃ (x' : Nat),
 ((↑x' : Int) ≤ m ∧
 ∀ (c : Nat), c < x' → clashF es (out ++ [(↑c : Int)]) out.length = true ∨ extR es m (out ++ [(↑c : Int)]) = none) ∧
 m.toNat - x' < m.toNat - x ∧
 ((True ∧ True) ∧
 (es = es ∧ True) ∧
 (m = m ∧ True) ∧
 (True ∧ True) ∧
 (extR es m (List.take (↑out.length : Int).toNat (loopOut out x) ++ [(↑x : Int)])).getD
 (List.take (↑out.length : Int).toNat (loopOut out x) ++ [(↑x : Int)]) =
 loopOut out x' ∧
 True) ∧
 (↑x : Int) + (1 : Int) = (↑x' : Int) ∧
 m = m ∧ (↑out.length : Int) = (↑out.length : Int) ∧ True ∧ True ∧ True ∧ True ∧ True)) ∧
 ((!clashF es (List.take (↑out.length : Int).toNat (loopOut out x) ++ [(↑x : Int)]) (↑out.length : Int).toNat) = false →
 (!clashF es (List.take (↑out.length : Int).toNat (loopOut out x) ++ [(↑x : Int)]) (↑out.length : Int).toNat) = false ∧
 (!clashF es (List.take (↑out.length : Int).toNat (loopOut out x) ++ [(↑x : Int)]) (↑out.length : Int).toNat) = false ∧
 Fits IntKind.i64 ((↑x : Int) + (1 : Int)) ∧
 ∃ (x' : Nat),
 ((↑x' : Int) ≤ m ∧ ∀ (c : Nat), c < x' → clashF es (out ++ [(↑c : Int)]) out.length = true ∨ extR es m (out ++ [(↑c : Int)]) = none) ∧
 m.toNat - x' < m.toNat - x ∧
 ((True ∧ True) ∧
 (es = es ∧ True) ∧
 (m = m ∧ True) ∧ (True ∧ True) ∧ List.take (↑out.length : Int).toNat (loopOut out x) ++ [(↑x : Int)] = loopOut out x' ∧ True) ∧
 (↑x : Int) + (1 : Int) = (↑x' : Int) ∧ m = m ∧ (↑out.length : Int) = (↑out.length : Int) ∧ True ∧ True ∧ True ∧ True ∧ True)) ∧
 (¬(↑x : Int) < m →
 ¬(↑x : Int) < m ∧
 ((0 : Int) ≤ (↑out.length : Int) ∧ (↑out.length : Int) ≤ (↑(loopOut out x).length : Int)) ∧
 false = (extR es m out).isSome ∧
 (True ∧ True) ∧ (es = es ∧ True) ∧ (m = m ∧ True) ∧ (True ∧ True) ∧ List.take (↑out.length : Int).toNat (loopOut out x) = (extR es m out).getD out ∧ True))) := by
 kernel_rfl

theorem g58_eq (es : List Ed) (m : Int) : g58 es m = (
 es.length ≤ (1000 : Nat) ∧
 (m < degF es → m < degF es ∧ colF es m = none) ∧
 (¬m < degF es →
 ¬m < degF es ∧
 ((0 : Int) ≤ (0 : Int) ∧ (0 : Int) ≤ (↑es.length : Int) ∧ Small (↑es.length : Int).toNat) ∧
 True ∧
 ((True ∧ True) ∧
 (es = es ∧ True) ∧ (m = m ∧ True) ∧ (True ∧ True) ∧ List.replicate (Int.toNat (0 : Int)) (0 : Int) = List.replicate (Int.toNat (0 : Int)) (0 : Int) ∧ True) ∧
 (True ∧ True ∧ True ∧ True ∧ True) ∧
 ((List.replicate (Int.toNat (0 : Int)) (0 : Int)).length ≤ es.length ∧ es.length ≤ (1000 : Nat) ∧ (0 : Int) ≤ m ∧ m ≤ (1000 : Int)) ∧
 ((!(extR es m (List.replicate (Int.toNat (0 : Int)) (0 : Int))).isSome) = true →
 (!(extR es m (List.replicate (Int.toNat (0 : Int)) (0 : Int))).isSome) = true ∧ colF es m = none) ∧
 ((!(extR es m (List.replicate (Int.toNat (0 : Int)) (0 : Int))).isSome) = false →
 (!(extR es m (List.replicate (Int.toNat (0 : Int)) (0 : Int))).isSome) = false ∧
 colF es m = some ((extR es m (List.replicate (Int.toNat (0 : Int)) (0 : Int))).getD (List.replicate (Int.toNat (0 : Int)) (0 : Int)))))) := by
 kernel_rfl

end Go.SX.Pa
