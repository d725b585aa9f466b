/- Printed by VC.lean: what the executor asks. -/
import Derived.Test.YtfbgbdiajghnbaaDoorPa11
namespace Go.SX.Pa
open Go Go.Proofs
theorem g4_eq (a : Int) (c : Int) (es : List Ed) : g4 a c es = (
 ((0 : Int) ≤ (↑(0 : Nat) : Int) ∧ (↑(0 : Nat) : Int) ≤ min (↑es.length : Int) (13 : Int) ∧ min (↑es.length : Int) (13 : Int) ≤ (↑es.length : Int)) ∧
 True ∧
 Small ((0 : Nat) + (List.drop (↑(0 : Nat) : Int).toNat (List.take (min (↑es.length : Int) (13 : Int)).toNat es)).length) ∧
 (List.drop (↑(0 : Nat) : Int).toNat (List.take (min (↑es.length : Int) (13 : Int)).toNat es)).length ≤ (1000 : Nat) ∧
 (List.drop (↑(0 : Nat) : Int).toNat (List.take (min (↑es.length : Int) (13 : Int)).toNat es)).length ≤ (1000 : Nat) ∧
 (¬graphF a c (List.drop (↑(0 : Nat) : Int).toNat (List.take (min (↑es.length : Int) (13 : Int)).toNat es)) = (0 : Int) →
 ¬graphF a c (List.drop (↑(0 : Nat) : Int).toNat (List.take (min (↑es.length : Int) (13 : Int)).toNat es)) = (0 : Int) ∧
 ((↑(colorsF a c (List.drop (↑(0 : Nat) : Int).toNat (List.take (min (↑es.length : Int) (13 : Int)).toNat es))).fst.length : Int) = (0 : Int) →
 (↑(colorsF a c (List.drop (↑(0 : Nat) : Int).toNat (List.take (min (↑es.length : Int) (13 : Int)).toNat es))).fst.length : Int) = (0 : Int) ∧
 (↑(colorsF a c (List.drop (↑(0 : Nat) : Int).toNat (List.take (min (↑es.length : Int) (13 : Int)).toNat es))).fst.length : Int) = (0 : Int) ∧
 ((colorsF a c (List.drop (↑(0 : Nat) : Int).toNat (List.take (min (↑es.length : Int) (13 : Int)).toNat es))).snd =
 graphF a c (List.drop (↑(0 : Nat) : Int).toNat (List.take (min (↑es.length : Int) (13 : Int)).toNat es)) →
 (colorsF a c (List.drop (↑(0 : Nat) : Int).toNat (List.take (min (↑es.length : Int) (13 : Int)).toNat es))).snd =
 graphF a c (List.drop (↑(0 : Nat) : Int).toNat (List.take (min (↑es.length : Int) (13 : Int)).toNat es)) ∧
 (colorsF a c (List.drop (↑(0 : Nat) : Int).toNat (List.take (min (↑es.length : Int) (13 : Int)).toNat es))).snd =
 graphF a c (List.drop (↑(0 : Nat) : Int).toNat (List.take (min (↑es.length : Int) (13 : Int)).toNat es)) ∧
 (colorsF a c (List.drop (↑(0 : Nat) : Int).toNat (List.take (min (↑es.length : Int) (13 : Int)).toNat es))).snd =
 graphF a c (List.drop (↑(0 : Nat) : Int).toNat (List.take (min (↑es.length : Int) (13 : Int)).toNat es)) ∧
 True ∧ true = true) ∧
 (¬(colorsF a c (List.drop (↑(0 : Nat) : Int).toNat (List.take (min (↑es.length : Int) (13 : Int)).toNat es))).snd =
 graphF a c (List.drop (↑(0 : Nat) : Int).toNat (List.take (min (↑es.length : Int) (13 : Int)).toNat es)) →
 ¬(colorsF a c (List.drop (↑(0 : Nat) : Int).toNat (List.take (min (↑es.length : Int) (13 : Int)).toNat es))).snd =
 graphF a c (List.drop (↑(0 : Nat) : Int).toNat (List.take (min (↑es.length : Int) (13 : Int)).toNat es)) ∧
 ¬(colorsF a c (List.drop (↑(0 : Nat) : Int).toNat (List.take (min (↑es.length : Int) (13 : Int)).toNat es))).snd =
 graphF a c (List.drop (↑(0 : Nat) : Int).toNat (List.take (min (↑es.length : Int) (13 : Int)).toNat es)) ∧
 ¬(colorsF a c (List.drop (↑(0 : Nat) : Int).toNat (List.take (min (↑es.length : Int) (13 : Int)).toNat es))).snd =
 graphF a c (List.drop (↑(0 : Nat) : Int).toNat (List.take (min (↑es.length : Int) (13 : Int)).toNat es)) ∧
 false = true)) ∧
 (¬(↑(colorsF a c (List.drop (↑(0 : Nat) : Int).toNat (List.take (min (↑es.length : Int) (13 : Int)).toNat es))).fst.length : Int) = (0 : Int) →
 ¬(↑(colorsF a c (List.drop (↑(0 : Nat) : Int).toNat (List.take (min (↑es.length : Int) (13 : Int)).toNat es))).fst.length : Int) = (0 : Int) ∧
 ¬(↑(colorsF a c (List.drop (↑(0 : Nat) : Int).toNat (List.take (min (↑es.length : Int) (13 : Int)).toNat es))).fst.length : Int) = (0 : Int) ∧
 false = true)) ∧
 (¬¬graphF a c (List.drop (↑(0 : Nat) : Int).toNat (List.take (min (↑es.length : Int) (13 : Int)).toNat es)) = (0 : Int) →
 ¬¬graphF a c (List.drop (↑(0 : Nat) : Int).toNat (List.take (min (↑es.length : Int) (13 : Int)).toNat es)) = (0 : Int) ∧
 (List.drop (↑(0 : Nat) : Int).toNat (List.take (min (↑es.length : Int) (13 : Int)).toNat es)).length ≤ (1000 : Nat) ∧
 (((List.drop (↑(0 : Nat) : Int).toNat (List.take (min (↑es.length : Int) (13 : Int)).toNat es)).length ≤ (1000 : Nat) ∧
 (0 : Nat) ≤ (List.drop (↑(0 : Nat) : Int).toNat (List.take (min (↑es.length : Int) (13 : Int)).toNat es)).length) ∧
 (0 : Int) ≤ degR (List.drop (↑(0 : Nat) : Int).toNat (List.take (min (↑es.length : Int) (13 : Int)).toNat es)) (6 : Nat) ∧
 degR (List.drop (↑(0 : Nat) : Int).toNat (List.take (min (↑es.length : Int) (13 : Int)).toNat es)) (6 : Nat) ≤ (1000 : Int)) ∧
 (refC (List.drop (↑(0 : Nat) : Int).toNat (List.take (min (↑es.length : Int) (13 : Int)).toNat es))
 (degR (List.drop (↑(0 : Nat) : Int).toNat (List.take (min (↑es.length : Int) (13 : Int)).toNat es)) (6 : Nat)) [] =
 none →
 ((colorsF a c (List.drop (↑(0 : Nat) : Int).toNat (List.take (min (↑es.length : Int) (13 : Int)).toNat es))).fst.length ≤ (1000 : Nat) ∧
 (0 : Nat) ≤ (1000 : Nat)) ∧
 (decide ((colorsF a c (List.drop (↑(0 : Nat) : Int).toNat (List.take (min (↑es.length : Int) (13 : Int)).toNat es))).fst = []) = true →
 decide ((colorsF a c (List.drop (↑(0 : Nat) : Int).toNat (List.take (min (↑es.length : Int) (13 : Int)).toNat es))).fst = []) = true ∧
 decide ((colorsF a c (List.drop (↑(0 : Nat) : Int).toNat (List.take (min (↑es.length : Int) (13 : Int)).toNat es))).fst = []) = true ∧
 ((colorsF a c (List.drop (↑(0 : Nat) : Int).toNat (List.take (min (↑es.length : Int) (13 : Int)).toNat es))).snd = (0 : Int) →
 (colorsF a c (List.drop (↑(0 : Nat) : Int).toNat (List.take (min (↑es.length : Int) (13 : Int)).toNat es))).snd = (0 : Int) ∧
 (colorsF a c (List.drop (↑(0 : Nat) : Int).toNat (List.take (min (↑es.length : Int) (13 : Int)).toNat es))).snd = (0 : Int) ∧
 (colorsF a c (List.drop (↑(0 : Nat) : Int).toNat (List.take (min (↑es.length : Int) (13 : Int)).toNat es))).snd = (0 : Int) ∧
 True ∧ true = true) ∧
 (¬(colorsF a c (List.drop (↑(0 : Nat) : Int).toNat (List.take (min (↑es.length : Int) (13 : Int)).toNat es))).snd = (0 : Int) →
 ¬(colorsF a c (List.drop (↑(0 : Nat) : Int).toNat (List.take (min (↑es.length : Int) (13 : Int)).toNat es))).snd = (0 : Int) ∧
 ¬(colorsF a c (List.drop (↑(0 : Nat) : Int).toNat (List.take (min (↑es.length : Int) (13 : Int)).toNat es))).snd = (0 : Int) ∧
 ¬(colorsF a c (List.drop (↑(0 : Nat) : Int).toNat (List.take (min (↑es.length : Int) (13 : Int)).toNat es))).snd = (0 : Int) ∧
 false = true)) ∧
 (decide ((colorsF a c (List.drop (↑(0 : Nat) : Int).toNat (List.take (min (↑es.length : Int) (13 : Int)).toNat es))).fst = []) = false →
 decide ((colorsF a c (List.drop (↑(0 : Nat) : Int).toNat (List.take (min (↑es.length : Int) (13 : Int)).toNat es))).fst = []) = false ∧
 decide ((colorsF a c (List.drop (↑(0 : Nat) : Int).toNat (List.take (min (↑es.length : Int) (13 : Int)).toNat es))).fst = []) = false ∧
 false = true)) ∧
 ∀ (ys : List Int),
 refC (List.drop (↑(0 : Nat) : Int).toNat (List.take (min (↑es.length : Int) (13 : Int)).toNat es))
 (degR (List.drop (↑(0 : Nat) : Int).toNat (List.take (min (↑es.length : Int) (13 : Int)).toNat es)) (6 : Nat)) [] =
 some ys →
 ((colorsF a c (List.drop (↑(0 : Nat) : Int).toNat (List.take (min (↑es.length : Int) (13 : Int)).toNat es))).fst.length ≤ (1000 : Nat) ∧
 ys.length ≤ (1000 : Nat)) ∧
 (decide ((colorsF a c (List.drop (↑(0 : Nat) : Int).toNat (List.take (min (↑es.length : Int) (13 : Int)).toNat es))).fst = ys) = true →
 decide ((colorsF a c (List.drop (↑(0 : Nat) : Int).toNat (List.take (min (↑es.length : Int) (13 : Int)).toNat es))).fst = ys) = true ∧
 decide ((colorsF a c (List.drop (↑(0 : Nat) : Int).toNat (List.take (min (↑es.length : Int) (13 : Int)).toNat es))).fst = ys) = true ∧
 ((colorsF a c (List.drop (↑(0 : Nat) : Int).toNat (List.take (min (↑es.length : Int) (13 : Int)).toNat es))).snd = (0 : Int) →
 (colorsF a c (List.drop (↑(0 : Nat) : Int).toNat (List.take (min (↑es.length : Int) (13 : Int)).toNat es))).snd = (0 : Int) ∧
 (colorsF a c (List.drop (↑(0 : Nat) : Int).toNat (List.take (min (↑es.length : Int) (13 : Int)).toNat es))).snd = (0 : Int) ∧
 (colorsF a c (List.drop (↑(0 : Nat) : Int).toNat (List.take (min (↑es.length : Int) (13 : Int)).toNat es))).snd = (0 : Int) ∧
 True ∧ true = true) ∧
 (¬(colorsF a c (List.drop (↑(0 : Nat) : Int).toNat (List.take (min (↑es.length : Int) (13 : Int)).toNat es))).snd = (0 : Int) →
 ¬(colorsF a c (List.drop (↑(0 : Nat) : Int).toNat (List.take (min (↑es.length : Int) (13 : Int)).toNat es))).snd = (0 : Int) ∧
 ¬(colorsF a c (List.drop (↑(0 : Nat) : Int).toNat (List.take (min (↑es.length : Int) (13 : Int)).toNat es))).snd = (0 : Int) ∧
 ¬(colorsF a c (List.drop (↑(0 : Nat) : Int).toNat (List.take (min (↑es.length : Int) (13 : Int)).toNat es))).snd = (0 : Int) ∧
 false = true)) ∧
 (decide ((colorsF a c (List.drop (↑(0 : Nat) : Int).toNat (List.take (min (↑es.length : Int) (13 : Int)).toNat es))).fst = ys) = false →
 decide ((colorsF a c (List.drop (↑(0 : Nat) : Int).toNat (List.take (min (↑es.length : Int) (13 : Int)).toNat es))).fst = ys) = false ∧
 decide ((colorsF a c (List.drop (↑(0 : Nat) : Int).toNat (List.take (min (↑es.length : Int) (13 : Int)).toNat es))).fst = ys) = false ∧
 false = true))) := by
 kernel_rfl

end Go.SX.Pa
