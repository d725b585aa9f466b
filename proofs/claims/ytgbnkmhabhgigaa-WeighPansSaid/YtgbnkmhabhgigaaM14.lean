/- Parts of the proof, one after the other: WePt We14 We14E We14Q. -/
import Derived.Test.YtgbnkmhabhgigaaM13
/- Chapter 08: parts of weights, in plain words. -/
namespace Go.SX.We

def partL (p : Nat → Bool) (l : List Int) (k : Nat) : List Int := ((List.range k).filter p).map fun i => l.getD i 0
theorem partL_snoc (p : Nat → Bool) (l : List Int) (k : Nat) : partL p l (k + 1) = bif p k then partL p l k ++ [l.getD k 0] else partL p l k := by
  unfold partL
  rw [List.range_succ, List.filter_append, List.map_append]
  cases h : p k <;> simp [h]
theorem partL_sub (p : Nat → Bool) (l : List Int) : List.Sublist (partL p l l.length) l := by
  have e : l = (List.range l.length).map fun i => l.getD i 0 := by
    apply List.ext_getElem
    · simp
    · intro i h1 h2
      simp [List.getD, List.getElem?_eq_getElem h1]
  unfold partL
  conv => rhs; rw [e]
  exact (List.filter_sublist).map _
theorem part_wts {l s : List Int} (h : Wts l) (hs : List.Sublist s l) (hn : 0 < s.length) : Wts s :=
  ⟨by have := hs.length_le; have := h.len; omega, hn, fun v hv => h.lo v (hs.subset hv), fun v hv => h.hi v (hs.subset hv), h.up.sublist hs⟩
theorem partL_len (p : Nat → Bool) (l : List Int) (k : Nat) : (partL p l k).length ≤ k := by
  unfold partL
  rw [List.length_map]
  exact Nat.le_trans (List.length_filter_le _ _) (by simp)
end Go.SX.We

/- Chapter 08: the law of Parts, what is asked. -/
namespace Go.SX.We
open Go Go.Proofs
noncomputable section
@[reducible] def p11 : PC := ⟨11, [aWs, aW, aB2], [aB], fun p => (∀ v ∈ p.1, 0 ≤ v ∧ v ≤ 65535) ∧ (0 ≤ p.2.1 ∧ p.2.1 ≤ 65535) ∧ (0 ≤ p.2.2.1 ∧ p.2.2.1 ≤ 255) ∧ 0 ≤ p.2.2.2 ∧ p.2.2.2 ≤ 255, fun _ => true⟩
def lP (x : List Int) (k : Int) : List Int := if k % 3 = 0 then madeF x 8 else dblF x (decide (k % 2 = 0))
def bitP (q : Int) (i : Nat) : Bool := decide (bitsF .and .u16 (q / 2 ^ i) 1 = 1)
@[reducible] def A11 (l : List Int) (q b : Int) : Ann where
  τ := Nat
  pre := []
  preC := []
  keep := [1, 7, 8]
  slots k := [(10, .c (.own 1 1)), (11, .c (.own 2 1)), (12, .c (.int .i64 k)), (9, .c (.ro (.int .i64) l))]
  ents k := [(1, .row 3 (.int .i64) 0 (partL (bitP q) l k)), (2, .row 3 (.int .i64) 0 ((l.take k).map (· * (b % 5 + 1))))]
  ok k := k ≤ l.length
  m k := l.length - k
@[reducible] def C11 (p : List Int × Int × Int × Int) : Ctx := cx [p32.ci, p37.ci, p18.ci, p16.ci, p19.ci] [(0, fun _ => A11 (lP p.1 p.2.2.2) p.2.1 p.2.2.1)]
def g11 (x : List Int) (q b k : Int) : Prop := p11.VC (C11 (x, q, b, k)) Try.f11 (x, q, b, k)
end
end Go.SX.We

/- Printed by VC.lean: what the executor asks. -/
namespace Go.SX.We
open Go Go.Proofs
theorem g11_eq (x : List Int) (q : Int) (b : Int) (k : Int) : g11 x q b k = (
 ((0 : Int) ≤ k ∧ (0 : Int) < (2 : Int)) ∧
 (∀ (v : Int), v ∈ x → (0 : Int) ≤ v ∧ v ≤ (65535 : Int)) ∧
 ((0 : Int) ≤ k ∧ (0 : Int) < (3 : Int)) ∧
 (k % (3 : Int) = (0 : Int) →
 k % (3 : Int) = (0 : Int) ∧
 ((∀ (v : Int), v ∈ x → (0 : Int) ≤ v ∧ v ≤ (65535 : Int)) ∧ (1 : Int) ≤ (8 : Int) ∧ (8 : Int) ≤ (12 : Int)) ∧
 (∃ (x0 : Nat),
 x0 ≤ (lP x k).length ∧
 ((b = b ∧ k = k ∧ True) ∧
 nilT Int = partL (bitP q) (lP x k) x0 ∧ nilT Int = List.map (fun (x : Int) => x * (b % (5 : Int) + (1 : Int))) (List.take x0 (lP x k)) ∧ True) ∧
 True ∧ True ∧ (0 : Int) = (↑x0 : Int) ∧ madeF x (Int.toNat (8 : Int)) = lP x k ∧ k = k ∧ b = b ∧ q = q ∧ True) ∧
 ∀ (x_1 : Nat),
 x_1 ≤ (lP x k).length →
 ((↑x_1 : Int) < (↑(lP x k).length : Int) →
 (↑x_1 : Int) < (↑(lP x k).length : Int) ∧
 ((0 : Int) ≤ (↑x_1 : Int) ∧ (↑x_1 : Int) < (↑IntKind.u16.bits : Int)) ∧
 (bitsF BinOp.and IntKind.u16 (q / (2 : Int) ^ (↑x_1 : Int).toNat) (1 : Int) = (1 : Int) →
 bitsF BinOp.and IntKind.u16 (q / (2 : Int) ^ (↑x_1 : Int).toNat) (1 : Int) = (1 : Int) ∧
 ((0 : Int) ≤ (↑x_1 : Int) ∧ (↑x_1 : Int) < (↑(lP x k).length : Int)) ∧
 Small ((partL (bitP q) (lP x k) x_1).length + ((0 : Nat) + (1 : Nat))) ∧
 ((0 : Int) ≤ (↑x_1 : Int) ∧ (↑x_1 : Int) < (↑(lP x k).length : Int)) ∧
 Fits IntKind.i64 b ∧
 ((0 : Int) ≤ b ∧ (0 : Int) < (5 : Int)) ∧
 Fits IntKind.i64 (b % (5 : Int) + (1 : Int)) ∧
 Fits IntKind.i64 ((lP x k).getD (↑x_1 : Int).toNat (0 : Int) * (b % (5 : Int) + (1 : Int))) ∧
 Small ((List.map (fun (x : Int) => x * (b % (5 : Int) + (1 : Int))) (List.take x_1 (lP x k))).length + ((0 : Nat) + (1 : Nat))) ∧
 Fits IntKind.i64 ((↑x_1 : Int) + (1 : Int)) ∧
 ∃ (x' : Nat),
 x' ≤ (lP x k).length ∧
 (lP x k).length - x' < (lP x k).length - x_1 ∧
 ((b = b ∧ k = k ∧ True) ∧
 partL (bitP q) (lP x k) x_1 ++ [(lP x k).getD (↑x_1 : Int).toNat (0 : Int)] = partL (bitP q) (lP x k) x' ∧
 List.map (fun (x : Int) => x * (b % (5 : Int) + (1 : Int))) (List.take x_1 (lP x k)) ++
 [(lP x k).getD (↑x_1 : Int).toNat (0 : Int) * (b % (5 : Int) + (1 : Int))] =
 List.map (fun (x : Int) => x * (b % (5 : Int) + (1 : Int))) (List.take x' (lP x k)) ∧
 True) ∧
 True ∧ True ∧ (↑x_1 : Int) + (1 : Int) = (↑x' : Int) ∧ lP x k = lP x k ∧ k = k ∧ b = b ∧ q = q ∧ True) ∧
 (¬bitsF BinOp.and IntKind.u16 (q / (2 : Int) ^ (↑x_1 : Int).toNat) (1 : Int) = (1 : Int) →
 ¬bitsF BinOp.and IntKind.u16 (q / (2 : Int) ^ (↑x_1 : Int).toNat) (1 : Int) = (1 : Int) ∧
 ((0 : Int) ≤ (↑x_1 : Int) ∧ (↑x_1 : Int) < (↑(lP x k).length : Int)) ∧
 Fits IntKind.i64 b ∧
 ((0 : Int) ≤ b ∧ (0 : Int) < (5 : Int)) ∧
 Fits IntKind.i64 (b % (5 : Int) + (1 : Int)) ∧
 Fits IntKind.i64 ((lP x k).getD (↑x_1 : Int).toNat (0 : Int) * (b % (5 : Int) + (1 : Int))) ∧
 Small ((List.map (fun (x : Int) => x * (b % (5 : Int) + (1 : Int))) (List.take x_1 (lP x k))).length + ((0 : Nat) + (1 : Nat))) ∧
 Fits IntKind.i64 ((↑x_1 : Int) + (1 : Int)) ∧
 ∃ (x' : Nat),
 x' ≤ (lP x k).length ∧
 (lP x k).length - x' < (lP x k).length - x_1 ∧
 ((b = b ∧ k = k ∧ True) ∧
 partL (bitP q) (lP x k) x_1 = partL (bitP q) (lP x k) x' ∧
 List.map (fun (x : Int) => x * (b % (5 : Int) + (1 : Int))) (List.take x_1 (lP x k)) ++
 [(lP x k).getD (↑x_1 : Int).toNat (0 : Int) * (b % (5 : Int) + (1 : Int))] =
 List.map (fun (x : Int) => x * (b % (5 : Int) + (1 : Int))) (List.take x' (lP x k)) ∧
 True) ∧
 True ∧ True ∧ (↑x_1 : Int) + (1 : Int) = (↑x' : Int) ∧ lP x k = lP x k ∧ k = k ∧ b = b ∧ q = q ∧ True)) ∧
 (¬(↑x_1 : Int) < (↑(lP x k).length : Int) →
 ¬(↑x_1 : Int) < (↑(lP x k).length : Int) ∧
 ((↑(partL (bitP q) (lP x k) x_1).length : Int) = (0 : Int) →
 (↑(partL (bitP q) (lP x k) x_1).length : Int) = (0 : Int) ∧ (↑(partL (bitP q) (lP x k) x_1).length : Int) = (0 : Int) ∧ True ∧ true = true) ∧
 (¬(↑(partL (bitP q) (lP x k) x_1).length : Int) = (0 : Int) →
 ¬(↑(partL (bitP q) (lP x k) x_1).length : Int) = (0 : Int) ∧
 ¬(↑(partL (bitP q) (lP x k) x_1).length : Int) = (0 : Int) ∧
 (lP x k).length ≤ (1000 : Nat) ∧
 (¬checkF (lP x k) (12 : Int) = (0 : Int) →
 ¬checkF (lP x k) (12 : Int) = (0 : Int) ∧
 ¬checkF (lP x k) (12 : Int) = (0 : Int) ∧ ¬checkF (lP x k) (12 : Int) = (0 : Int) ∧ True ∧ true = true) ∧
 (¬¬checkF (lP x k) (12 : Int) = (0 : Int) →
 ¬¬checkF (lP x k) (12 : Int) = (0 : Int) ∧
 ¬¬checkF (lP x k) (12 : Int) = (0 : Int) ∧
 ¬¬checkF (lP x k) (12 : Int) = (0 : Int) ∧
 (List.map (fun (x : Int) => x * (b % (5 : Int) + (1 : Int))) (List.take x_1 (lP x k))).length ≤ (1000 : Nat) ∧
 (¬checkF (List.map (fun (x : Int) => x * (b % (5 : Int) + (1 : Int))) (List.take x_1 (lP x k))) (12 : Int) = (0 : Int) →
 ¬checkF (List.map (fun (x : Int) => x * (b % (5 : Int) + (1 : Int))) (List.take x_1 (lP x k))) (12 : Int) = (0 : Int) ∧
 ¬checkF (List.map (fun (x : Int) => x * (b % (5 : Int) + (1 : Int))) (List.take x_1 (lP x k))) (12 : Int) = (0 : Int) ∧
 True ∧ true = true) ∧
 (¬¬checkF (List.map (fun (x : Int) => x * (b % (5 : Int) + (1 : Int))) (List.take x_1 (lP x k))) (12 : Int) = (0 : Int) →
 ¬¬checkF (List.map (fun (x : Int) => x * (b % (5 : Int) + (1 : Int))) (List.take x_1 (lP x k))) (12 : Int) = (0 : Int) ∧
 ¬¬checkF (List.map (fun (x : Int) => x * (b % (5 : Int) + (1 : Int))) (List.take x_1 (lP x k))) (12 : Int) = (0 : Int) ∧
 (lP x k).length ≤ (1000 : Nat) ∧
 (partL (bitP q) (lP x k) x_1).length ≤ (1000 : Nat) ∧
 (List.map (fun (x : Int) => x * (b % (5 : Int) + (1 : Int))) (List.take x_1 (lP x k))).length ≤ (1000 : Nat) ∧
 ((distinctF (lP x k)).snd = (0 : Int) →
 (distinctF (lP x k)).snd = (0 : Int) ∧
 (distinctF (lP x k)).snd = (0 : Int) ∧
 ((distinctF (partL (bitP q) (lP x k) x_1)).snd = (0 : Int) →
 (distinctF (partL (bitP q) (lP x k) x_1)).snd = (0 : Int) ∧
 (distinctF (partL (bitP q) (lP x k) x_1)).snd = (0 : Int) ∧
 (distinctF (partL (bitP q) (lP x k) x_1)).snd = (0 : Int) ∧
 ((distinctF
 (List.map (fun (x : Int) => x * (b % (5 : Int) + (1 : Int)))
 (List.take x_1 (lP x k)))).snd =
 (0 : Int) →
 (distinctF
 (List.map (fun (x : Int) => x * (b % (5 : Int) + (1 : Int)))
 (List.take x_1 (lP x k)))).snd =
 (0 : Int) ∧
 (distinctF
 (List.map (fun (x : Int) => x * (b % (5 : Int) + (1 : Int)))
 (List.take x_1 (lP x k)))).snd =
 (0 : Int) ∧
 (distinctF
 (List.map (fun (x : Int) => x * (b % (5 : Int) + (1 : Int)))
 (List.take x_1 (lP x k)))).snd =
 (0 : Int) ∧
 ((!(distinctF (lP x k)).fst) = true →
 (!(distinctF (lP x k)).fst) = true ∧
 (!(distinctF (lP x k)).fst) = true ∧
 ((distinctF (lP x k)).fst =
 (distinctF
 (List.map (fun (x : Int) => x * (b % (5 : Int) + (1 : Int)))
 (List.take x_1 (lP x k)))).fst →
 (distinctF (lP x k)).fst =
 (distinctF
 (List.map (fun (x : Int) => x * (b % (5 : Int) + (1 : Int)))
 (List.take x_1 (lP x k)))).fst ∧
 (distinctF (lP x k)).fst =
 (distinctF
 (List.map (fun (x : Int) => x * (b % (5 : Int) + (1 : Int)))
 (List.take x_1 (lP x k)))).fst ∧
 (distinctF (lP x k)).fst =
 (distinctF
 (List.map (fun (x : Int) => x * (b % (5 : Int) + (1 : Int)))
 (List.take x_1 (lP x k)))).fst ∧
 True ∧ true = true) ∧
 (¬(distinctF (lP x k)).fst =
 (distinctF
 (List.map (fun (x : Int) => x * (b % (5 : Int) + (1 : Int)))
 (List.take x_1 (lP x k)))).fst →
 ¬(distinctF (lP x k)).fst =
 (distinctF
 (List.map (fun (x : Int) => x * (b % (5 : Int) + (1 : Int)))
 (List.take x_1 (lP x k)))).fst ∧
 ¬(distinctF (lP x k)).fst =
 (distinctF
 (List.map (fun (x : Int) => x * (b % (5 : Int) + (1 : Int)))
 (List.take x_1 (lP x k)))).fst ∧
 ¬(distinctF (lP x k)).fst =
 (distinctF
 (List.map (fun (x : Int) => x * (b % (5 : Int) + (1 : Int)))
 (List.take x_1 (lP x k)))).fst ∧
 false = true)) ∧
 ((!(distinctF (lP x k)).fst) = false →
 (!(distinctF (lP x k)).fst) = false ∧
 (!(distinctF (lP x k)).fst) = false ∧
 ((distinctF (partL (bitP q) (lP x k) x_1)).fst = true →
 (distinctF (partL (bitP q) (lP x k) x_1)).fst = true ∧
 (distinctF (partL (bitP q) (lP x k) x_1)).fst = true ∧
 (distinctF (partL (bitP q) (lP x k) x_1)).fst = true ∧
 (distinctF (partL (bitP q) (lP x k) x_1)).fst = true ∧
 (distinctF (partL (bitP q) (lP x k) x_1)).fst = true ∧
 (distinctF (partL (bitP q) (lP x k) x_1)).fst = true ∧
 ((distinctF (lP x k)).fst =
 (distinctF
 (List.map
 (fun (x : Int) => x * (b % (5 : Int) + (1 : Int)))
 (List.take x_1 (lP x k)))).fst →
 (distinctF (lP x k)).fst =
 (distinctF
 (List.map
 (fun (x : Int) => x * (b % (5 : Int) + (1 : Int)))
 (List.take x_1 (lP x k)))).fst ∧
 (distinctF (lP x k)).fst =
 (distinctF
 (List.map
 (fun (x : Int) => x * (b % (5 : Int) + (1 : Int)))
 (List.take x_1 (lP x k)))).fst ∧
 (distinctF (lP x k)).fst =
 (distinctF
 (List.map
 (fun (x : Int) =>
 x * (b % (5 : Int) + (1 : Int)))
 (List.take x_1 (lP x k)))).fst ∧
 True ∧ true = true) ∧
 (¬(distinctF (lP x k)).fst =
 (distinctF
 (List.map
 (fun (x : Int) => x * (b % (5 : Int) + (1 : Int)))
 (List.take x_1 (lP x k)))).fst →
 ¬(distinctF (lP x k)).fst =
 (distinctF
 (List.map
 (fun (x : Int) => x * (b % (5 : Int) + (1 : Int)))
 (List.take x_1 (lP x k)))).fst ∧
 ¬(distinctF (lP x k)).fst =
 (distinctF
 (List.map
 (fun (x : Int) =>
 x * (b % (5 : Int) + (1 : Int)))
 (List.take x_1 (lP x k)))).fst ∧
 ¬(distinctF (lP x k)).fst =
 (distinctF
 (List.map
 (fun (x : Int) =>
 x * (b % (5 : Int) + (1 : Int)))
 (List.take x_1 (lP x k)))).fst ∧
 false = true)) ∧
 ((distinctF (partL (bitP q) (lP x k) x_1)).fst = false →
 (distinctF (partL (bitP q) (lP x k) x_1)).fst = false ∧
 (distinctF (partL (bitP q) (lP x k) x_1)).fst = false ∧
 (distinctF (partL (bitP q) (lP x k) x_1)).fst = false ∧
 (distinctF (partL (bitP q) (lP x k) x_1)).fst = false ∧
 (distinctF (partL (bitP q) (lP x k) x_1)).fst = false ∧
 (distinctF (partL (bitP q) (lP x k) x_1)).fst = false ∧
 false = true))) ∧
 (¬(distinctF
 (List.map (fun (x : Int) => x * (b % (5 : Int) + (1 : Int)))
 (List.take x_1 (lP x k)))).snd =
 (0 : Int) →
 ¬(distinctF
 (List.map (fun (x : Int) => x * (b % (5 : Int) + (1 : Int)))
 (List.take x_1 (lP x k)))).snd =
 (0 : Int) ∧
 ¬(distinctF
 (List.map (fun (x : Int) => x * (b % (5 : Int) + (1 : Int)))
 (List.take x_1 (lP x k)))).snd =
 (0 : Int) ∧
 ¬(distinctF
 (List.map (fun (x : Int) => x * (b % (5 : Int) + (1 : Int)))
 (List.take x_1 (lP x k)))).snd =
 (0 : Int) ∧
 false = true)) ∧
 (¬(distinctF (partL (bitP q) (lP x k) x_1)).snd = (0 : Int) →
 ¬(distinctF (partL (bitP q) (lP x k) x_1)).snd = (0 : Int) ∧
 ¬(distinctF (partL (bitP q) (lP x k) x_1)).snd = (0 : Int) ∧
 ¬(distinctF (partL (bitP q) (lP x k) x_1)).snd = (0 : Int) ∧ false = true)) ∧
 (¬(distinctF (lP x k)).snd = (0 : Int) →
 ¬(distinctF (lP x k)).snd = (0 : Int) ∧ ¬(distinctF (lP x k)).snd = (0 : Int) ∧ false = true)))))) ∧
 (¬k % (3 : Int) = (0 : Int) →
 ¬k % (3 : Int) = (0 : Int) ∧
 (∃ (x0 : Nat),
 x0 ≤ (lP x k).length ∧
 ((b = b ∧ k = k ∧ True) ∧
 nilT Int = partL (bitP q) (lP x k) x0 ∧ nilT Int = List.map (fun (x : Int) => x * (b % (5 : Int) + (1 : Int))) (List.take x0 (lP x k)) ∧ True) ∧
 True ∧ True ∧ (0 : Int) = (↑x0 : Int) ∧ dblF x (decide (k % (2 : Int) = (0 : Int))) = lP x k ∧ k = k ∧ b = b ∧ q = q ∧ True) ∧
 ∀ (x_1 : Nat),
 x_1 ≤ (lP x k).length →
 ((↑x_1 : Int) < (↑(lP x k).length : Int) →
 (↑x_1 : Int) < (↑(lP x k).length : Int) ∧
 ((0 : Int) ≤ (↑x_1 : Int) ∧ (↑x_1 : Int) < (↑IntKind.u16.bits : Int)) ∧
 (bitsF BinOp.and IntKind.u16 (q / (2 : Int) ^ (↑x_1 : Int).toNat) (1 : Int) = (1 : Int) →
 bitsF BinOp.and IntKind.u16 (q / (2 : Int) ^ (↑x_1 : Int).toNat) (1 : Int) = (1 : Int) ∧
 ((0 : Int) ≤ (↑x_1 : Int) ∧ (↑x_1 : Int) < (↑(lP x k).length : Int)) ∧
 Small ((partL (bitP q) (lP x k) x_1).length + ((0 : Nat) + (1 : Nat))) ∧
 ((0 : Int) ≤ (↑x_1 : Int) ∧ (↑x_1 : Int) < (↑(lP x k).length : Int)) ∧
 Fits IntKind.i64 b ∧
 ((0 : Int) ≤ b ∧ (0 : Int) < (5 : Int)) ∧
 Fits IntKind.i64 (b % (5 : Int) + (1 : Int)) ∧
 Fits IntKind.i64 ((lP x k).getD (↑x_1 : Int).toNat (0 : Int) * (b % (5 : Int) + (1 : Int))) ∧
 Small ((List.map (fun (x : Int) => x * (b % (5 : Int) + (1 : Int))) (List.take x_1 (lP x k))).length + ((0 : Nat) + (1 : Nat))) ∧
 Fits IntKind.i64 ((↑x_1 : Int) + (1 : Int)) ∧
 ∃ (x' : Nat),
 x' ≤ (lP x k).length ∧
 (lP x k).length - x' < (lP x k).length - x_1 ∧
 ((b = b ∧ k = k ∧ True) ∧
 partL (bitP q) (lP x k) x_1 ++ [(lP x k).getD (↑x_1 : Int).toNat (0 : Int)] = partL (bitP q) (lP x k) x' ∧
 List.map (fun (x : Int) => x * (b % (5 : Int) + (1 : Int))) (List.take x_1 (lP x k)) ++
 [(lP x k).getD (↑x_1 : Int).toNat (0 : Int) * (b % (5 : Int) + (1 : Int))] =
 List.map (fun (x : Int) => x * (b % (5 : Int) + (1 : Int))) (List.take x' (lP x k)) ∧
 True) ∧
 True ∧ True ∧ (↑x_1 : Int) + (1 : Int) = (↑x' : Int) ∧ lP x k = lP x k ∧ k = k ∧ b = b ∧ q = q ∧ True) ∧
 (¬bitsF BinOp.and IntKind.u16 (q / (2 : Int) ^ (↑x_1 : Int).toNat) (1 : Int) = (1 : Int) →
 ¬bitsF BinOp.and IntKind.u16 (q / (2 : Int) ^ (↑x_1 : Int).toNat) (1 : Int) = (1 : Int) ∧
 ((0 : Int) ≤ (↑x_1 : Int) ∧ (↑x_1 : Int) < (↑(lP x k).length : Int)) ∧
 Fits IntKind.i64 b ∧
 ((0 : Int) ≤ b ∧ (0 : Int) < (5 : Int)) ∧
 Fits IntKind.i64 (b % (5 : Int) + (1 : Int)) ∧
 Fits IntKind.i64 ((lP x k).getD (↑x_1 : Int).toNat (0 : Int) * (b % (5 : Int) + (1 : Int))) ∧
 Small ((List.map (fun (x : Int) => x * (b % (5 : Int) + (1 : Int))) (List.take x_1 (lP x k))).length + ((0 : Nat) + (1 : Nat))) ∧
 Fits IntKind.i64 ((↑x_1 : Int) + (1 : Int)) ∧
 ∃ (x' : Nat),
 x' ≤ (lP x k).length ∧
 (lP x k).length - x' < (lP x k).length - x_1 ∧
 ((b = b ∧ k = k ∧ True) ∧
 partL (bitP q) (lP x k) x_1 = partL (bitP q) (lP x k) x' ∧
 List.map (fun (x : Int) => x * (b % (5 : Int) + (1 : Int))) (List.take x_1 (lP x k)) ++
 [(lP x k).getD (↑x_1 : Int).toNat (0 : Int) * (b % (5 : Int) + (1 : Int))] =
 List.map (fun (x : Int) => x * (b % (5 : Int) + (1 : Int))) (List.take x' (lP x k)) ∧
 True) ∧
 True ∧ True ∧ (↑x_1 : Int) + (1 : Int) = (↑x' : Int) ∧ lP x k = lP x k ∧ k = k ∧ b = b ∧ q = q ∧ True)) ∧
 (¬(↑x_1 : Int) < (↑(lP x k).length : Int) →
 ¬(↑x_1 : Int) < (↑(lP x k).length : Int) ∧
 ((↑(partL (bitP q) (lP x k) x_1).length : Int) = (0 : Int) →
 (↑(partL (bitP q) (lP x k) x_1).length : Int) = (0 : Int) ∧ (↑(partL (bitP q) (lP x k) x_1).length : Int) = (0 : Int) ∧ True ∧ true = true) ∧
 (¬(↑(partL (bitP q) (lP x k) x_1).length : Int) = (0 : Int) →
 ¬(↑(partL (bitP q) (lP x k) x_1).length : Int) = (0 : Int) ∧
 ¬(↑(partL (bitP q) (lP x k) x_1).length : Int) = (0 : Int) ∧
 (lP x k).length ≤ (1000 : Nat) ∧
 (¬checkF (lP x k) (12 : Int) = (0 : Int) →
 ¬checkF (lP x k) (12 : Int) = (0 : Int) ∧
 ¬checkF (lP x k) (12 : Int) = (0 : Int) ∧ ¬checkF (lP x k) (12 : Int) = (0 : Int) ∧ True ∧ true = true) ∧
 (¬¬checkF (lP x k) (12 : Int) = (0 : Int) →
 ¬¬checkF (lP x k) (12 : Int) = (0 : Int) ∧
 ¬¬checkF (lP x k) (12 : Int) = (0 : Int) ∧
 ¬¬checkF (lP x k) (12 : Int) = (0 : Int) ∧
 (List.map (fun (x : Int) => x * (b % (5 : Int) + (1 : Int))) (List.take x_1 (lP x k))).length ≤ (1000 : Nat) ∧
 (¬checkF (List.map (fun (x : Int) => x * (b % (5 : Int) + (1 : Int))) (List.take x_1 (lP x k))) (12 : Int) = (0 : Int) →
 ¬checkF (List.map (fun (x : Int) => x * (b % (5 : Int) + (1 : Int))) (List.take x_1 (lP x k))) (12 : Int) = (0 : Int) ∧
 ¬checkF (List.map (fun (x : Int) => x * (b % (5 : Int) + (1 : Int))) (List.take x_1 (lP x k))) (12 : Int) = (0 : Int) ∧
 True ∧ true = true) ∧
 (¬¬checkF (List.map (fun (x : Int) => x * (b % (5 : Int) + (1 : Int))) (List.take x_1 (lP x k))) (12 : Int) = (0 : Int) →
 ¬¬checkF (List.map (fun (x : Int) => x * (b % (5 : Int) + (1 : Int))) (List.take x_1 (lP x k))) (12 : Int) = (0 : Int) ∧
 ¬¬checkF (List.map (fun (x : Int) => x * (b % (5 : Int) + (1 : Int))) (List.take x_1 (lP x k))) (12 : Int) = (0 : Int) ∧
 (lP x k).length ≤ (1000 : Nat) ∧
 (partL (bitP q) (lP x k) x_1).length ≤ (1000 : Nat) ∧
 (List.map (fun (x : Int) => x * (b % (5 : Int) + (1 : Int))) (List.take x_1 (lP x k))).length ≤ (1000 : Nat) ∧
 ((distinctF (lP x k)).snd = (0 : Int) →
 (distinctF (lP x k)).snd = (0 : Int) ∧
 (distinctF (lP x k)).snd = (0 : Int) ∧
 ((distinctF (partL (bitP q) (lP x k) x_1)).snd = (0 : Int) →
 (distinctF (partL (bitP q) (lP x k) x_1)).snd = (0 : Int) ∧
 (distinctF (partL (bitP q) (lP x k) x_1)).snd = (0 : Int) ∧
 (distinctF (partL (bitP q) (lP x k) x_1)).snd = (0 : Int) ∧
 ((distinctF
 (List.map (fun (x : Int) => x * (b % (5 : Int) + (1 : Int)))
 (List.take x_1 (lP x k)))).snd =
 (0 : Int) →
 (distinctF
 (List.map (fun (x : Int) => x * (b % (5 : Int) + (1 : Int)))
 (List.take x_1 (lP x k)))).snd =
 (0 : Int) ∧
 (distinctF
 (List.map (fun (x : Int) => x * (b % (5 : Int) + (1 : Int)))
 (List.take x_1 (lP x k)))).snd =
 (0 : Int) ∧
 (distinctF
 (List.map (fun (x : Int) => x * (b % (5 : Int) + (1 : Int)))
 (List.take x_1 (lP x k)))).snd =
 (0 : Int) ∧
 ((!(distinctF (lP x k)).fst) = true →
 (!(distinctF (lP x k)).fst) = true ∧
 (!(distinctF (lP x k)).fst) = true ∧
 ((distinctF (lP x k)).fst =
 (distinctF
 (List.map (fun (x : Int) => x * (b % (5 : Int) + (1 : Int)))
 (List.take x_1 (lP x k)))).fst →
 (distinctF (lP x k)).fst =
 (distinctF
 (List.map (fun (x : Int) => x * (b % (5 : Int) + (1 : Int)))
 (List.take x_1 (lP x k)))).fst ∧
 (distinctF (lP x k)).fst =
 (distinctF
 (List.map (fun (x : Int) => x * (b % (5 : Int) + (1 : Int)))
 (List.take x_1 (lP x k)))).fst ∧
 (distinctF (lP x k)).fst =
 (distinctF
 (List.map (fun (x : Int) => x * (b % (5 : Int) + (1 : Int)))
 (List.take x_1 (lP x k)))).fst ∧
 True ∧ true = true) ∧
 (¬(distinctF (lP x k)).fst =
 (distinctF
 (List.map (fun (x : Int) => x * (b % (5 : Int) + (1 : Int)))
 (List.take x_1 (lP x k)))).fst →
 ¬(distinctF (lP x k)).fst =
 (distinctF
 (List.map (fun (x : Int) => x * (b % (5 : Int) + (1 : Int)))
 (List.take x_1 (lP x k)))).fst ∧
 ¬(distinctF (lP x k)).fst =
 (distinctF
 (List.map (fun (x : Int) => x * (b % (5 : Int) + (1 : Int)))
 (List.take x_1 (lP x k)))).fst ∧
 ¬(distinctF (lP x k)).fst =
 (distinctF
 (List.map (fun (x : Int) => x * (b % (5 : Int) + (1 : Int)))
 (List.take x_1 (lP x k)))).fst ∧
 false = true)) ∧
 ((!(distinctF (lP x k)).fst) = false →
 (!(distinctF (lP x k)).fst) = false ∧
 (!(distinctF (lP x k)).fst) = false ∧
 ((distinctF (partL (bitP q) (lP x k) x_1)).fst = true →
 (distinctF (partL (bitP q) (lP x k) x_1)).fst = true ∧
 (distinctF (partL (bitP q) (lP x k) x_1)).fst = true ∧
 (distinctF (partL (bitP q) (lP x k) x_1)).fst = true ∧
 (distinctF (partL (bitP q) (lP x k) x_1)).fst = true ∧
 (distinctF (partL (bitP q) (lP x k) x_1)).fst = true ∧
 (distinctF (partL (bitP q) (lP x k) x_1)).fst = true ∧
 ((distinctF (lP x k)).fst =
 (distinctF
 (List.map
 (fun (x : Int) => x * (b % (5 : Int) + (1 : Int)))
 (List.take x_1 (lP x k)))).fst →
 (distinctF (lP x k)).fst =
 (distinctF
 (List.map
 (fun (x : Int) => x * (b % (5 : Int) + (1 : Int)))
 (List.take x_1 (lP x k)))).fst ∧
 (distinctF (lP x k)).fst =
 (distinctF
 (List.map
 (fun (x : Int) => x * (b % (5 : Int) + (1 : Int)))
 (List.take x_1 (lP x k)))).fst ∧
 (distinctF (lP x k)).fst =
 (distinctF
 (List.map
 (fun (x : Int) => x * (b % (5 : Int) + (1 : Int)))
 (List.take x_1 (lP x k)))).fst ∧
 True ∧ true = true) ∧
 (¬(distinctF (lP x k)).fst =
 (distinctF
 (List.map
 (fun (x : Int) => x * (b % (5 : Int) + (1 : Int)))
 (List.take x_1 (lP x k)))).fst →
 ¬(distinctF (lP x k)).fst =
 (distinctF
 (List.map
 (fun (x : Int) => x * (b % (5 : Int) + (1 : Int)))
 (List.take x_1 (lP x k)))).fst ∧
 ¬(distinctF (lP x k)).fst =
 (distinctF
 (List.map
 (fun (x : Int) => x * (b % (5 : Int) + (1 : Int)))
 (List.take x_1 (lP x k)))).fst ∧
 ¬(distinctF (lP x k)).fst =
 (distinctF
 (List.map
 (fun (x : Int) =>
 x * (b % (5 : Int) + (1 : Int)))
 (List.take x_1 (lP x k)))).fst ∧
 false = true)) ∧
 ((distinctF (partL (bitP q) (lP x k) x_1)).fst = false →
 (distinctF (partL (bitP q) (lP x k) x_1)).fst = false ∧
 (distinctF (partL (bitP q) (lP x k) x_1)).fst = false ∧
 (distinctF (partL (bitP q) (lP x k) x_1)).fst = false ∧
 (distinctF (partL (bitP q) (lP x k) x_1)).fst = false ∧
 (distinctF (partL (bitP q) (lP x k) x_1)).fst = false ∧
 (distinctF (partL (bitP q) (lP x k) x_1)).fst = false ∧
 false = true))) ∧
 (¬(distinctF
 (List.map (fun (x : Int) => x * (b % (5 : Int) + (1 : Int)))
 (List.take x_1 (lP x k)))).snd =
 (0 : Int) →
 ¬(distinctF
 (List.map (fun (x : Int) => x * (b % (5 : Int) + (1 : Int)))
 (List.take x_1 (lP x k)))).snd =
 (0 : Int) ∧
 ¬(distinctF
 (List.map (fun (x : Int) => x * (b % (5 : Int) + (1 : Int)))
 (List.take x_1 (lP x k)))).snd =
 (0 : Int) ∧
 ¬(distinctF
 (List.map (fun (x : Int) => x * (b % (5 : Int) + (1 : Int)))
 (List.take x_1 (lP x k)))).snd =
 (0 : Int) ∧
 false = true)) ∧
 (¬(distinctF (partL (bitP q) (lP x k) x_1)).snd = (0 : Int) →
 ¬(distinctF (partL (bitP q) (lP x k) x_1)).snd = (0 : Int) ∧
 ¬(distinctF (partL (bitP q) (lP x k) x_1)).snd = (0 : Int) ∧
 ¬(distinctF (partL (bitP q) (lP x k) x_1)).snd = (0 : Int) ∧ false = true)) ∧
 (¬(distinctF (lP x k)).snd = (0 : Int) →
 ¬(distinctF (lP x k)).snd = (0 : Int) ∧ ¬(distinctF (lP x k)).snd = (0 : Int) ∧ false = true))))))) := by
 kernel_rfl

end Go.SX.We

/- Chapter 08: the law of Parts, proved. -/
namespace Go.SX.We
open Go Go.Proofs

theorem dbl_bound (x : List Int) (g : Bool) : (dblF x g).length ≤ 12 ∧ ∀ v ∈ dblF x g, -1000000 ≤ v ∧ v ≤ 1000000 := by
  unfold dblF
  cases g with
  | true =>
    simp only [cond_true]
    refine ⟨by simp [setF]; omega, fun v hv => ?_⟩
    obtain ⟨u, hu, rfl⟩ := List.mem_map.1 hv
    have h1 := setF_small (n := min x.length 11 + 1) (by omega) u hu
    have h2 := byF_pos x
    have h3 : u * byF x ≤ 4096 * 40 := by
      rcases Int.le_total 0 u with h | h
      · exact Int.le_trans (Int.mul_le_mul_of_nonneg_right h1.2 (by omega)) (Int.mul_le_mul_of_nonneg_left h2.2 (by decide))
      · exact Int.le_trans (Int.mul_nonpos_of_nonpos_of_nonneg h (by omega)) (by decide)
    have h4 : -4096 * 40 ≤ u * byF x := by
      have h5 : -4096 * byF x ≤ u * byF x := Int.mul_le_mul_of_nonneg_right h1.1 (by omega)
      omega
    omega
  | false =>
    simp only [cond_false]
    by_cases h : min x.length 12 = 0
    · rw [decide_eq_true h]
      exact ⟨by simp, fun v hv => by have : v = 1 := List.mem_singleton.1 hv; subst this; exact ⟨by decide, by decide⟩⟩
    · rw [decide_eq_false h]
      simp only [cond_false]
      refine ⟨by rw [dbL_length]; omega, fun v hv => ?_⟩
      unfold dbL at hv
      obtain ⟨i, hi, rfl⟩ := List.mem_map.1 hv
      have hi := List.mem_range.1 hi
      have h1 := dbS_small x i
      have h2 := pow2_12 i (by omega)
      omega
theorem lP_bound {x : List Int} {k : Int} : (lP x k).length ≤ 12 ∧ ∀ v ∈ lP x k, -1000000 ≤ v ∧ v ≤ 1000000 := by
  unfold lP
  split
  · have hw := made_wts x (m := 8) (by decide) (by decide)
    exact ⟨hw.len, fun v hv => ⟨by have := hw.lo v hv; omega, by have := hw.hi v hv; omega⟩⟩
  · exact dbl_bound _ _
theorem take_map_snoc {l : List Int} {k : Nat} (h : k < l.length) (c : Int) : (l.take k).map (· * c) ++ [l.getD k 0 * c] = (l.take (k + 1)).map (· * c) := by
  have e : l.take (k + 1) = l.take k ++ [l.getD k 0] := by rw [List.take_add_one, List.getElem?_eq_getElem h]; simp [List.getD, List.getElem?_eq_getElem h]
  rw [e, List.map_append]; rfl
theorem mul_small {a c : Int} (h1 : -1000000 ≤ a) (h2 : a ≤ 1000000) (h3 : 1 ≤ c) (h4 : c ≤ 5) : Fits .i64 (a * c) := by
  have : c = 1 ∨ c = 2 ∨ c = 3 ∨ c = 4 ∨ c = 5 := by omega
  rcases this with rfl | rfl | rfl | rfl | rfl <;> exact fi (by omega) (by omega)
theorem ok11 : p11.OK Try.prog := p11.ok (fn := Try.f11) C11 (fun _ => cx_ok (cs := [p32.ci, p37.ci, p18.ci, p16.ci, p19.ci]) ⟨PC.OK.ci ok32, PC.OK.ci ok37, PC.OK.ci ok18, PC.OK.ci ok16, PC.OK.ci ok19, trivial⟩ _) (by kernel_rfl) (by kernel_rfl) (by kernel_rfl) fun p hp => by
  have key : ∀ (x : List Int) (q b k : Int), (∀ v ∈ x, 0 ≤ v ∧ v ≤ 65535) → 0 ≤ b → b ≤ 255 → 0 ≤ k → g11 x q b k := fun x q b k hx hb hb2 hk => by
    refine (g11_eq x q b k).mpr ?_
    have e8 : Int.toNat 8 = 8 := rfl
    simp only [pp1, eq_self, and_true, true_and, Int.toNat_natCast, e8]
    have e1 : k % 3 = 0 → madeF x 8 = lP x k := fun h => by unfold lP; rw [if_pos h]
    have e2 : ¬ k % 3 = 0 → dblF x (decide (k % 2 = 0)) = lP x k := fun h => by unfold lP; rw [if_neg h]
    obtain ⟨hlen, hv⟩ := lP_bound (x := x) (k := k)
    generalize lP x k = L at e1 e2 hlen hv
    have hc1 : 1 ≤ b % 5 + 1 := by omega
    have hc5 : b % 5 + 1 ≤ 5 := by omega
    refine ⟨by omega, hx, by omega, fun h3 => ⟨⟨hx, by decide, by decide⟩, ⟨0, by omega, ⟨rfl, rfl⟩, rfl, e1 h3⟩, fun j hj => ?_⟩, fun h3 => ⟨⟨0, by omega, ⟨rfl, rfl⟩, rfl, e2 h3⟩, fun j hj => ?_⟩⟩
    all_goals
      refine ⟨fun h4 => ?_, fun h4 => ?_⟩
      · have hj' : j < L.length := by omega
        have hvj := hv _ (getD_mem L 0 hj')
        have hpl := partL_len (bitP q) L j
        have f1 : Fits .i64 (L.getD j 0 * (b % 5 + 1)) := mul_small hvj.1 hvj.2 hc1 hc5
        have hS : Small ((List.map (fun x => x * (b % 5 + 1)) (List.take j L)).length + (0 + 1)) := by unfold Small; simp; omega
        have hb16 : ((IntKind.u16.bits : Nat) : Int) = 16 := rfl
        rw [hb16]
        refine ⟨by omega, fun h5 => ?_, fun h5 => ?_⟩
        · exact ⟨by omega, by unfold Small; omega, by omega, fi (by omega) (by omega), by omega, fi (by omega) (by omega), f1, hS, fi (by omega) (by omega), j + 1, by omega, by omega, ⟨by rw [partL_snoc]; unfold bitP; rw [decide_eq_true h5]; rfl, take_map_snoc hj' _⟩, by omega⟩
        · exact ⟨by omega, fi (by omega) (by omega), by omega, fi (by omega) (by omega), f1, hS, fi (by omega) (by omega), j + 1, by omega, by omega, ⟨by rw [partL_snoc]; unfold bitP; rw [decide_eq_false h5]; rfl, take_map_snoc hj' _⟩, by omega⟩
      · have ej : j = L.length := by omega
        subst ej
        rw [List.take_length]
        have hpl := partL_len (bitP q) L L.length
        have hml : (List.map (fun x => x * (b % 5 + 1)) L).length ≤ 1000 := by simp; omega
        refine ⟨fun h => h, fun h5 => ⟨by omega, fun h => h, fun h6 => ⟨hml, fun h => h, fun h7 => ⟨by omega, by omega, hml, ?_⟩⟩⟩⟩
        have w1 := check_ok.1 (Classical.not_not.1 h6)
        have w3 := check_ok.1 (Classical.not_not.1 h7)
        have w2 := part_wts w1 (partL_sub (bitP q) L) (by omega)
        have hm : distF (List.map (fun x => x * (b % 5 + 1)) L) = distF L := dist_mul (by omega) L
        rw [dist_of w1, dist_of w2, dist_of w3, hm]
        cases hd : distF L with
        | true => rw [dist_part (partL_sub (bitP q) L) hd]; simp
        | false => simp
  exact key p.1 p.2.1 p.2.2.1 p.2.2.2 hp.1 hp.2.2.1.1 hp.2.2.1.2 hp.2.2.2.1
end Go.SX.We
