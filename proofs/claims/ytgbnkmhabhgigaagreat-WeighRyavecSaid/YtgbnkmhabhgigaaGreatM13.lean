/- Parts of the proof, one after the other: WzZ4 WzZ4E WzZ4Q WzZ5Q. -/
import Derived.Test.YtgbnkmhabhgigaaGreatM12
/- Chapter 08: the reference's quotients and fractions, what is asked. -/
namespace Go.SX.We.Nm
open Go Go.Proofs
def ratZ (q : Int × Int) : DN × DN := (iZ q.1, iZ q.2)
def FrZ (k : Nat) (p : DN × DN) : Prop := ∃ n d : Int, p = ratZ (n, d) ∧ 0 ≤ n ∧ 0 < d ∧ n < 10000 ^ k ∧ d < 10000 ^ k
noncomputable section
@[reducible] def A71o (m1 : List Int) (b : Int) : Ann where
  τ := Nat
  pre := []
  preC := []
  keep := [2, 3, 4, 5, 6]
  slots k := [(7, .c (.ro (.int .i64) (lim 10000 (valF 10000 (m1.drop (m1.length - k)) % b)))), (8, .c (.int .i64 ((m1.length : Int) - 1 - k)))]
  ents k := [(4, .row 3 (.int .i64) 1 (List.replicate (m1.length - k) 0 ++ digs 10000 (valF 10000 (m1.drop (m1.length - k)) / b) k)), (5, .dead)]
  ok k := k ≤ m1.length
  m k := m1.length - k
@[reducible] def A71i (b : Int) (rest : List Int) : Ann where
  τ := Int × Int
  pre := []
  preC := []
  keep := [2, 3, 4, 5, 6, 8]
  slots x := [(7, .c (.ro (.int .i64) rest)), (9, .c (.int .i64 x.1)), (10, .c (.int .i64 x.2))]
  ents _ := []
  ok x := (0 ≤ x.1 ∧ x.1 < x.2 ∧ x.2 ≤ 10000) ∧ x.1 * b ≤ valF 10000 rest ∧ valF 10000 rest < x.2 * b
  m x := (x.2 - x.1).toNat
def with71 (b : Int) (st : St) : Ann :=
  match findT 7 st.t with
  | .c (.ro (.int .i64) rest) => A71i b rest
  | _ => noAnn
@[reducible] def r71 : PC := ⟨71, [aZ, aZ], [aZ, aZ], fun p => (OkZ 480 p.1 ∧ OkZ 480 p.2) ∧ 0 ≤ vZ p.1 ∧ 0 < vZ p.2, fun p => (iZ (vZ p.1 / vZ p.2), iZ (vZ p.1 % vZ p.2))⟩
@[reducible] def C71 (m1 m2 : List Int) : Ctx := cx [r78.ci, r99.ci, r100.ci, r101.ci, r42.ci, r77.ci] [(0, fun _ => A71o m1 (valF 10000 m2)), (1, with71 (valF 10000 m2))]
def h71 (n1 : Bool) (m1 : List Int) (n2 : Bool) (m2 : List Int) : Prop := r71.VC (C71 m1 m2) Tryz.f71 ((n1, m1), (n2, m2))
@[reducible] def A70 (a b : Int) : Ann where
  τ := Int × Int
  pre := []
  preC := []
  keep := [2, 3, 4]
  slots _ := []
  ents x := [(0, .blk 32 [.bool 0 (iZ x.1).1, .ro (.int .i64) (iZ x.1).2]), (1, .blk 32 [.bool 0 (iZ x.2).1, .ro (.int .i64) (iZ x.2).2])]
  ok x := (0 ≤ x.1 ∧ 0 ≤ x.2) ∧ (x.1 < 10000 ^ 480 ∧ x.2 < 10000 ^ 480) ∧ gcdI x.1 x.2 = gcdI a b
  m x := x.2.toNat
@[reducible] def r70 : PC := ⟨70, [aZ, aZ], [aZ], fun p => (OkZ 480 p.1 ∧ OkZ 480 p.2) ∧ 0 ≤ vZ p.1 ∧ 0 ≤ vZ p.2, fun p => iZ (gcdI (vZ p.1) (vZ p.2))⟩
def h70 (n1 : Bool) (m1 : List Int) (n2 : Bool) (m2 : List Int) : Prop := r70.VC (cx [r69.ci, r71.ci] [(0, fun _ => A70 (vZ (n1, m1)) (vZ (n2, m2)))]) Tryz.f70 ((n1, m1), (n2, m2))
@[reducible] def r17 : PC := ⟨17, [aI], [aQ], fun v => 0 ≤ v ∧ v ≤ 1000000, fun v => ratZ (v, 1)⟩
def h17 (v : Int) : Prop := r17.VC (cx [r42.ci] []) Tryz.f17 v
end
end Go.SX.We.Nm

/- Printed by VC.lean: what the executor asks. -/
namespace Go.SX.We.Nm
open Go Go.Proofs IntKind List
def Qh71_1 (n1 : Bool) (m1 : List Int) (n2 : Bool) (m2 : List Int) (x : Nat) : Prop := ((n1 = n1 ∧ m1 = m1 ∧ True) ∧ (n2 = n2 ∧ m2 = m2 ∧ True) ∧ (True ∧ Value.slice none (0 : Nat) (0 : Nat) = Value.slice none (0 : Nat) (0 : Nat) ∧ True) ∧ (True ∧ Value.slice none (0 : Nat) (0 : Nat) = Value.slice none (0 : Nat) (0 : Nat) ∧ True) ∧ replicate (m1.length - x) 0 ++ digs 10000 (valF 10000 (drop (m1.length - x) m1) / valF 10000 m2) x = replicate (m1.length - x) 0 ++ digs 10000 (valF 10000 (drop (m1.length - x) m1) / valF 10000 m2) x ∧ True ∧ True ∧ True)
theorem h71_eq (n1 : Bool) (m1 : List Int) (n2 : Bool) (m2 : List Int) : h71 n1 m1 n2 m2 = ((0 ≤ (m1.length : Int) ∧ (m1.length : Int) ≤ (m1.length : Int) ∧ Small (m1.length : Int).toNat) ∧ Fits .i64 ((m1.length : Int) - 1) ∧ (∃ (x0 : Nat), x0 ≤ m1.length ∧ ((n1 = n1 ∧ m1 = m1 ∧ True) ∧ (n2 = n2 ∧ m2 = m2 ∧ True) ∧ (True ∧ Value.slice none (0 : Nat) (0 : Nat) = Value.slice none (0 : Nat) (0 : Nat) ∧ True) ∧ (True ∧ Value.slice none (0 : Nat) (0 : Nat) = Value.slice none (0 : Nat) (0 : Nat) ∧ True) ∧ replicate (m1.length : Int).toNat 0 = replicate (m1.length - x0) 0 ++ digs 10000 (valF 10000 (drop (m1.length - x0) m1) / valF 10000 m2) x0 ∧ True ∧ True) ∧ nilT Int = lim 10000 (valF 10000 (drop (m1.length - x0) m1) % valF 10000 m2) ∧ (m1.length : Int) - 1 = (m1.length : Int) - 1 - (x0 : Int) ∧ True ∧ True ∧ True ∧ True ∧ True ∧ True) ∧ ∀ (x : Nat), x ≤ m1.length → (0 ≤ (m1.length : Int) - 1 - (x : Int) → 0 ≤ (m1.length : Int) - 1 - (x : Int) ∧ (0 ≤ (m1.length : Int) - 1 - (x : Int) ∧ (m1.length : Int) - 1 - (x : Int) < (m1.length : Int)) ∧ Small ((0 : Nat) + 1 + (lim 10000 (valF 10000 (drop (m1.length - x) m1) % valF 10000 m2)).length) ∧ ([m1.getD ((m1.length : Int) - 1 - (x : Int)).toNat 0] ++ lim 10000 (valF 10000 (drop (m1.length - x) m1) % valF 10000 m2)).length ≤ (1000000 : Nat) ∧ (∃ (x0 : Int × Int), ((0 ≤ x0.fst ∧ x0.fst < x0.snd ∧ x0.snd ≤ 10000) ∧ x0.fst * valF 10000 m2 ≤ valF 10000 (trimF ([m1.getD ((m1.length : Int) - 1 - (x : Int)).toNat 0] ++ lim 10000 (valF 10000 (drop (m1.length - x) m1) % valF 10000 m2))) ∧ valF 10000 (trimF ([m1.getD ((m1.length : Int) - 1 - (x : Int)).toNat 0] ++ lim 10000 (valF 10000 (drop (m1.length - x) m1) % valF 10000 m2))) < x0.snd * valF 10000 m2) ∧ (Qh71_1 n1 m1 n2 m2 x) ∧ trimF ([m1.getD ((m1.length : Int) - 1 - (x : Int)).toNat 0] ++ lim 10000 (valF 10000 (drop (m1.length - x) m1) % valF 10000 m2)) = trimF ([m1.getD ((m1.length : Int) - 1 - (x : Int)).toNat 0] ++ lim 10000 (valF 10000 (drop (m1.length - x) m1) % valF 10000 m2)) ∧ 0 = x0.fst ∧ 10000 = x0.snd ∧ (m1.length : Int) - 1 - (x : Int) = (m1.length : Int) - 1 - (x : Int) ∧ True ∧ True ∧ True ∧ True ∧ True ∧ True) ∧ ∀ (x_1 : Int × Int), (0 ≤ x_1.fst ∧ x_1.fst < x_1.snd ∧ x_1.snd ≤ 10000) ∧ x_1.fst * valF 10000 m2 ≤ valF 10000 (trimF ([m1.getD ((m1.length : Int) - 1 - (x : Int)).toNat 0] ++ lim 10000 (valF 10000 (drop (m1.length - x) m1) % valF 10000 m2))) ∧ valF 10000 (trimF ([m1.getD ((m1.length : Int) - 1 - (x : Int)).toNat 0] ++ lim 10000 (valF 10000 (drop (m1.length - x) m1) % valF 10000 m2))) < x_1.snd * valF 10000 m2 → Fits .i64 (x_1.snd - x_1.fst) ∧ (1 < x_1.snd - x_1.fst → 1 < x_1.snd - x_1.fst ∧ Fits .i64 (x_1.fst + x_1.snd) ∧ (0 ≤ x_1.fst + x_1.snd ∧ (0 : Int) < 2) ∧ Fits .i64 ((x_1.fst + x_1.snd) / 2) ∧ ((∃ (z : Int), m2 = lim 10000 z ∧ 0 ≤ z ∧ z < 10000 ^ 490) ∧ 0 ≤ (x_1.fst + x_1.snd) / 2 ∧ (x_1.fst + x_1.snd) / (2 : Int) ≤ 10000) ∧ ((lim 10000 (valF 10000 m2 * ((x_1.fst + x_1.snd) / 2))).length ≤ 1000000 ∧ (trimF ([m1.getD ((m1.length : Int) - 1 - (x : Int)).toNat 0] ++ lim 10000 (valF 10000 (drop (m1.length - x) m1) % valF 10000 m2))).length ≤ (1000000 : Nat)) ∧ (cmpN (lim 10000 (valF 10000 m2 * ((x_1.fst + x_1.snd) / 2))) (trimF ([m1.getD ((m1.length : Int) - 1 - (x : Int)).toNat 0] ++ lim 10000 (valF 10000 (drop (m1.length - x) m1) % valF 10000 m2))) ≤ 0 → cmpN (lim 10000 (valF 10000 m2 * ((x_1.fst + x_1.snd) / 2))) (trimF ([m1.getD ((m1.length : Int) - 1 - (x : Int)).toNat 0] ++ lim 10000 (valF 10000 (drop (m1.length - x) m1) % valF 10000 m2))) ≤ 0 ∧ ∃ (x' : Int × Int), ((0 ≤ x'.fst ∧ x'.fst < x'.snd ∧ x'.snd ≤ 10000) ∧ x'.fst * valF 10000 m2 ≤ valF 10000 (trimF ([m1.getD ((m1.length : Int) - 1 - (x : Int)).toNat 0] ++ lim 10000 (valF 10000 (drop (m1.length - x) m1) % valF 10000 m2))) ∧ valF 10000 (trimF ([m1.getD ((m1.length : Int) - 1 - (x : Int)).toNat 0] ++ lim 10000 (valF 10000 (drop (m1.length - x) m1) % valF 10000 m2))) < x'.snd * valF 10000 m2) ∧ (x'.snd - x'.fst).toNat < (x_1.snd - x_1.fst).toNat ∧ (Qh71_1 n1 m1 n2 m2 x) ∧ trimF ([m1.getD ((m1.length : Int) - 1 - (x : Int)).toNat 0] ++ lim 10000 (valF 10000 (drop (m1.length - x) m1) % valF 10000 m2)) = trimF ([m1.getD ((m1.length : Int) - 1 - (x : Int)).toNat 0] ++ lim 10000 (valF 10000 (drop (m1.length - x) m1) % valF 10000 m2)) ∧ (x_1.fst + x_1.snd) / 2 = x'.fst ∧ x_1.snd = x'.snd ∧ (m1.length : Int) - 1 - (x : Int) = (m1.length : Int) - 1 - (x : Int) ∧ True ∧ True ∧ True ∧ True ∧ True ∧ True) ∧ (¬cmpN (lim 10000 (valF 10000 m2 * ((x_1.fst + x_1.snd) / 2))) (trimF ([m1.getD ((m1.length : Int) - 1 - (x : Int)).toNat 0] ++ lim 10000 (valF 10000 (drop (m1.length - x) m1) % valF 10000 m2))) ≤ 0 → ¬cmpN (lim 10000 (valF 10000 m2 * ((x_1.fst + x_1.snd) / 2))) (trimF ([m1.getD ((m1.length : Int) - 1 - (x : Int)).toNat 0] ++ lim 10000 (valF 10000 (drop (m1.length - x) m1) % valF 10000 m2))) ≤ 0 ∧ ∃ (x' : Int × Int), ((0 ≤ x'.fst ∧ x'.fst < x'.snd ∧ x'.snd ≤ 10000) ∧ x'.fst * valF 10000 m2 ≤ valF 10000 (trimF ([m1.getD ((m1.length : Int) - 1 - (x : Int)).toNat 0] ++ lim 10000 (valF 10000 (drop (m1.length - x) m1) % valF 10000 m2))) ∧ valF 10000 (trimF ([m1.getD ((m1.length : Int) - 1 - (x : Int)).toNat 0] ++ lim 10000 (valF 10000 (drop (m1.length - x) m1) % valF 10000 m2))) < x'.snd * valF 10000 m2) ∧ (x'.snd - x'.fst).toNat < (x_1.snd - x_1.fst).toNat ∧ (Qh71_1 n1 m1 n2 m2 x) ∧ trimF ([m1.getD ((m1.length : Int) - 1 - (x : Int)).toNat 0] ++ lim 10000 (valF 10000 (drop (m1.length - x) m1) % valF 10000 m2)) = trimF ([m1.getD ((m1.length : Int) - 1 - (x : Int)).toNat 0] ++ lim 10000 (valF 10000 (drop (m1.length - x) m1) % valF 10000 m2)) ∧ x_1.fst = x'.fst ∧ (x_1.fst + x_1.snd) / 2 = x'.snd ∧ (m1.length : Int) - 1 - (x : Int) = (m1.length : Int) - 1 - (x : Int) ∧ True ∧ True ∧ True ∧ True ∧ True ∧ True)) ∧ (¬1 < x_1.snd - x_1.fst → ¬1 < x_1.snd - x_1.fst ∧ (0 ≤ (m1.length : Int) - 1 - (x : Int) ∧ (m1.length : Int) - 1 - (x : Int) < (↑(replicate (m1.length - x) 0 ++ digs 10000 (valF 10000 (drop (m1.length - x) m1) / valF 10000 m2) x).length : Int)) ∧ ((∃ (z : Int), m2 = lim 10000 z ∧ 0 ≤ z ∧ z < 10000 ^ 490) ∧ 0 ≤ x_1.fst ∧ x_1.fst ≤ 10000) ∧ (((∀ (x_2 : Int), x_2 ∈ trimF ([m1.getD ((m1.length : Int) - 1 - (x : Int)).toNat 0] ++ lim 10000 (valF 10000 (drop (m1.length - x) m1) % valF 10000 m2)) → 0 ≤ x_2 ∧ x_2 < 10000) ∧ ∀ (x : Int), x ∈ lim 10000 (valF 10000 m2 * x_1.fst) → 0 ≤ x ∧ x < 10000) ∧ ((trimF ([m1.getD ((m1.length : Int) - 1 - (x : Int)).toNat 0] ++ lim 10000 (valF 10000 (drop (m1.length - x) m1) % valF 10000 m2))).length ≤ (100000 : Nat) ∧ (lim 10000 (valF 10000 m2 * x_1.fst)).length ≤ (trimF ([m1.getD ((m1.length : Int) - 1 - (x : Int)).toNat 0] ++ lim 10000 (valF 10000 (drop (m1.length - x) m1) % valF 10000 m2))).length) ∧ valF 10000 (lim 10000 (valF 10000 m2 * x_1.fst)) ≤ valF 10000 (trimF ([m1.getD ((m1.length : Int) - 1 - (x : Int)).toNat 0] ++ lim 10000 (valF 10000 (drop (m1.length - x) m1) % valF 10000 m2)))) ∧ (digs 10000 (valF 10000 (trimF ([m1.getD ((m1.length : Int) - 1 - (x : Int)).toNat 0] ++ lim 10000 (valF 10000 (drop (m1.length - x) m1) % valF 10000 m2))) - valF 10000 (lim 10000 (valF 10000 m2 * x_1.fst))) (trimF ([m1.getD ((m1.length : Int) - 1 - (x : Int)).toNat 0] ++ lim 10000 (valF 10000 (drop (m1.length - x) m1) % valF 10000 m2))).length).length ≤ (1000000 : Nat) ∧ Fits .i64 ((m1.length : Int) - 1 - (x : Int) - 1) ∧ ∃ (x' : Nat), x' ≤ m1.length ∧ m1.length - x' < m1.length - x ∧ ((n1 = n1 ∧ m1 = m1 ∧ True) ∧ (n2 = n2 ∧ m2 = m2 ∧ True) ∧ (True ∧ Value.slice none (0 : Nat) (0 : Nat) = Value.slice none (0 : Nat) (0 : Nat) ∧ True) ∧ (True ∧ Value.slice none (0 : Nat) (0 : Nat) = Value.slice none (0 : Nat) (0 : Nat) ∧ True) ∧ (replicate (m1.length - x) 0 ++ digs 10000 (valF 10000 (drop (m1.length - x) m1) / valF 10000 m2) x).set ((m1.length : Int) - 1 - (x : Int)).toNat x_1.fst = replicate (m1.length - x') 0 ++ digs 10000 (valF 10000 (drop (m1.length - x') m1) / valF 10000 m2) x' ∧ True ∧ True) ∧ trimF (digs 10000 (valF 10000 (trimF ([m1.getD ((m1.length : Int) - 1 - (x : Int)).toNat 0] ++ lim 10000 (valF 10000 (drop (m1.length - x) m1) % valF 10000 m2))) - valF 10000 (lim 10000 (valF 10000 m2 * x_1.fst))) (trimF ([m1.getD ((m1.length : Int) - 1 - (x : Int)).toNat 0] ++ lim 10000 (valF 10000 (drop (m1.length - x) m1) % valF 10000 m2))).length) = lim 10000 (valF 10000 (drop (m1.length - x') m1) % valF 10000 m2) ∧ (m1.length : Int) - 1 - (x : Int) - 1 = (m1.length : Int) - 1 - (x' : Int) ∧ True ∧ True ∧ True ∧ True ∧ True ∧ True)) ∧ (¬0 ≤ (m1.length : Int) - 1 - (x : Int) → ¬0 ≤ (m1.length : Int) - 1 - (x : Int) ∧ (replicate (m1.length - x) 0 ++ digs 10000 (valF 10000 (drop (m1.length - x) m1) / valF 10000 m2) x).length ≤ (1000000 : Nat) ∧ (lim 10000 (valF 10000 (drop (m1.length - x) m1) % valF 10000 m2)).length ≤ 1000000 ∧ (n1 = true → n1 = true ∧ n1 = true ∧ (0 < (↑(trimF (lim 10000 (valF 10000 (drop (m1.length - x) m1) % valF 10000 m2))).length : Int) → 0 < (↑(trimF (lim 10000 (valF 10000 (drop (m1.length - x) m1) % valF 10000 m2))).length : Int) ∧ 0 < (↑(trimF (lim 10000 (valF 10000 (drop (m1.length - x) m1) % valF 10000 m2))).length : Int) ∧ ((0 : Int) ≤ 1 ∧ (1 : Int) ≤ 1000000) ∧ ((∃ (z : Int), (n1 && decide (0 < (↑(trimF (replicate (m1.length - x) 0 ++ digs 10000 (valF 10000 (drop (m1.length - x) m1) / valF 10000 m2) x)).length : Int)), trimF (replicate (m1.length - x) 0 ++ digs 10000 (valF 10000 (drop (m1.length - x) m1) / valF 10000 m2) x)) = intB 10000 z ∧ absI z < 10000 ^ 500) ∧ ∃ (z : Int), ((iZ 1).fst, (iZ 1).snd) = intB 10000 z ∧ absI z < 10000 ^ 500) ∧ ((∃ (z : Int), (n2, m2) = intB 10000 z ∧ absI z < 10000 ^ 500) ∧ ∃ (z : Int), (false && decide (0 < (↑(trimF (lim 10000 (valF 10000 (drop (m1.length - x) m1) % valF 10000 m2))).length : Int)), trimF (lim 10000 (valF 10000 (drop (m1.length - x) m1) % valF 10000 m2))) = intB 10000 z ∧ absI z < 10000 ^ 500) ∧ (((iZ (vZ (n1 && decide (0 < (↑(trimF (replicate (m1.length - x) 0 ++ digs 10000 (valF 10000 (drop (m1.length - x) m1) / valF 10000 m2) x)).length : Int)), trimF (replicate (m1.length - x) 0 ++ digs 10000 (valF 10000 (drop (m1.length - x) m1) / valF 10000 m2) x)) - vZ ((iZ 1).fst, (iZ 1).snd))).fst, (iZ (vZ (n1 && decide (0 < (↑(trimF (replicate (m1.length - x) 0 ++ digs 10000 (valF 10000 (drop (m1.length - x) m1) / valF 10000 m2) x)).length : Int)), trimF (replicate (m1.length - x) 0 ++ digs 10000 (valF 10000 (drop (m1.length - x) m1) / valF 10000 m2) x)) - vZ ((iZ 1).fst, (iZ 1).snd))).snd), (iZ (vZ (n2, m2) - vZ (false && decide (0 < (↑(trimF (lim 10000 (valF 10000 (drop (m1.length - x) m1) % valF 10000 m2))).length : Int)), trimF (lim 10000 (valF 10000 (drop (m1.length - x) m1) % valF 10000 m2))))).fst, (iZ (vZ (n2, m2) - vZ (false && decide (0 < (↑(trimF (lim 10000 (valF 10000 (drop (m1.length - x) m1) % valF 10000 m2))).length : Int)), trimF (lim 10000 (valF 10000 (drop (m1.length - x) m1) % valF 10000 m2))))).snd) = (iZ (vZ (n1, m1) / vZ (n2, m2)), iZ (vZ (n1, m1) % vZ (n2, m2)))) ∧ (¬0 < (↑(trimF (lim 10000 (valF 10000 (drop (m1.length - x) m1) % valF 10000 m2))).length : Int) → ¬0 < (↑(trimF (lim 10000 (valF 10000 (drop (m1.length - x) m1) % valF 10000 m2))).length : Int) ∧ ¬0 < (↑(trimF (lim 10000 (valF 10000 (drop (m1.length - x) m1) % valF 10000 m2))).length : Int) ∧ ((n1 && decide (0 < (↑(trimF (replicate (m1.length - x) 0 ++ digs 10000 (valF 10000 (drop (m1.length - x) m1) / valF 10000 m2) x)).length : Int)), trimF (replicate (m1.length - x) 0 ++ digs 10000 (valF 10000 (drop (m1.length - x) m1) / valF 10000 m2) x)), false && decide (0 < (↑(trimF (lim 10000 (valF 10000 (drop (m1.length - x) m1) % valF 10000 m2))).length : Int)), trimF (lim 10000 (valF 10000 (drop (m1.length - x) m1) % valF 10000 m2))) = (iZ (vZ (n1, m1) / vZ (n2, m2)), iZ (vZ (n1, m1) % vZ (n2, m2))) ∧ ((n1 && decide (0 < (↑(trimF (replicate (m1.length - x) 0 ++ digs 10000 (valF 10000 (drop (m1.length - x) m1) / valF 10000 m2) x)).length : Int)), trimF (replicate (m1.length - x) 0 ++ digs 10000 (valF 10000 (drop (m1.length - x) m1) / valF 10000 m2) x)), false && decide (0 < (↑(trimF (lim 10000 (valF 10000 (drop (m1.length - x) m1) % valF 10000 m2))).length : Int)), trimF (lim 10000 (valF 10000 (drop (m1.length - x) m1) % valF 10000 m2))) = (iZ (vZ (n1, m1) / vZ (n2, m2)), iZ (vZ (n1, m1) % vZ (n2, m2))))) ∧ (n1 = false → n1 = false ∧ n1 = false ∧ ((n1 && decide (0 < (↑(trimF (replicate (m1.length - x) 0 ++ digs 10000 (valF 10000 (drop (m1.length - x) m1) / valF 10000 m2) x)).length : Int)), trimF (replicate (m1.length - x) 0 ++ digs 10000 (valF 10000 (drop (m1.length - x) m1) / valF 10000 m2) x)), false && decide (0 < (↑(trimF (lim 10000 (valF 10000 (drop (m1.length - x) m1) % valF 10000 m2))).length : Int)), trimF (lim 10000 (valF 10000 (drop (m1.length - x) m1) % valF 10000 m2))) = (iZ (vZ (n1, m1) / vZ (n2, m2)), iZ (vZ (n1, m1) % vZ (n2, m2))) ∧ ((n1 && decide (0 < (↑(trimF (replicate (m1.length - x) 0 ++ digs 10000 (valF 10000 (drop (m1.length - x) m1) / valF 10000 m2) x)).length : Int)), trimF (replicate (m1.length - x) 0 ++ digs 10000 (valF 10000 (drop (m1.length - x) m1) / valF 10000 m2) x)), false && decide (0 < (↑(trimF (lim 10000 (valF 10000 (drop (m1.length - x) m1) % valF 10000 m2))).length : Int)), trimF (lim 10000 (valF 10000 (drop (m1.length - x) m1) % valF 10000 m2))) = (iZ (vZ (n1, m1) / vZ (n2, m2)), iZ (vZ (n1, m1) % vZ (n2, m2)))))) := by kernel_rfl
theorem h70_eq (n1 : Bool) (m1 : List Int) (n2 : Bool) (m2 : List Int) : h70 n1 m1 n2 m2 = ((∃ (z : Int), (n1, m1) = intB 10000 z ∧ absI z < 10000 ^ 500) ∧ (∃ (z : Int), (n2, m2) = intB 10000 z ∧ absI z < 10000 ^ 500) ∧ (∃ (x0 : Int × Int), ((0 ≤ x0.fst ∧ 0 ≤ x0.snd) ∧ (x0.fst < 10000 ^ 480 ∧ x0.snd < 10000 ^ 480) ∧ gcdI x0.fst x0.snd = gcdI (vZ (n1, m1)) (vZ (n2, m2))) ∧ (((iZ (absI (vZ (n1, m1)))).fst = (iZ x0.fst).fst ∧ (iZ (absI (vZ (n1, m1)))).snd = (iZ x0.fst).snd ∧ True) ∧ ((iZ (absI (vZ (n2, m2)))).fst = (iZ x0.snd).fst ∧ (iZ (absI (vZ (n2, m2)))).snd = (iZ x0.snd).snd ∧ True) ∧ (True ∧ Value.slice none (0 : Nat) (0 : Nat) = Value.slice none (0 : Nat) (0 : Nat) ∧ True) ∧ True) ∧ True ∧ True ∧ True ∧ True) ∧ ∀ (x : Int × Int), (0 ≤ x.fst ∧ 0 ≤ x.snd) ∧ (x.fst < 10000 ^ 480 ∧ x.snd < 10000 ^ 480) ∧ gcdI x.fst x.snd = gcdI (vZ (n1, m1)) (vZ (n2, m2)) → (0 < (↑(iZ x.snd).snd.length : Int) → 0 < (↑(iZ x.snd).snd.length : Int) ∧ (((∃ (z : Int), ((iZ x.fst).fst, (iZ x.fst).snd) = intB 10000 z ∧ absI z < 10000 ^ 480) ∧ ∃ (z : Int), ((iZ x.snd).fst, (iZ x.snd).snd) = intB 10000 z ∧ absI z < 10000 ^ 480) ∧ 0 ≤ vZ ((iZ x.fst).fst, (iZ x.fst).snd) ∧ 0 < vZ ((iZ x.snd).fst, (iZ x.snd).snd)) ∧ (∃ (x' : Int × Int), ((0 ≤ x'.fst ∧ 0 ≤ x'.snd) ∧ (x'.fst < 10000 ^ 480 ∧ x'.snd < 10000 ^ 480) ∧ gcdI x'.fst x'.snd = gcdI (vZ (n1, m1)) (vZ (n2, m2))) ∧ x'.snd.toNat < x.snd.toNat ∧ (((iZ x.snd).fst = (iZ x'.fst).fst ∧ (iZ x.snd).snd = (iZ x'.fst).snd ∧ True) ∧ ((iZ (vZ ((iZ x.fst).fst, (iZ x.fst).snd) % vZ ((iZ x.snd).fst, (iZ x.snd).snd))).fst = (iZ x'.snd).fst ∧ (iZ (vZ ((iZ x.fst).fst, (iZ x.fst).snd) % vZ ((iZ x.snd).fst, (iZ x.snd).snd))).snd = (iZ x'.snd).snd ∧ True) ∧ (True ∧ Value.slice none (0 : Nat) (0 : Nat) = Value.slice none (0 : Nat) (0 : Nat) ∧ True) ∧ True) ∧ True ∧ True ∧ True ∧ True) ∧ ∃ (x' : Int × Int), ((0 ≤ x'.fst ∧ 0 ≤ x'.snd) ∧ (x'.fst < 10000 ^ 480 ∧ x'.snd < 10000 ^ 480) ∧ gcdI x'.fst x'.snd = gcdI (vZ (n1, m1)) (vZ (n2, m2))) ∧ x'.snd.toNat < x.snd.toNat ∧ (((iZ x.snd).fst = (iZ x'.fst).fst ∧ (iZ x.snd).snd = (iZ x'.fst).snd ∧ True) ∧ ((iZ (vZ ((iZ x.fst).fst, (iZ x.fst).snd) % vZ ((iZ x.snd).fst, (iZ x.snd).snd))).fst = (iZ x'.snd).fst ∧ (iZ (vZ ((iZ x.fst).fst, (iZ x.fst).snd) % vZ ((iZ x.snd).fst, (iZ x.snd).snd))).snd = (iZ x'.snd).snd ∧ True) ∧ (True ∧ Value.slice none (0 : Nat) (0 : Nat) = Value.slice none (0 : Nat) (0 : Nat) ∧ True) ∧ True) ∧ True ∧ True ∧ True ∧ True) ∧ (¬0 < (↑(iZ x.snd).snd.length : Int) → ¬0 < (↑(iZ x.snd).snd.length : Int) ∧ ((iZ x.fst).fst, (iZ x.fst).snd) = iZ (gcdI (vZ (n1, m1)) (vZ (n2, m2))))) := by kernel_rfl
theorem h17_eq (v : Int) : h17 v = ((0 ≤ v ∧ v ≤ 1000000) ∧ ((0 : Int) ≤ 1 ∧ (1 : Int) ≤ 1000000) ∧ (((iZ v).fst, (iZ v).snd), (iZ 1).fst, (iZ 1).snd) = ratZ (v, (1 : Int))) := by kernel_rfl
end Go.SX.We.Nm

/- Chapter 08: the reference's quotients, proved. -/
namespace Go.SX.We.Nm
open Go Go.Proofs
theorem sgn_le (z : Int) : sgnF z ≤ 0 ↔ z ≤ 0 := by unfold sgnF; split <;> (try split) <;> omega
theorem zword {a : List Int} {w : Int} (ha : FigsF 10000 a) (h0 : 1 ≤ w) {i x : Nat} (hi : i + (x + 1) = a.length) :
    let r := valF 10000 (a.drop (i + 1)) % w
    let q := valF 10000 (a.drop (i + 1)) / w
    let t := a.getD i 0 + 10000 * r
    (0 ≤ t ∧ t < 10000 * w) ∧ (List.replicate (i + 1) 0 ++ digs 10000 q x).set i (t / w) = List.replicate i 0 ++ digs 10000 (valF 10000 (a.drop i) / w) (x + 1) ∧ t % w = valF 10000 (a.drop i) % w := by
  intro r q t
  have hv := val_drop (b := 10000) (xs := a) (i := i) (by omega)
  have rx := figs_getD dw0 ha i
  have rr : 0 ≤ r ∧ r < w := ⟨Int.emod_nonneg _ (by omega), Int.emod_lt_of_pos _ (by omega)⟩
  have dm := Int.emod_add_mul_ediv (valF 10000 (a.drop (i + 1))) w
  have ev : valF 10000 (a.drop i) = t + 10000 * q * w := by
    rw [hv, ← dm]
    show a.getD i 0 + 10000 * (r + w * q) = a.getD i 0 + 10000 * r + 10000 * q * w
    rw [Int.mul_add, Int.mul_comm w q, ← Int.mul_assoc]; omega
  have e1 : valF 10000 (a.drop i) / w = t / w + 10000 * q := by rw [ev, Int.add_mul_ediv_right _ _ (by omega)]
  have e2 : valF 10000 (a.drop i) % w = t % w := by rw [ev, Int.add_mul_emod_self_right]
  have ht0 : 0 ≤ t := by show 0 ≤ a.getD i 0 + 10000 * r; omega
  have ht1 : t < 10000 * w := by show a.getD i 0 + 10000 * r < 10000 * w; omega
  have d0 : 0 ≤ t / w := Int.ediv_nonneg ht0 (by omega)
  have d1 : t / w < 10000 := Int.ediv_lt_of_lt_mul (by omega) ht1
  refine ⟨⟨ht0, ht1⟩, ?_, e2.symm⟩
  rw [e1, digs_cons' _ _ _ dw0 d0 d1, List.replicate_succ', List.append_assoc, List.set_append_right _ _ (by simp), List.length_replicate, Nat.sub_self]
  rfl
theorem vc71 {z b : Int} (h0 : 0 ≤ z) (h1 : z < 10000 ^ 480) (b0 : 0 < b) (b1 : b < 10000 ^ 480) : h71 false (lim 10000 z) false (lim 10000 b) := by
  refine (h71_eq false (lim 10000 z) false (lim 10000 b)).mpr ?_
  have hb : valF 10000 (lim 10000 b) = b := val_lim dw2 (Int.le_of_lt b0)
  have hz : valF 10000 (lim 10000 z) = z := val_lim dw2 h0
  have cz := lim_can dw2 h0
  have lz : (lim 10000 z).length ≤ 480 := lim_len dw2 h0 h1
  have e1 : vZ (false, lim 10000 z) = z := by rw [← iZ_pos h0, iZ_vZ]
  have e2 : vZ (false, lim 10000 b) = b := by rw [← iZ_pos (Int.le_of_lt b0), iZ_vZ]
  rw [e1, e2]
  clear e1 e2
  have b490 := pow_le_pow' dw2 b1 (show 480 ≤ 490 by decide)
  have b481 := mul_lt_pow dw2 (show (0 : Int) ≤ 10000 by decide) (show (10000 : Int) < 10000 ^ 2 by decide) (Int.le_of_lt b0) b1
  clear h1
  generalize lim 10000 z = a at hz cz lz ⊢
  simp only [Qh71_1, pp1, eq_self, and_true, true_and, and_self, Int.toNat_natCast, List.length_append, digs_len, List.length_replicate, hb]
  have Vr : ∀ i : Nat, 0 ≤ valF 10000 (a.drop i) := fun i => (val_range dw0 (figs_drop cz.1 i)).1
  have mr : ∀ i : Nat, 0 ≤ valF 10000 (a.drop i) % b ∧ valF 10000 (a.drop i) % b < b := fun i => ⟨Int.emod_nonneg _ (by omega), Int.emod_lt_of_pos _ b0⟩
  have ml : ∀ i : Nat, (lim 10000 (valF 10000 (a.drop i) % b)).length ≤ 480 := fun i => lim_len dw2 (mr i).1 (Int.lt_trans (mr i).2 b1)
  refine ⟨⟨by omega, by omega, sm (by omega)⟩, fj (by omega) (by omega), ⟨0, by omega, ?_, ?_, by omega⟩, fun x hx => ⟨fun h4 => ?_, fun h4 => ?_⟩⟩
  · simp [digs]
  · rw [Nat.sub_zero, List.drop_length]; simp [valF]; rfl
  · obtain ⟨i, hi⟩ : ∃ i, a.length - x = i + 1 := ⟨a.length - x - 1, by omega⟩
    have ei : ((a.length : Int) - 1 - x).toNat = i := by omega
    have el : a.length - (x + 1) = i := by omega
    have rx := figs_getD dw0 cz.1 i
    obtain ⟨⟨s0, s1⟩, s2, s3⟩ := zword cz.1 (show 1 ≤ b by omega) (i := i) (x := x) (by omega)
    simp only [hi, ei]
    have m0 := (mr (i + 1)).1
    obtain ⟨R, hR⟩ : ∃ R, R = a.getD i 0 + 10000 * (valF 10000 (a.drop (i + 1)) % b) := ⟨_, rfl⟩
    rw [← hR] at s0 s1 s2 s3
    have eR : trimF ([a.getD i 0] ++ lim 10000 (valF 10000 (a.drop (i + 1)) % b)) = lim 10000 R := by
      rw [trim_lim dw2 (figs_app.2 ⟨figs_cons.2 ⟨rx, fun x hx => by cases hx⟩, (lim_can dw2 m0).1⟩), val_app, val_lim dw2 m0, hR]
      congr 1; simp [valF]
    have cR := lim_can dw2 s0
    have lR : (lim 10000 R).length ≤ 482 := lim_len dw2 s0 (Int.lt_trans s1 b481)
    simp only [eR, val_lim dw2 s0]
    have mlx := ml (i + 1)
    clear b481
    refine ⟨by omega, sm (by omega), by simp; omega, ⟨(0, 10000), ⟨⟨by decide, by decide, by decide⟩, by simp; exact s0, by show R < 10000 * b; exact s1⟩, rfl, rfl⟩, fun y hy => ?_⟩
    obtain ⟨lo, hi'⟩ := y
    obtain ⟨⟨y0, y1, y2⟩, y3, y4⟩ := hy
    have y0 : 0 ≤ lo := y0
    have y1 : lo < hi' := y1
    have y2 : hi' ≤ 10000 := y2
    have y3 : lo * b ≤ R := y3
    have y4 : R < hi' * b := y4
    have tm : ∀ d : Int, 0 ≤ d → d ≤ 10000 → 0 ≤ b * d ∧ (lim 10000 (b * d)).length ≤ 490 := fun d d0 d1 => by
      have p0 : 0 ≤ b * d := Int.mul_nonneg (Int.le_of_lt b0) d0
      have dp : d < 10000 ^ 2 := by
        have : (10000 : Int) ^ 2 = 100000000 := by decide
        rw [this]; omega
      exact ⟨p0, Nat.le_trans (lim_len dw2 p0 (mul_lt_pow dw2 (Int.le_of_lt b0) b1 d0 dp)) (by decide)⟩
    refine ⟨fj (by show -1000000000000000 ≤ hi' - lo; omega) (by show hi' - lo ≤ 1000000000000000; omega), fun g1 => ?_, fun g1 => ?_⟩
    · have g1 : 1 < hi' - lo := g1
      have hm0 : 0 ≤ (lo + hi') / 2 := by omega
      have hm1 : (lo + hi') / 2 ≤ 10000 := by omega
      obtain ⟨t0, t1⟩ := tm _ hm0 hm1
      have hc := cmpN_sgn dw0 (lim_can dw2 t0) cR
      rw [val_lim dw2 t0, val_lim dw2 s0] at hc
      refine ⟨fj (by show -1000000000000000 ≤ lo + hi'; omega) (by show lo + hi' ≤ 1000000000000000; omega), ⟨by show 0 ≤ lo + hi'; omega, by decide⟩, fj (by show -1000000000000000 ≤ (lo + hi') / 2; omega) (by show (lo + hi') / 2 ≤ 1000000000000000; omega), ⟨⟨b, rfl, Int.le_of_lt b0, b490⟩, hm0, hm1⟩, ⟨Nat.le_trans t1 (by decide), Nat.le_trans lR (by decide)⟩, fun g2 => ⟨((lo + hi') / 2, hi'), ⟨⟨hm0, ?_, y2⟩, ?_, y4⟩, ?_, rfl, rfl⟩, fun g2 => ⟨(lo, (lo + hi') / 2), ⟨⟨y0, ?_, hm1⟩, y3, ?_⟩, ?_, rfl, rfl⟩⟩
      · show (lo + hi') / 2 < hi'; omega
      · show (lo + hi') / 2 * b ≤ R
        have g2 : cmpN (lim 10000 (b * ((lo + hi') / 2))) (lim 10000 R) ≤ 0 := g2
        rw [hc, sgn_le] at g2
        rw [Int.mul_comm]; omega
      · show (hi' - (lo + hi') / 2).toNat < (hi' - lo).toNat; omega
      · show lo < (lo + hi') / 2; omega
      · show R < (lo + hi') / 2 * b
        have g2 : ¬ cmpN (lim 10000 (b * ((lo + hi') / 2))) (lim 10000 R) ≤ 0 := g2
        rw [hc, sgn_le] at g2
        rw [Int.mul_comm]; omega
      · show ((lo + hi') / 2 - lo).toNat < (hi' - lo).toNat; omega
    · have g1 : ¬ 1 < hi' - lo := g1
      have eh : hi' = lo + 1 := by omega
      rw [eh, Int.add_mul, Int.one_mul] at y4
      have lo1 : lo ≤ 10000 := by omega
      obtain ⟨t0, t1⟩ := tm lo y0 lo1
      have hbl : b * lo = lo * b := Int.mul_comm _ _
      have hq : R / b = lo := by
        have d1 : lo ≤ R / b := (Int.le_ediv_iff_mul_le b0).2 y3
        have d2 : R / b < lo + 1 := Int.ediv_lt_of_lt_mul b0 (by rw [Int.add_mul, Int.one_mul]; exact y4)
        omega
      have hm : R - b * lo = R % b := by
        have := Int.emod_add_mul_ediv R b
        rw [hq] at this
        omega
      show _ ∧ ((∃ z, lim 10000 b = lim 10000 z ∧ 0 ≤ z ∧ z < 10000 ^ 490) ∧ 0 ≤ lo ∧ lo ≤ 10000) ∧ _
      have hle : valF 10000 (lim 10000 (b * lo)) ≤ valF 10000 (lim 10000 R) := by rw [val_lim dw2 t0, val_lim dw2 s0]; omega
      have hll := len_of_lez cR.1 (lim_can dw2 t0) hle
      have hs := less_lim cR.1 (lim_can dw2 t0).1 hle
      rw [val_lim dw2 t0, val_lim dw2 s0, hm] at hs
      refine ⟨by omega, ⟨⟨b, rfl, Int.le_of_lt b0, b490⟩, y0, lo1⟩, ⟨⟨cR.1, (lim_can dw2 t0).1⟩, ⟨Nat.le_trans lR (by decide), hll⟩, ?_⟩, Nat.le_trans lR (by decide), fj (by omega) (by omega), x + 1, by omega, by omega, ?_, ?_, by omega⟩
      · show valF 10000 (lim 10000 (b * lo)) ≤ R
        rw [val_lim dw2 t0]; omega
      · rw [el, ← hq]; exact s2
      · show trimF (digs 10000 (R - valF 10000 (lim 10000 (b * lo))) (lim 10000 R).length) = _
        rw [val_lim dw2 t0, hm, hs, el, s3]
  · have hx' : x = a.length := by omega
    subst hx'
    rw [Nat.sub_self, List.drop_zero, List.replicate_zero, List.nil_append, hz]
    have d0 : 0 ≤ z / b := Int.ediv_nonneg h0 (Int.le_of_lt b0)
    have d1 : z / b < 10000 ^ a.length := by
      have r := val_range dw0 cz.1
      rw [hz] at r
      exact Int.lt_of_le_of_lt (Int.ediv_le_self _ h0) r.2
    have m0 : 0 ≤ z % b := Int.emod_nonneg _ (by omega)
    have t1 : trimF (digs 10000 (z / b) a.length) = lim 10000 (z / b) := (lim_digs dw2 d0 d1).symm
    have t2 : trimF (lim 10000 (z % b)) = lim 10000 (z % b) := by rw [trim_lim dw2 (lim_can dw2 m0).1, val_lim dw2 m0]
    have mm := ml 0
    rw [List.drop_zero, hz] at mm
    have q1 := int_made (n := false) dw2 d0
    have q2 := int_made (n := false) dw2 m0
    simp only [Bool.false_eq_true, if_false] at q1 q2
    rw [t1, t2]
    refine ⟨by omega, Nat.le_trans mm (by decide), fun h => (by cases h), fun _ => Prod.ext q1 q2⟩
theorem ok71 : r71.OK Tryz.prog := r71.ok (fn := Tryz.f71) (fun p => C71 p.1.2 p.2.2) (fun _ => cx_ok (cs := [r78.ci, r99.ci, r100.ci, r101.ci, r42.ci, r77.ci]) ⟨PC.OK.ci ok78, PC.OK.ci ok99, PC.OK.ci ok100, PC.OK.ci ok101, PC.OK.ci ok42, PC.OK.ci ok77, trivial⟩ _) (by kernel_rfl) (by kernel_rfl) (by kernel_rfl) fun p hp => by
  obtain ⟨⟨n1, m1⟩, n2, m2⟩ := p
  obtain ⟨⟨hp1, hp2⟩, hp3, hp4⟩ := hp
  obtain ⟨z1, e1, e2, h1, e3⟩ := mk_intz hp1
  obtain ⟨z2, f1, f2, h2, f3⟩ := mk_intz hp2
  have hp5 : 0 ≤ vZ (n1, m1) := hp3
  have hp6 : 0 < vZ (n2, m2) := hp4
  rw [e3] at hp5
  rw [f3] at hp6
  rw [abs_pos hp5] at e2 h1
  rw [abs_pos (Int.le_of_lt hp6)] at f2 h2
  have g1 : n1 = false := by rw [e1]; exact decide_eq_false (Int.not_lt.2 hp5)
  have g2 : n2 = false := by rw [f1]; exact decide_eq_false (Int.not_lt.2 (Int.le_of_lt hp6))
  subst e2 f2 g1 g2
  exact vc71 hp5 h1 hp6 h2
end Go.SX.We.Nm

/- Chapter 08: the reference's fractions, proved. -/
namespace Go.SX.We.Nm
open Go Go.Proofs
theorem vc70 {z w : Int} (h0 : 0 ≤ z) (h1 : z < 10000 ^ 480) (w0 : 0 ≤ w) (w1 : w < 10000 ^ 480) : h70 (iZ z).1 (iZ z).2 (iZ w).1 (iZ w).2 := by
  refine (h70_eq _ _ _ _).mpr ?_
  simp only [pp1, eq_self, and_true, true_and, and_self, peta, iZ_vZ, abs_pos h0, abs_pos w0]
  refine ⟨okz_pos' h0 h1 (by decide), okz_pos' w0 w1 (by decide), ⟨(z, w), ⟨⟨h0, w0⟩, ⟨h1, w1⟩, rfl⟩, ⟨rfl, rfl⟩, rfl, rfl⟩, fun x hx => ?_⟩
  obtain ⟨x, y⟩ := x
  obtain ⟨⟨x0, y0⟩, ⟨x1, y1⟩, hg⟩ := hx
  have x0 : 0 ≤ x := x0
  have y0 : 0 ≤ y := y0
  have x1 : x < 10000 ^ 480 := x1
  have y1 : y < 10000 ^ 480 := y1
  have hg : gcdI x y = gcdI z w := hg
  have hpy := lim_pos dw2 y0
  have ey : (iZ y).2 = lim 10000 y := by rw [iZ_pos y0]
  refine ⟨fun h => ⟨⟨⟨okz_pos x0 x1, okz_pos y0 y1⟩, ?_, ?_⟩, (y, x % y), ?_⟩, fun h => ?_⟩
  · exact x0
  · have h' : (0 : Int) < ((iZ y).2.length : Int) := h
    rw [ey] at h'
    exact hpy.1 (Int.ofNat_lt.1 h')
  · have h' : (0 : Int) < ((iZ y).2.length : Int) := h
    rw [ey] at h'
    have hy : 0 < y := hpy.1 (Int.ofNat_lt.1 h')
    have m0 : 0 ≤ x % y := Int.emod_nonneg _ (Int.ne_of_gt hy)
    have m1 : x % y < y := Int.emod_lt_of_pos _ hy
    refine ⟨⟨⟨y0, m0⟩, ⟨y1, Int.lt_trans m1 y1⟩, (gcdI_step x0 hy).trans hg⟩, ?_, ⟨rfl, rfl⟩, rfl, rfl⟩
    show (x % y).toNat < y.toNat
    clear h1 w1 x1 y1
    omega
  · have h' : ¬ (0 : Int) < ((iZ y).2.length : Int) := h
    rw [ey] at h'
    have hy : y = 0 := by
      clear h1 w1 x1 y1
      omega
    rw [hy, gcdI_zero x x0] at hg
    show iZ x = _
    rw [hg]
theorem ok_iZ {k : Nat} {p : DN} (h : OkZ k p) : ∃ z, p = iZ z ∧ absI z < 10000 ^ k ∧ vZ p = z := by
  obtain ⟨z, h1, h2⟩ := h
  exact ⟨z, h1, h2, by rw [h1]; exact iZ_vZ z⟩
theorem ok70 : r70.OK Tryz.prog := r70.ok (fn := Tryz.f70) (fun p => cx [r69.ci, r71.ci] [(0, fun _ => A70 (vZ p.1) (vZ p.2))]) (fun _ => cx_ok (cs := [r69.ci, r71.ci]) ⟨PC.OK.ci ok69, PC.OK.ci ok71, trivial⟩ _) (by kernel_rfl) (by kernel_rfl) (by kernel_rfl) fun p hp => by
  obtain ⟨p, q⟩ := p
  obtain ⟨⟨hp1, hp2⟩, hp3, hp4⟩ := hp
  obtain ⟨z, e1, h1, e3⟩ := ok_iZ hp1
  obtain ⟨w, f1, h2, f3⟩ := ok_iZ hp2
  have hp5 : 0 ≤ vZ p := hp3
  have hp6 : 0 ≤ vZ q := hp4
  rw [e3] at hp5
  rw [f3] at hp6
  rw [abs_pos hp5] at h1
  rw [abs_pos hp6] at h2
  have key := vc70 hp5 h1 hp6 h2
  rw [← e1, ← f1] at key
  exact key
theorem ok17z : r17.OK Tryz.prog := r17.ok (fn := Tryz.f17) (fun _ => cx [r42.ci] []) (fun _ => cx_ok (cs := [r42.ci]) ⟨PC.OK.ci ok42, trivial⟩ _) (by kernel_rfl) (by kernel_rfl) (by kernel_rfl) fun n hp => by
  refine (h17_eq n).mpr ?_
  exact ⟨hp, ⟨by decide, by decide⟩, rfl⟩
theorem frz_parts {k : Nat} {p q : DN} (h : FrZ k (p, q)) : ∃ n d : Int, p = iZ n ∧ q = iZ d ∧ 0 ≤ n ∧ 0 < d ∧ n < 10000 ^ k ∧ d < 10000 ^ k := by
  obtain ⟨n, d, h1, h2⟩ := h
  unfold ratZ at h1
  injection h1 with e1 e2
  exact ⟨n, d, e1, e2, h2⟩
theorem bigz (k : Nat) (hk : 2 ≤ k) (x : Int) (hx : x ≤ 1000000) : x < 10000 ^ k := by
  have : (10000 : Int) ^ 2 ≤ 10000 ^ k := pow_mono' dw0 hk
  have e : (10000 : Int) ^ 2 = 100000000 := by decide
  rw [e] at this
  exact Int.lt_of_lt_of_le (by omega) this
end Go.SX.We.Nm
