/- Parts of the proof, one after the other: WzZ4 WzZ4E WzZ4Q WzZ5Q WzZ6 WzZ6E WzZ6Q. -/
import Derived.Test.YtgbnkmhabhgigaaGreatM8
import Derived.Test.YtgbnkmhabhgigaaGreatM12
/- Chapter 08: the reference's quotients and fractions, what is asked. -/
namespace Go.SX.We.Nm
open Go Go.Proofs
def ratZ (q : Int × Int) : DN × DN := (iZ q.1, iZ q.2)
def FrZ (k : Nat) (p : DN × DN) : Prop := ∃ n d : Int, p = ratZ (n, d) ∧ 0 ≤ n ∧ 0 < d ∧ n < 10000 ^ k ∧ d < 10000 ^ k
noncomputable section
@[reducible] def A71o (m1 : List Int) (b : Int) : Ann where
  τ := Nat
  pre := []
  preC := []
  keep := [2, 3, 4, 5, 6]
  slots k := [(7, .c (.ro (.int .i64) (lim 10000 (valF 10000 (m1.drop (m1.length - k)) % b)))), (8, .c (.int .i64 ((m1.length : Int) - 1 - k)))]
  ents k := [(4, .row 3 (.int .i64) 1 (List.replicate (m1.length - k) 0 ++ digs 10000 (valF 10000 (m1.drop (m1.length - k)) / b) k)), (5, .dead)]
  ok k := k ≤ m1.length
  m k := m1.length - k
@[reducible] def A71i (b : Int) (rest : List Int) : Ann where
  τ := Int × Int
  pre := []
  preC := []
  keep := [2, 3, 4, 5, 6, 8]
  slots x := [(7, .c (.ro (.int .i64) rest)), (9, .c (.int .i64 x.1)), (10, .c (.int .i64 x.2))]
  ents _ := []
  ok x := (0 ≤ x.1 ∧ x.1 < x.2 ∧ x.2 ≤ 10000) ∧ x.1 * b ≤ valF 10000 rest ∧ valF 10000 rest < x.2 * b
  m x := (x.2 - x.1).toNat
def with71 (b : Int) (st : St) : Ann :=
  match findT 7 st.t with
  | .c (.ro (.int .i64) rest) => A71i b rest
  | _ => noAnn
@[reducible] def r71 : PC := ⟨71, [aZ, aZ], [aZ, aZ], fun p => (OkZ 480 p.1 ∧ OkZ 480 p.2) ∧ 0 ≤ vZ p.1 ∧ 0 < vZ p.2, fun p => (iZ (vZ p.1 / vZ p.2), iZ (vZ p.1 % vZ p.2))⟩
@[reducible] def C71 (m1 m2 : List Int) : Ctx := cx [r78.ci, r99.ci, r100.ci, r101.ci, r42.ci, r77.ci] [(0, fun _ => A71o m1 (valF 10000 m2)), (1, with71 (valF 10000 m2))]
def h71 (n1 : Bool) (m1 : List Int) (n2 : Bool) (m2 : List Int) : Prop := r71.VC (C71 m1 m2) Tryz.f71 ((n1, m1), (n2, m2))
@[reducible] def A70 (a b : Int) : Ann where
  τ := Int × Int
  pre := []
  preC := []
  keep := [2, 3, 4]
  slots _ := []
  ents x := [(0, .blk 32 [.bool 0 (iZ x.1).1, .ro (.int .i64) (iZ x.1).2]), (1, .blk 32 [.bool 0 (iZ x.2).1, .ro (.int .i64) (iZ x.2).2])]
  ok x := (0 ≤ x.1 ∧ 0 ≤ x.2) ∧ (x.1 < 10000 ^ 480 ∧ x.2 < 10000 ^ 480) ∧ gcdI x.1 x.2 = gcdI a b
  m x := x.2.toNat
@[reducible] def r70 : PC := ⟨70, [aZ, aZ], [aZ], fun p => (OkZ 480 p.1 ∧ OkZ 480 p.2) ∧ 0 ≤ vZ p.1 ∧ 0 ≤ vZ p.2, fun p => iZ (gcdI (vZ p.1) (vZ p.2))⟩
def h70 (n1 : Bool) (m1 : List Int) (n2 : Bool) (m2 : List Int) : Prop := r70.VC (cx [r69.ci, r71.ci] [(0, fun _ => A70 (vZ (n1, m1)) (vZ (n2, m2)))]) Tryz.f70 ((n1, m1), (n2, m2))
@[reducible] def r17 : PC := ⟨17, [aI], [aQ], fun v => 0 ≤ v ∧ v ≤ 1000000, fun v => ratZ (v, 1)⟩
def h17 (v : Int) : Prop := r17.VC (cx [r42.ci] []) Tryz.f17 v
@[reducible] def r73 : PC := ⟨73, [aZ, aZ], [aQ], fun p => OkZ 480 p.2 ∧ 0 < vZ p.2, fun p => (p.1, p.2)⟩
def h73 (n1 : Bool) (m1 : List Int) (n2 : Bool) (m2 : List Int) : Prop := r73.VC (cx [r80.ci] []) Tryz.f73 ((n1, m1), (n2, m2))
@[reducible] def r34 : PC := ⟨34, [aQ, aQ], [aQ], fun p => FrZ 100 p.1 ∧ FrZ 100 p.2, fun p => ratZ (vZ p.1.1 * vZ p.2.2 + vZ p.2.1 * vZ p.1.2, vZ p.1.2 * vZ p.2.2)⟩
def h34 (n1 : Bool) (m1 : List Int) (n2 : Bool) (m2 : List Int) (n3 : Bool) (m3 : List Int) (n4 : Bool) (m4 : List Int) : Prop := r34.VC (cx [r40.ci, r72.ci] []) Tryz.f34 (((n1, m1), (n2, m2)), ((n3, m3), (n4, m4)))
@[reducible] def r33 : PC := ⟨33, [aQ], [aQ], FrZ 400, fun p => ratZ (lowI (vZ p.1) (vZ p.2))⟩
def h33 (n1 : Bool) (m1 : List Int) (n2 : Bool) (m2 : List Int) : Prop := r33.VC (cx [r70.ci, r71.ci] []) Tryz.f33 ((n1, m1), (n2, m2))
@[reducible] def r35 : PC := ⟨35, [aI, aI], [aQ], fun p => (0 ≤ p.1 ∧ p.1 ≤ 1000000) ∧ 1 ≤ p.2 ∧ p.2 ≤ 1000000, fun p => ratZ (lowI p.1 p.2)⟩
def h35 (n d : Int) : Prop := r35.VC (cx [r42.ci, r73.ci, r33.ci] []) Tryz.f35 (n, d)
end
end Go.SX.We.Nm

/- Printed by VC.lean: what the executor asks. -/
namespace Go.SX.We.Nm
open Go Go.Proofs IntKind List
def Qh71_1 (n1 : Bool) (m1 : List Int) (n2 : Bool) (m2 : List Int) (x : Nat) : Prop := ((n1 = n1 ∧ m1 = m1 ∧ True) ∧
 (n2 = n2 ∧ m2 = m2 ∧ True) ∧
 (True ∧ Value.slice none (0 : Nat) (0 : Nat) = Value.slice none (0 : Nat) (0 : Nat) ∧ True) ∧
 (True ∧ Value.slice none (0 : Nat) (0 : Nat) = Value.slice none (0 : Nat) (0 : Nat) ∧ True) ∧
 replicate (m1.length - x) 0 ++ digs 10000 (valF 10000 (drop (m1.length - x) m1) / valF 10000 m2) x =
 replicate (m1.length - x) 0 ++
 digs 10000 (valF 10000 (drop (m1.length - x) m1) / valF 10000 m2) x ∧
 True ∧ True ∧ True)
theorem h71_eq (n1 : Bool) (m1 : List Int) (n2 : Bool) (m2 : List Int) : h71 n1 m1 n2 m2 = (
 (0 ≤ (m1.length : Int) ∧ (m1.length : Int) ≤ (m1.length : Int) ∧ Small (m1.length : Int).toNat) ∧
 Fits .i64 ((m1.length : Int) - 1) ∧
 (∃ (x0 : Nat),
 x0 ≤ m1.length ∧
 ((n1 = n1 ∧ m1 = m1 ∧ True) ∧
 (n2 = n2 ∧ m2 = m2 ∧ True) ∧
 (True ∧ Value.slice none (0 : Nat) (0 : Nat) = Value.slice none (0 : Nat) (0 : Nat) ∧ True) ∧
 (True ∧ Value.slice none (0 : Nat) (0 : Nat) = Value.slice none (0 : Nat) (0 : Nat) ∧ True) ∧
 replicate (m1.length : Int).toNat 0 =
 replicate (m1.length - x0) 0 ++ digs 10000 (valF 10000 (drop (m1.length - x0) m1) / valF 10000 m2) x0 ∧
 True ∧ True) ∧
 nilT Int = lim 10000 (valF 10000 (drop (m1.length - x0) m1) % valF 10000 m2) ∧
 (m1.length : Int) - 1 = (m1.length : Int) - 1 - (x0 : Int) ∧ True ∧ True ∧ True ∧ True ∧ True ∧ True) ∧
 ∀ (x : Nat),
 x ≤ m1.length →
 (0 ≤ (m1.length : Int) - 1 - (x : Int) →
 0 ≤ (m1.length : Int) - 1 - (x : Int) ∧
 (0 ≤ (m1.length : Int) - 1 - (x : Int) ∧ (m1.length : Int) - 1 - (x : Int) < (m1.length : Int)) ∧
 Small ((0 : Nat) + 1 + (lim 10000 (valF 10000 (drop (m1.length - x) m1) % valF 10000 m2)).length) ∧
 ([m1.getD ((m1.length : Int) - 1 - (x : Int)).toNat 0] ++
 lim 10000 (valF 10000 (drop (m1.length - x) m1) % valF 10000 m2)).length ≤
 (1000000 : Nat) ∧
 (∃ (x0 : Int × Int),
 ((0 ≤ x0.fst ∧ x0.fst < x0.snd ∧ x0.snd ≤ 10000) ∧
 x0.fst * valF 10000 m2 ≤
 valF 10000
 (trimF
 ([m1.getD ((m1.length : Int) - 1 - (x : Int)).toNat 0] ++
 lim 10000 (valF 10000 (drop (m1.length - x) m1) % valF 10000 m2))) ∧
 valF 10000
 (trimF
 ([m1.getD ((m1.length : Int) - 1 - (x : Int)).toNat 0] ++
 lim 10000 (valF 10000 (drop (m1.length - x) m1) % valF 10000 m2))) <
 x0.snd * valF 10000 m2) ∧
 (Qh71_1 n1 m1 n2 m2 x) ∧
 trimF
 ([m1.getD ((m1.length : Int) - 1 - (x : Int)).toNat 0] ++
 lim 10000 (valF 10000 (drop (m1.length - x) m1) % valF 10000 m2)) =
 trimF
 ([m1.getD ((m1.length : Int) - 1 - (x : Int)).toNat 0] ++
 lim 10000 (valF 10000 (drop (m1.length - x) m1) % valF 10000 m2)) ∧
 0 = x0.fst ∧
 10000 = x0.snd ∧
 (m1.length : Int) - 1 - (x : Int) = (m1.length : Int) - 1 - (x : Int) ∧ True ∧ True ∧ True ∧ True ∧ True ∧ True) ∧
 ∀ (x_1 : Int × Int),
 (0 ≤ x_1.fst ∧ x_1.fst < x_1.snd ∧ x_1.snd ≤ 10000) ∧
 x_1.fst * valF 10000 m2 ≤
 valF 10000
 (trimF
 ([m1.getD ((m1.length : Int) - 1 - (x : Int)).toNat 0] ++
 lim 10000 (valF 10000 (drop (m1.length - x) m1) % valF 10000 m2))) ∧
 valF 10000
 (trimF
 ([m1.getD ((m1.length : Int) - 1 - (x : Int)).toNat 0] ++
 lim 10000 (valF 10000 (drop (m1.length - x) m1) % valF 10000 m2))) <
 x_1.snd * valF 10000 m2 →
 Fits .i64 (x_1.snd - x_1.fst) ∧
 (1 < x_1.snd - x_1.fst →
 1 < x_1.snd - x_1.fst ∧
 Fits .i64 (x_1.fst + x_1.snd) ∧
 (0 ≤ x_1.fst + x_1.snd ∧ (0 : Int) < 2) ∧
 Fits .i64 ((x_1.fst + x_1.snd) / 2) ∧
 ((∃ (z : Int), m2 = lim 10000 z ∧ 0 ≤ z ∧ z < 10000 ^ 490) ∧
 0 ≤ (x_1.fst + x_1.snd) / 2 ∧ (x_1.fst + x_1.snd) / (2 : Int) ≤ 10000) ∧
 ((lim 10000 (valF 10000 m2 * ((x_1.fst + x_1.snd) / 2))).length ≤ 1000000 ∧
 (trimF
 ([m1.getD ((m1.length : Int) - 1 - (x : Int)).toNat 0] ++
 lim 10000 (valF 10000 (drop (m1.length - x) m1) % valF 10000 m2))).length ≤
 (1000000 : Nat)) ∧
 (cmpN (lim 10000 (valF 10000 m2 * ((x_1.fst + x_1.snd) / 2)))
 (trimF
 ([m1.getD ((m1.length : Int) - 1 - (x : Int)).toNat 0] ++
 lim 10000 (valF 10000 (drop (m1.length - x) m1) % valF 10000 m2))) ≤
 0 →
 cmpN (lim 10000 (valF 10000 m2 * ((x_1.fst + x_1.snd) / 2)))
 (trimF
 ([m1.getD ((m1.length : Int) - 1 - (x : Int)).toNat 0] ++
 lim 10000 (valF 10000 (drop (m1.length - x) m1) % valF 10000 m2))) ≤
 0 ∧
 ∃ (x' : Int × Int),
 ((0 ≤ x'.fst ∧ x'.fst < x'.snd ∧ x'.snd ≤ 10000) ∧
 x'.fst * valF 10000 m2 ≤
 valF 10000
 (trimF
 ([m1.getD ((m1.length : Int) - 1 - (x : Int)).toNat 0] ++
 lim 10000 (valF 10000 (drop (m1.length - x) m1) % valF 10000 m2))) ∧
 valF 10000
 (trimF
 ([m1.getD ((m1.length : Int) - 1 - (x : Int)).toNat 0] ++
 lim 10000 (valF 10000 (drop (m1.length - x) m1) % valF 10000 m2))) <
 x'.snd * valF 10000 m2) ∧
 (x'.snd - x'.fst).toNat < (x_1.snd - x_1.fst).toNat ∧
 (Qh71_1 n1 m1 n2 m2 x) ∧
 trimF
 ([m1.getD ((m1.length : Int) - 1 - (x : Int)).toNat 0] ++
 lim 10000 (valF 10000 (drop (m1.length - x) m1) % valF 10000 m2)) =
 trimF
 ([m1.getD ((m1.length : Int) - 1 - (x : Int)).toNat 0] ++
 lim 10000 (valF 10000 (drop (m1.length - x) m1) % valF 10000 m2)) ∧
 (x_1.fst + x_1.snd) / 2 = x'.fst ∧
 x_1.snd = x'.snd ∧
 (m1.length : Int) - 1 - (x : Int) = (m1.length : Int) - 1 - (x : Int) ∧
 True ∧ True ∧ True ∧ True ∧ True ∧ True) ∧
 (¬cmpN (lim 10000 (valF 10000 m2 * ((x_1.fst + x_1.snd) / 2)))
 (trimF
 ([m1.getD ((m1.length : Int) - 1 - (x : Int)).toNat 0] ++
 lim 10000 (valF 10000 (drop (m1.length - x) m1) % valF 10000 m2))) ≤
 0 →
 ¬cmpN (lim 10000 (valF 10000 m2 * ((x_1.fst + x_1.snd) / 2)))
 (trimF
 ([m1.getD ((m1.length : Int) - 1 - (x : Int)).toNat 0] ++
 lim 10000 (valF 10000 (drop (m1.length - x) m1) % valF 10000 m2))) ≤
 0 ∧
 ∃ (x' : Int × Int),
 ((0 ≤ x'.fst ∧ x'.fst < x'.snd ∧ x'.snd ≤ 10000) ∧
 x'.fst * valF 10000 m2 ≤
 valF 10000
 (trimF
 ([m1.getD ((m1.length : Int) - 1 - (x : Int)).toNat 0] ++
 lim 10000 (valF 10000 (drop (m1.length - x) m1) % valF 10000 m2))) ∧
 valF 10000
 (trimF
 ([m1.getD ((m1.length : Int) - 1 - (x : Int)).toNat 0] ++
 lim 10000 (valF 10000 (drop (m1.length - x) m1) % valF 10000 m2))) <
 x'.snd * valF 10000 m2) ∧
 (x'.snd - x'.fst).toNat < (x_1.snd - x_1.fst).toNat ∧
 (Qh71_1 n1 m1 n2 m2 x) ∧
 trimF
 ([m1.getD ((m1.length : Int) - 1 - (x : Int)).toNat 0] ++
 lim 10000 (valF 10000 (drop (m1.length - x) m1) % valF 10000 m2)) =
 trimF
 ([m1.getD ((m1.length : Int) - 1 - (x : Int)).toNat 0] ++
 lim 10000 (valF 10000 (drop (m1.length - x) m1) % valF 10000 m2)) ∧
 x_1.fst = x'.fst ∧
 (x_1.fst + x_1.snd) / 2 = x'.snd ∧
 (m1.length : Int) - 1 - (x : Int) = (m1.length : Int) - 1 - (x : Int) ∧
 True ∧ True ∧ True ∧ True ∧ True ∧ True)) ∧
 (¬1 < x_1.snd - x_1.fst →
 ¬1 < x_1.snd - x_1.fst ∧
 (0 ≤ (m1.length : Int) - 1 - (x : Int) ∧
 (m1.length : Int) - 1 - (x : Int) <
 (↑(replicate (m1.length - x) 0 ++
 digs 10000 (valF 10000 (drop (m1.length - x) m1) / valF 10000 m2) x).length :
 Int)) ∧
 ((∃ (z : Int), m2 = lim 10000 z ∧ 0 ≤ z ∧ z < 10000 ^ 490) ∧ 0 ≤ x_1.fst ∧ x_1.fst ≤ 10000) ∧
 (((∀ (x_2 : Int),
 x_2 ∈
 trimF
 ([m1.getD ((m1.length : Int) - 1 - (x : Int)).toNat 0] ++
 lim 10000 (valF 10000 (drop (m1.length - x) m1) % valF 10000 m2)) →
 0 ≤ x_2 ∧ x_2 < 10000) ∧
 ∀ (x : Int), x ∈ lim 10000 (valF 10000 m2 * x_1.fst) → 0 ≤ x ∧ x < 10000) ∧
 ((trimF
 ([m1.getD ((m1.length : Int) - 1 - (x : Int)).toNat 0] ++
 lim 10000 (valF 10000 (drop (m1.length - x) m1) % valF 10000 m2))).length ≤
 (100000 : Nat) ∧
 (lim 10000 (valF 10000 m2 * x_1.fst)).length ≤
 (trimF
 ([m1.getD ((m1.length : Int) - 1 - (x : Int)).toNat 0] ++
 lim 10000 (valF 10000 (drop (m1.length - x) m1) % valF 10000 m2))).length) ∧
 valF 10000 (lim 10000 (valF 10000 m2 * x_1.fst)) ≤
 valF 10000
 (trimF
 ([m1.getD ((m1.length : Int) - 1 - (x : Int)).toNat 0] ++
 lim 10000 (valF 10000 (drop (m1.length - x) m1) % valF 10000 m2)))) ∧
 (digs 10000
 (valF 10000
 (trimF
 ([m1.getD ((m1.length : Int) - 1 - (x : Int)).toNat 0] ++
 lim 10000 (valF 10000 (drop (m1.length - x) m1) % valF 10000 m2))) -
 valF 10000 (lim 10000 (valF 10000 m2 * x_1.fst)))
 (trimF
 ([m1.getD ((m1.length : Int) - 1 - (x : Int)).toNat 0] ++
 lim 10000 (valF 10000 (drop (m1.length - x) m1) % valF 10000 m2))).length).length ≤
 (1000000 : Nat) ∧
 Fits .i64 ((m1.length : Int) - 1 - (x : Int) - 1) ∧
 ∃ (x' : Nat),
 x' ≤ m1.length ∧
 m1.length - x' < m1.length - x ∧
 ((n1 = n1 ∧ m1 = m1 ∧ True) ∧
 (n2 = n2 ∧ m2 = m2 ∧ True) ∧
 (True ∧ Value.slice none (0 : Nat) (0 : Nat) = Value.slice none (0 : Nat) (0 : Nat) ∧ True) ∧
 (True ∧ Value.slice none (0 : Nat) (0 : Nat) = Value.slice none (0 : Nat) (0 : Nat) ∧ True) ∧
 (replicate (m1.length - x) 0 ++
 digs 10000 (valF 10000 (drop (m1.length - x) m1) / valF 10000 m2) x).set
 ((m1.length : Int) - 1 - (x : Int)).toNat x_1.fst =
 replicate (m1.length - x') 0 ++
 digs 10000 (valF 10000 (drop (m1.length - x') m1) / valF 10000 m2) x' ∧
 True ∧ True) ∧
 trimF
 (digs 10000
 (valF 10000
 (trimF
 ([m1.getD ((m1.length : Int) - 1 - (x : Int)).toNat 0] ++
 lim 10000 (valF 10000 (drop (m1.length - x) m1) % valF 10000 m2))) -
 valF 10000 (lim 10000 (valF 10000 m2 * x_1.fst)))
 (trimF
 ([m1.getD ((m1.length : Int) - 1 - (x : Int)).toNat 0] ++
 lim 10000 (valF 10000 (drop (m1.length - x) m1) % valF 10000 m2))).length) =
 lim 10000 (valF 10000 (drop (m1.length - x') m1) % valF 10000 m2) ∧
 (m1.length : Int) - 1 - (x : Int) - 1 = (m1.length : Int) - 1 - (x' : Int) ∧
 True ∧ True ∧ True ∧ True ∧ True ∧ True)) ∧
 (¬0 ≤ (m1.length : Int) - 1 - (x : Int) →
 ¬0 ≤ (m1.length : Int) - 1 - (x : Int) ∧
 (replicate (m1.length - x) 0 ++ digs 10000 (valF 10000 (drop (m1.length - x) m1) / valF 10000 m2) x).length ≤
 (1000000 : Nat) ∧
 (lim 10000 (valF 10000 (drop (m1.length - x) m1) % valF 10000 m2)).length ≤ 1000000 ∧
 (n1 = true →
 n1 = true ∧
 n1 = true ∧
 (0 < (↑(trimF (lim 10000 (valF 10000 (drop (m1.length - x) m1) % valF 10000 m2))).length : Int) →
 0 < (↑(trimF (lim 10000 (valF 10000 (drop (m1.length - x) m1) % valF 10000 m2))).length : Int) ∧
 0 < (↑(trimF (lim 10000 (valF 10000 (drop (m1.length - x) m1) % valF 10000 m2))).length : Int) ∧
 ((0 : Int) ≤ 1 ∧ (1 : Int) ≤ 1000000) ∧
 ((∃ (z : Int),
 (n1 &&
 decide
 (0 <
 (↑(trimF
 (replicate (m1.length - x) 0 ++
 digs 10000 (valF 10000 (drop (m1.length - x) m1) / valF 10000 m2) x)).length :
 Int)),
 trimF
 (replicate (m1.length - x) 0 ++
 digs 10000 (valF 10000 (drop (m1.length - x) m1) / valF 10000 m2) x)) =
 intB 10000 z ∧
 absI z < 10000 ^ 500) ∧
 ∃ (z : Int), ((iZ 1).fst, (iZ 1).snd) = intB 10000 z ∧ absI z < 10000 ^ 500) ∧
 ((∃ (z : Int), (n2, m2) = intB 10000 z ∧ absI z < 10000 ^ 500) ∧
 ∃ (z : Int),
 (false &&
 decide
 (0 <
 (↑(trimF (lim 10000 (valF 10000 (drop (m1.length - x) m1) % valF 10000 m2))).length : Int)),
 trimF (lim 10000 (valF 10000 (drop (m1.length - x) m1) % valF 10000 m2))) =
 intB 10000 z ∧
 absI z < 10000 ^ 500) ∧
 (((iZ
 (vZ
 (n1 &&
 decide
 (0 <
 (↑(trimF
 (replicate (m1.length - x) 0 ++
 digs 10000 (valF 10000 (drop (m1.length - x) m1) / valF 10000 m2)
 x)).length :
 Int)),
 trimF
 (replicate (m1.length - x) 0 ++
 digs 10000 (valF 10000 (drop (m1.length - x) m1) / valF 10000 m2) x)) -
 vZ ((iZ 1).fst, (iZ 1).snd))).fst,
 (iZ
 (vZ
 (n1 &&
 decide
 (0 <
 (↑(trimF
 (replicate (m1.length - x) 0 ++
 digs 10000 (valF 10000 (drop (m1.length - x) m1) / valF 10000 m2)
 x)).length :
 Int)),
 trimF
 (replicate (m1.length - x) 0 ++
 digs 10000 (valF 10000 (drop (m1.length - x) m1) / valF 10000 m2) x)) -
 vZ ((iZ 1).fst, (iZ 1).snd))).snd),
 (iZ
 (vZ (n2, m2) -
 vZ
 (false &&
 decide
 (0 <
 (↑(trimF (lim 10000 (valF 10000 (drop (m1.length - x) m1) % valF 10000 m2))).length :
 Int)),
 trimF (lim 10000 (valF 10000 (drop (m1.length - x) m1) % valF 10000 m2))))).fst,
 (iZ
 (vZ (n2, m2) -
 vZ
 (false &&
 decide
 (0 <
 (↑(trimF (lim 10000 (valF 10000 (drop (m1.length - x) m1) % valF 10000 m2))).length :
 Int)),
 trimF (lim 10000 (valF 10000 (drop (m1.length - x) m1) % valF 10000 m2))))).snd) =
 (iZ (vZ (n1, m1) / vZ (n2, m2)), iZ (vZ (n1, m1) % vZ (n2, m2)))) ∧
 (¬0 < (↑(trimF (lim 10000 (valF 10000 (drop (m1.length - x) m1) % valF 10000 m2))).length : Int) →
 ¬0 < (↑(trimF (lim 10000 (valF 10000 (drop (m1.length - x) m1) % valF 10000 m2))).length : Int) ∧
 ¬0 < (↑(trimF (lim 10000 (valF 10000 (drop (m1.length - x) m1) % valF 10000 m2))).length : Int) ∧
 ((n1 &&
 decide
 (0 <
 (↑(trimF
 (replicate (m1.length - x) 0 ++
 digs 10000 (valF 10000 (drop (m1.length - x) m1) / valF 10000 m2) x)).length :
 Int)),
 trimF
 (replicate (m1.length - x) 0 ++
 digs 10000 (valF 10000 (drop (m1.length - x) m1) / valF 10000 m2) x)),
 false &&
 decide
 (0 < (↑(trimF (lim 10000 (valF 10000 (drop (m1.length - x) m1) % valF 10000 m2))).length : Int)),
 trimF (lim 10000 (valF 10000 (drop (m1.length - x) m1) % valF 10000 m2))) =
 (iZ (vZ (n1, m1) / vZ (n2, m2)), iZ (vZ (n1, m1) % vZ (n2, m2))) ∧
 ((n1 &&
 decide
 (0 <
 (↑(trimF
 (replicate (m1.length - x) 0 ++
 digs 10000 (valF 10000 (drop (m1.length - x) m1) / valF 10000 m2) x)).length :
 Int)),
 trimF
 (replicate (m1.length - x) 0 ++
 digs 10000 (valF 10000 (drop (m1.length - x) m1) / valF 10000 m2) x)),
 false &&
 decide
 (0 < (↑(trimF (lim 10000 (valF 10000 (drop (m1.length - x) m1) % valF 10000 m2))).length : Int)),
 trimF (lim 10000 (valF 10000 (drop (m1.length - x) m1) % valF 10000 m2))) =
 (iZ (vZ (n1, m1) / vZ (n2, m2)), iZ (vZ (n1, m1) % vZ (n2, m2))))) ∧
 (n1 = false →
 n1 = false ∧
 n1 = false ∧
 ((n1 &&
 decide
 (0 <
 (↑(trimF
 (replicate (m1.length - x) 0 ++
 digs 10000 (valF 10000 (drop (m1.length - x) m1) / valF 10000 m2) x)).length :
 Int)),
 trimF
 (replicate (m1.length - x) 0 ++
 digs 10000 (valF 10000 (drop (m1.length - x) m1) / valF 10000 m2) x)),
 false &&
 decide (0 < (↑(trimF (lim 10000 (valF 10000 (drop (m1.length - x) m1) % valF 10000 m2))).length : Int)),
 trimF (lim 10000 (valF 10000 (drop (m1.length - x) m1) % valF 10000 m2))) =
 (iZ (vZ (n1, m1) / vZ (n2, m2)), iZ (vZ (n1, m1) % vZ (n2, m2))) ∧
 ((n1 &&
 decide
 (0 <
 (↑(trimF
 (replicate (m1.length - x) 0 ++
 digs 10000 (valF 10000 (drop (m1.length - x) m1) / valF 10000 m2) x)).length :
 Int)),
 trimF
 (replicate (m1.length - x) 0 ++
 digs 10000 (valF 10000 (drop (m1.length - x) m1) / valF 10000 m2) x)),
 false &&
 decide (0 < (↑(trimF (lim 10000 (valF 10000 (drop (m1.length - x) m1) % valF 10000 m2))).length : Int)),
 trimF (lim 10000 (valF 10000 (drop (m1.length - x) m1) % valF 10000 m2))) =
 (iZ (vZ (n1, m1) / vZ (n2, m2)), iZ (vZ (n1, m1) % vZ (n2, m2)))))) := by
 kernel_rfl
theorem h70_eq (n1 : Bool) (m1 : List Int) (n2 : Bool) (m2 : List Int) : h70 n1 m1 n2 m2 = (
 (∃ (z : Int), (n1, m1) = intB 10000 z ∧ absI z < 10000 ^ 500) ∧
 (∃ (z : Int), (n2, m2) = intB 10000 z ∧ absI z < 10000 ^ 500) ∧
 (∃ (x0 : Int × Int),
 ((0 ≤ x0.fst ∧ 0 ≤ x0.snd) ∧
 (x0.fst < 10000 ^ 480 ∧ x0.snd < 10000 ^ 480) ∧ gcdI x0.fst x0.snd = gcdI (vZ (n1, m1)) (vZ (n2, m2))) ∧
 (((iZ (absI (vZ (n1, m1)))).fst = (iZ x0.fst).fst ∧ (iZ (absI (vZ (n1, m1)))).snd = (iZ x0.fst).snd ∧ True) ∧
 ((iZ (absI (vZ (n2, m2)))).fst = (iZ x0.snd).fst ∧ (iZ (absI (vZ (n2, m2)))).snd = (iZ x0.snd).snd ∧ True) ∧
 (True ∧ Value.slice none (0 : Nat) (0 : Nat) = Value.slice none (0 : Nat) (0 : Nat) ∧ True) ∧ True) ∧
 True ∧ True ∧ True ∧ True) ∧
 ∀ (x : Int × Int),
 (0 ≤ x.fst ∧ 0 ≤ x.snd) ∧
 (x.fst < 10000 ^ 480 ∧ x.snd < 10000 ^ 480) ∧ gcdI x.fst x.snd = gcdI (vZ (n1, m1)) (vZ (n2, m2)) →
 (0 < (↑(iZ x.snd).snd.length : Int) →
 0 < (↑(iZ x.snd).snd.length : Int) ∧
 (((∃ (z : Int), ((iZ x.fst).fst, (iZ x.fst).snd) = intB 10000 z ∧ absI z < 10000 ^ 480) ∧
 ∃ (z : Int), ((iZ x.snd).fst, (iZ x.snd).snd) = intB 10000 z ∧ absI z < 10000 ^ 480) ∧
 0 ≤ vZ ((iZ x.fst).fst, (iZ x.fst).snd) ∧ 0 < vZ ((iZ x.snd).fst, (iZ x.snd).snd)) ∧
 (∃ (x' : Int × Int),
 ((0 ≤ x'.fst ∧ 0 ≤ x'.snd) ∧
 (x'.fst < 10000 ^ 480 ∧ x'.snd < 10000 ^ 480) ∧ gcdI x'.fst x'.snd = gcdI (vZ (n1, m1)) (vZ (n2, m2))) ∧
 x'.snd.toNat < x.snd.toNat ∧
 (((iZ x.snd).fst = (iZ x'.fst).fst ∧ (iZ x.snd).snd = (iZ x'.fst).snd ∧ True) ∧
 ((iZ (vZ ((iZ x.fst).fst, (iZ x.fst).snd) % vZ ((iZ x.snd).fst, (iZ x.snd).snd))).fst = (iZ x'.snd).fst ∧
 (iZ (vZ ((iZ x.fst).fst, (iZ x.fst).snd) % vZ ((iZ x.snd).fst, (iZ x.snd).snd))).snd = (iZ x'.snd).snd ∧ True) ∧
 (True ∧ Value.slice none (0 : Nat) (0 : Nat) = Value.slice none (0 : Nat) (0 : Nat) ∧ True) ∧ True) ∧
 True ∧ True ∧ True ∧ True) ∧
 ∃ (x' : Int × Int),
 ((0 ≤ x'.fst ∧ 0 ≤ x'.snd) ∧
 (x'.fst < 10000 ^ 480 ∧ x'.snd < 10000 ^ 480) ∧ gcdI x'.fst x'.snd = gcdI (vZ (n1, m1)) (vZ (n2, m2))) ∧
 x'.snd.toNat < x.snd.toNat ∧
 (((iZ x.snd).fst = (iZ x'.fst).fst ∧ (iZ x.snd).snd = (iZ x'.fst).snd ∧ True) ∧
 ((iZ (vZ ((iZ x.fst).fst, (iZ x.fst).snd) % vZ ((iZ x.snd).fst, (iZ x.snd).snd))).fst = (iZ x'.snd).fst ∧
 (iZ (vZ ((iZ x.fst).fst, (iZ x.fst).snd) % vZ ((iZ x.snd).fst, (iZ x.snd).snd))).snd = (iZ x'.snd).snd ∧ True) ∧
 (True ∧ Value.slice none (0 : Nat) (0 : Nat) = Value.slice none (0 : Nat) (0 : Nat) ∧ True) ∧ True) ∧
 True ∧ True ∧ True ∧ True) ∧
 (¬0 < (↑(iZ x.snd).snd.length : Int) → ¬0 < (↑(iZ x.snd).snd.length : Int) ∧ ((iZ x.fst).fst, (iZ x.fst).snd) = iZ (gcdI (vZ (n1, m1)) (vZ (n2, m2))))) := by
 kernel_rfl
theorem h17_eq (v : Int) : h17 v = (
 (0 ≤ v ∧ v ≤ 1000000) ∧
 ((0 : Int) ≤ 1 ∧ (1 : Int) ≤ 1000000) ∧ (((iZ v).fst, (iZ v).snd), (iZ 1).fst, (iZ 1).snd) = ratZ (v, (1 : Int))) := by
 kernel_rfl
theorem h73_eq (n1 : Bool) (m1 : List Int) (n2 : Bool) (m2 : List Int) : h73 n1 m1 n2 m2 = (
 (n2 = true →
 n2 = true ∧
 (∃ (z : Int), (n1, m1) = intB 10000 z ∧ absI z < 10000 ^ 500) ∧
 (∃ (z : Int), (n2, m2) = intB 10000 z ∧ absI z < 10000 ^ 500) ∧
 (((iZ (-vZ (n1, m1))).fst, (iZ (-vZ (n1, m1))).snd), (iZ (-vZ (n2, m2))).fst, (iZ (-vZ (n2, m2))).snd) = ((n1, m1), n2, m2)) ∧
 (n2 = false → n2 = false ∧ ((n1, m1), n2, m2) = ((n1, m1), n2, m2))) := by
 kernel_rfl
theorem h34_eq (n1 : Bool) (m1 : List Int) (n2 : Bool) (m2 : List Int) (n3 : Bool) (m3 : List Int) (n4 : Bool) (m4 : List Int) : h34 n1 m1 n2 m2 n3 m3 n4 m4 = (
 ((∃ (z : Int), (n1, m1) = intB 10000 z ∧ absI z < 10000 ^ 500) ∧ ∃ (z : Int), (n4, m4) = intB 10000 z ∧ absI z < 10000 ^ 500) ∧
 ((∃ (z : Int), (n3, m3) = intB 10000 z ∧ absI z < 10000 ^ 500) ∧ ∃ (z : Int), (n2, m2) = intB 10000 z ∧ absI z < 10000 ^ 500) ∧
 ((∃ (z : Int), ((iZ (vZ (n1, m1) * vZ (n4, m4))).fst, (iZ (vZ (n1, m1) * vZ (n4, m4))).snd) = intB 10000 z ∧ absI z < 10000 ^ 500) ∧
 ∃ (z : Int), ((iZ (vZ (n3, m3) * vZ (n2, m2))).fst, (iZ (vZ (n3, m3) * vZ (n2, m2))).snd) = intB 10000 z ∧ absI z < 10000 ^ 500) ∧
 ((∃ (z : Int), (n2, m2) = intB 10000 z ∧ absI z < 10000 ^ 500) ∧
 ∃ (z : Int), (n4, m4) = intB 10000 z ∧ absI z < 10000 ^ 500) ∧
 (((iZ
 (vZ ((iZ (vZ (n1, m1) * vZ (n4, m4))).fst, (iZ (vZ (n1, m1) * vZ (n4, m4))).snd) +
 vZ ((iZ (vZ (n3, m3) * vZ (n2, m2))).fst, (iZ (vZ (n3, m3) * vZ (n2, m2))).snd))).fst,
 (iZ
 (vZ ((iZ (vZ (n1, m1) * vZ (n4, m4))).fst, (iZ (vZ (n1, m1) * vZ (n4, m4))).snd) +
 vZ ((iZ (vZ (n3, m3) * vZ (n2, m2))).fst, (iZ (vZ (n3, m3) * vZ (n2, m2))).snd))).snd),
 (iZ (vZ (n2, m2) * vZ (n4, m4))).fst, (iZ (vZ (n2, m2) * vZ (n4, m4))).snd) =
 ratZ (vZ (n1, m1) * vZ (n4, m4) + vZ (n3, m3) * vZ (n2, m2), vZ (n2, m2) * vZ (n4, m4))) := by
 kernel_rfl
theorem h33_eq (n1 : Bool) (m1 : List Int) (n2 : Bool) (m2 : List Int) : h33 n1 m1 n2 m2 = (
 (((∃ (z : Int), (n1, m1) = intB 10000 z ∧ absI z < 10000 ^ 480) ∧ ∃ (z : Int), (n2, m2) = intB 10000 z ∧ absI z < 10000 ^ 480) ∧
 0 ≤ vZ (n1, m1) ∧ 0 ≤ vZ (n2, m2)) ∧
 (((∃ (z : Int), (n1, m1) = intB 10000 z ∧ absI z < 10000 ^ 480) ∧
 ∃ (z : Int), ((iZ (gcdI (vZ (n1, m1)) (vZ (n2, m2)))).fst, (iZ (gcdI (vZ (n1, m1)) (vZ (n2, m2)))).snd) = intB 10000 z ∧ absI z < 10000 ^ 480) ∧
 0 ≤ vZ (n1, m1) ∧ 0 < vZ ((iZ (gcdI (vZ (n1, m1)) (vZ (n2, m2)))).fst, (iZ (gcdI (vZ (n1, m1)) (vZ (n2, m2)))).snd)) ∧
 (((∃ (z : Int), (n2, m2) = intB 10000 z ∧ absI z < 10000 ^ 480) ∧
 ∃ (z : Int), ((iZ (gcdI (vZ (n1, m1)) (vZ (n2, m2)))).fst, (iZ (gcdI (vZ (n1, m1)) (vZ (n2, m2)))).snd) = intB 10000 z ∧ absI z < 10000 ^ 480) ∧
 0 ≤ vZ (n2, m2) ∧ 0 < vZ ((iZ (gcdI (vZ (n1, m1)) (vZ (n2, m2)))).fst, (iZ (gcdI (vZ (n1, m1)) (vZ (n2, m2)))).snd)) ∧
 (((iZ (vZ (n1, m1) / vZ ((iZ (gcdI (vZ (n1, m1)) (vZ (n2, m2)))).fst, (iZ (gcdI (vZ (n1, m1)) (vZ (n2, m2)))).snd))).fst,
 (iZ (vZ (n1, m1) / vZ ((iZ (gcdI (vZ (n1, m1)) (vZ (n2, m2)))).fst, (iZ (gcdI (vZ (n1, m1)) (vZ (n2, m2)))).snd))).snd),
 (iZ (vZ (n2, m2) / vZ ((iZ (gcdI (vZ (n1, m1)) (vZ (n2, m2)))).fst, (iZ (gcdI (vZ (n1, m1)) (vZ (n2, m2)))).snd))).fst,
 (iZ (vZ (n2, m2) / vZ ((iZ (gcdI (vZ (n1, m1)) (vZ (n2, m2)))).fst, (iZ (gcdI (vZ (n1, m1)) (vZ (n2, m2)))).snd))).snd) =
 ratZ (lowI (vZ (n1, m1)) (vZ (n2, m2)))) := by
 kernel_rfl
theorem h35_eq (n : Int) (d : Int) : h35 n d = (
 (0 ≤ n ∧ n ≤ 1000000) ∧
 (0 ≤ d ∧ d ≤ 1000000) ∧
 ((∃ (z : Int), ((iZ d).fst, (iZ d).snd) = intB 10000 z ∧ absI z < 10000 ^ 480) ∧ 0 < vZ ((iZ d).fst, (iZ d).snd)) ∧
 (∃ (n_1 : Int),
 ∃ (d_1 : Int),
 (((iZ n).fst, (iZ n).snd), (iZ d).fst, (iZ d).snd) = ratZ (n_1, d_1) ∧
 0 ≤ n_1 ∧ 0 < d_1 ∧ n_1 < 10000 ^ 400 ∧ d_1 < 10000 ^ 400) ∧
 (((ratZ (lowI (vZ ((iZ n).fst, (iZ n).snd)) (vZ ((iZ d).fst, (iZ d).snd)))).fst.fst, (ratZ (lowI (vZ ((iZ n).fst, (iZ n).snd)) (vZ ((iZ d).fst, (iZ d).snd)))).fst.snd),
 (ratZ (lowI (vZ ((iZ n).fst, (iZ n).snd)) (vZ ((iZ d).fst, (iZ d).snd)))).snd.fst, (ratZ (lowI (vZ ((iZ n).fst, (iZ n).snd)) (vZ ((iZ d).fst, (iZ d).snd)))).snd.snd) =
 ratZ (lowI n d)) := by
 kernel_rfl
end Go.SX.We.Nm

/- Chapter 08: the reference's quotients, proved. -/
namespace Go.SX.We.Nm
open Go Go.Proofs
theorem sgn_le (z : Int) : sgnF z ≤ 0 ↔ z ≤ 0 := by unfold sgnF; split <;> (try split) <;> omega
theorem zword {a : List Int} {w : Int} (ha : FigsF 10000 a) (h0 : 1 ≤ w) {i x : Nat} (hi : i + (x + 1) = a.length) :
    let r := valF 10000 (a.drop (i + 1)) % w
    let q := valF 10000 (a.drop (i + 1)) / w
    let t := a.getD i 0 + 10000 * r
    (0 ≤ t ∧ t < 10000 * w) ∧ (List.replicate (i + 1) 0 ++ digs 10000 q x).set i (t / w) = List.replicate i 0 ++ digs 10000 (valF 10000 (a.drop i) / w) (x + 1) ∧ t % w = valF 10000 (a.drop i) % w := by
  intro r q t
  have hv := val_drop (b := 10000) (xs := a) (i := i) (by omega)
  have rx := figs_getD dw0 ha i
  have rr : 0 ≤ r ∧ r < w := ⟨Int.emod_nonneg _ (by omega), Int.emod_lt_of_pos _ (by omega)⟩
  have dm := Int.emod_add_mul_ediv (valF 10000 (a.drop (i + 1))) w
  have ev : valF 10000 (a.drop i) = t + 10000 * q * w := by
    rw [hv, ← dm]
    show a.getD i 0 + 10000 * (r + w * q) = a.getD i 0 + 10000 * r + 10000 * q * w
    rw [Int.mul_add, Int.mul_comm w q, ← Int.mul_assoc]; omega
  have e1 : valF 10000 (a.drop i) / w = t / w + 10000 * q := by rw [ev, Int.add_mul_ediv_right _ _ (by omega)]
  have e2 : valF 10000 (a.drop i) % w = t % w := by rw [ev, Int.add_mul_emod_self_right]
  have ht0 : 0 ≤ t := by show 0 ≤ a.getD i 0 + 10000 * r; omega
  have ht1 : t < 10000 * w := by show a.getD i 0 + 10000 * r < 10000 * w; omega
  have d0 : 0 ≤ t / w := Int.ediv_nonneg ht0 (by omega)
  have d1 : t / w < 10000 := Int.ediv_lt_of_lt_mul (by omega) ht1
  refine ⟨⟨ht0, ht1⟩, ?_, e2.symm⟩
  rw [e1, digs_cons' _ _ _ dw0 d0 d1, List.replicate_succ', List.append_assoc, List.set_append_right _ _ (by simp), List.length_replicate, Nat.sub_self]
  rfl
theorem vc71 {z b : Int} (h0 : 0 ≤ z) (h1 : z < 10000 ^ 480) (b0 : 0 < b) (b1 : b < 10000 ^ 480) : h71 false (lim 10000 z) false (lim 10000 b) := by
  refine (h71_eq false (lim 10000 z) false (lim 10000 b)).mpr ?_
  have hb : valF 10000 (lim 10000 b) = b := val_lim dw2 (Int.le_of_lt b0)
  have hz : valF 10000 (lim 10000 z) = z := val_lim dw2 h0
  have cz := lim_can dw2 h0
  have lz : (lim 10000 z).length ≤ 480 := lim_len dw2 h0 h1
  have e1 : vZ (false, lim 10000 z) = z := by rw [← iZ_pos h0, iZ_vZ]
  have e2 : vZ (false, lim 10000 b) = b := by rw [← iZ_pos (Int.le_of_lt b0), iZ_vZ]
  rw [e1, e2]
  clear e1 e2
  have b490 := pow_le_pow' dw2 b1 (show 480 ≤ 490 by decide)
  have b481 := mul_lt_pow dw2 (show (0 : Int) ≤ 10000 by decide) (show (10000 : Int) < 10000 ^ 2 by decide) (Int.le_of_lt b0) b1
  clear h1
  generalize lim 10000 z = a at hz cz lz ⊢
  simp only [Qh71_1, pp1, eq_self, and_true, true_and, and_self, Int.toNat_natCast, List.length_append, digs_len, List.length_replicate, hb]
  have Vr : ∀ i : Nat, 0 ≤ valF 10000 (a.drop i) := fun i => (val_range dw0 (figs_drop cz.1 i)).1
  have mr : ∀ i : Nat, 0 ≤ valF 10000 (a.drop i) % b ∧ valF 10000 (a.drop i) % b < b := fun i => ⟨Int.emod_nonneg _ (by omega), Int.emod_lt_of_pos _ b0⟩
  have ml : ∀ i : Nat, (lim 10000 (valF 10000 (a.drop i) % b)).length ≤ 480 := fun i => lim_len dw2 (mr i).1 (Int.lt_trans (mr i).2 b1)
  refine ⟨⟨by omega, by omega, sm (by omega)⟩, fj (by omega) (by omega), ⟨0, by omega, ?_, ?_, by omega⟩, fun x hx => ⟨fun h4 => ?_, fun h4 => ?_⟩⟩
  · simp [digs]
  · rw [Nat.sub_zero, List.drop_length]; simp [valF]; rfl
  · obtain ⟨i, hi⟩ : ∃ i, a.length - x = i + 1 := ⟨a.length - x - 1, by omega⟩
    have ei : ((a.length : Int) - 1 - x).toNat = i := by omega
    have el : a.length - (x + 1) = i := by omega
    have rx := figs_getD dw0 cz.1 i
    obtain ⟨⟨s0, s1⟩, s2, s3⟩ := zword cz.1 (show 1 ≤ b by omega) (i := i) (x := x) (by omega)
    simp only [hi, ei]
    have m0 := (mr (i + 1)).1
    obtain ⟨R, hR⟩ : ∃ R, R = a.getD i 0 + 10000 * (valF 10000 (a.drop (i + 1)) % b) := ⟨_, rfl⟩
    rw [← hR] at s0 s1 s2 s3
    have eR : trimF ([a.getD i 0] ++ lim 10000 (valF 10000 (a.drop (i + 1)) % b)) = lim 10000 R := by
      rw [trim_lim dw2 (figs_app.2 ⟨figs_cons.2 ⟨rx, fun x hx => by cases hx⟩, (lim_can dw2 m0).1⟩), val_app, val_lim dw2 m0, hR]
      congr 1; simp [valF]
    have cR := lim_can dw2 s0
    have lR : (lim 10000 R).length ≤ 482 := lim_len dw2 s0 (Int.lt_trans s1 b481)
    simp only [eR, val_lim dw2 s0]
    have mlx := ml (i + 1)
    clear b481
    refine ⟨by omega, sm (by omega), by simp; omega, ⟨(0, 10000), ⟨⟨by decide, by decide, by decide⟩, by simp; exact s0, by show R < 10000 * b; exact s1⟩, rfl, rfl⟩, fun y hy => ?_⟩
    obtain ⟨lo, hi'⟩ := y
    obtain ⟨⟨y0, y1, y2⟩, y3, y4⟩ := hy
    have y0 : 0 ≤ lo := y0
    have y1 : lo < hi' := y1
    have y2 : hi' ≤ 10000 := y2
    have y3 : lo * b ≤ R := y3
    have y4 : R < hi' * b := y4
    have tm : ∀ d : Int, 0 ≤ d → d ≤ 10000 → 0 ≤ b * d ∧ (lim 10000 (b * d)).length ≤ 490 := fun d d0 d1 => by
      have p0 : 0 ≤ b * d := Int.mul_nonneg (Int.le_of_lt b0) d0
      have dp : d < 10000 ^ 2 := by
        have : (10000 : Int) ^ 2 = 100000000 := by decide
        rw [this]; omega
      exact ⟨p0, Nat.le_trans (lim_len dw2 p0 (mul_lt_pow dw2 (Int.le_of_lt b0) b1 d0 dp)) (by decide)⟩
    refine ⟨fj (by show -1000000000000000 ≤ hi' - lo; omega) (by show hi' - lo ≤ 1000000000000000; omega), fun g1 => ?_, fun g1 => ?_⟩
    · have g1 : 1 < hi' - lo := g1
      have hm0 : 0 ≤ (lo + hi') / 2 := by omega
      have hm1 : (lo + hi') / 2 ≤ 10000 := by omega
      obtain ⟨t0, t1⟩ := tm _ hm0 hm1
      have hc := cmpN_sgn dw0 (lim_can dw2 t0) cR
      rw [val_lim dw2 t0, val_lim dw2 s0] at hc
      refine ⟨fj (by show -1000000000000000 ≤ lo + hi'; omega) (by show lo + hi' ≤ 1000000000000000; omega), ⟨by show 0 ≤ lo + hi'; omega, by decide⟩, fj (by show -1000000000000000 ≤ (lo + hi') / 2; omega) (by show (lo + hi') / 2 ≤ 1000000000000000; omega), ⟨⟨b, rfl, Int.le_of_lt b0, b490⟩, hm0, hm1⟩, ⟨Nat.le_trans t1 (by decide), Nat.le_trans lR (by decide)⟩, fun g2 => ⟨((lo + hi') / 2, hi'), ⟨⟨hm0, ?_, y2⟩, ?_, y4⟩, ?_, rfl, rfl⟩, fun g2 => ⟨(lo, (lo + hi') / 2), ⟨⟨y0, ?_, hm1⟩, y3, ?_⟩, ?_, rfl, rfl⟩⟩
      · show (lo + hi') / 2 < hi'; omega
      · show (lo + hi') / 2 * b ≤ R
        have g2 : cmpN (lim 10000 (b * ((lo + hi') / 2))) (lim 10000 R) ≤ 0 := g2
        rw [hc, sgn_le] at g2
        rw [Int.mul_comm]; omega
      · show (hi' - (lo + hi') / 2).toNat < (hi' - lo).toNat; omega
      · show lo < (lo + hi') / 2; omega
      · show R < (lo + hi') / 2 * b
        have g2 : ¬ cmpN (lim 10000 (b * ((lo + hi') / 2))) (lim 10000 R) ≤ 0 := g2
        rw [hc, sgn_le] at g2
        rw [Int.mul_comm]; omega
      · show ((lo + hi') / 2 - lo).toNat < (hi' - lo).toNat; omega
    · have g1 : ¬ 1 < hi' - lo := g1
      have eh : hi' = lo + 1 := by omega
      rw [eh, Int.add_mul, Int.one_mul] at y4
      have lo1 : lo ≤ 10000 := by omega
      obtain ⟨t0, t1⟩ := tm lo y0 lo1
      have hbl : b * lo = lo * b := Int.mul_comm _ _
      have hq : R / b = lo := by
        have d1 : lo ≤ R / b := (Int.le_ediv_iff_mul_le b0).2 y3
        have d2 : R / b < lo + 1 := Int.ediv_lt_of_lt_mul b0 (by rw [Int.add_mul, Int.one_mul]; exact y4)
        omega
      have hm : R - b * lo = R % b := by
        have := Int.emod_add_mul_ediv R b
        rw [hq] at this
        omega
      show _ ∧ ((∃ z, lim 10000 b = lim 10000 z ∧ 0 ≤ z ∧ z < 10000 ^ 490) ∧ 0 ≤ lo ∧ lo ≤ 10000) ∧ _
      have hle : valF 10000 (lim 10000 (b * lo)) ≤ valF 10000 (lim 10000 R) := by rw [val_lim dw2 t0, val_lim dw2 s0]; omega
      have hll := len_of_lez cR.1 (lim_can dw2 t0) hle
      have hs := less_lim cR.1 (lim_can dw2 t0).1 hle
      rw [val_lim dw2 t0, val_lim dw2 s0, hm] at hs
      refine ⟨by omega, ⟨⟨b, rfl, Int.le_of_lt b0, b490⟩, y0, lo1⟩, ⟨⟨cR.1, (lim_can dw2 t0).1⟩, ⟨Nat.le_trans lR (by decide), hll⟩, ?_⟩, Nat.le_trans lR (by decide), fj (by omega) (by omega), x + 1, by omega, by omega, ?_, ?_, by omega⟩
      · show valF 10000 (lim 10000 (b * lo)) ≤ R
        rw [val_lim dw2 t0]; omega
      · rw [el, ← hq]; exact s2
      · show trimF (digs 10000 (R - valF 10000 (lim 10000 (b * lo))) (lim 10000 R).length) = _
        rw [val_lim dw2 t0, hm, hs, el, s3]
  · have hx' : x = a.length := by omega
    subst hx'
    rw [Nat.sub_self, List.drop_zero, List.replicate_zero, List.nil_append, hz]
    have d0 : 0 ≤ z / b := Int.ediv_nonneg h0 (Int.le_of_lt b0)
    have d1 : z / b < 10000 ^ a.length := by
      have r := val_range dw0 cz.1
      rw [hz] at r
      exact Int.lt_of_le_of_lt (Int.ediv_le_self _ h0) r.2
    have m0 : 0 ≤ z % b := Int.emod_nonneg _ (by omega)
    have t1 : trimF (digs 10000 (z / b) a.length) = lim 10000 (z / b) := (lim_digs dw2 d0 d1).symm
    have t2 : trimF (lim 10000 (z % b)) = lim 10000 (z % b) := by rw [trim_lim dw2 (lim_can dw2 m0).1, val_lim dw2 m0]
    have mm := ml 0
    rw [List.drop_zero, hz] at mm
    have q1 := int_made (n := false) dw2 d0
    have q2 := int_made (n := false) dw2 m0
    simp only [Bool.false_eq_true, if_false] at q1 q2
    rw [t1, t2]
    refine ⟨by omega, Nat.le_trans mm (by decide), fun h => (by cases h), fun _ => Prod.ext q1 q2⟩
theorem ok71 : r71.OK Tryz.prog := r71.ok (fn := Tryz.f71) (fun p => C71 p.1.2 p.2.2) (fun _ => cx_ok (cs := [r78.ci, r99.ci, r100.ci, r101.ci, r42.ci, r77.ci]) ⟨PC.OK.ci ok78, PC.OK.ci ok99, PC.OK.ci ok100, PC.OK.ci ok101, PC.OK.ci ok42, PC.OK.ci ok77, trivial⟩ _) (by kernel_rfl) (by kernel_rfl) (by kernel_rfl) fun p hp => by
  obtain ⟨⟨n1, m1⟩, n2, m2⟩ := p
  obtain ⟨⟨hp1, hp2⟩, hp3, hp4⟩ := hp
  obtain ⟨z1, e1, e2, h1, e3⟩ := mk_intz hp1
  obtain ⟨z2, f1, f2, h2, f3⟩ := mk_intz hp2
  have hp5 : 0 ≤ vZ (n1, m1) := hp3
  have hp6 : 0 < vZ (n2, m2) := hp4
  rw [e3] at hp5
  rw [f3] at hp6
  rw [abs_pos hp5] at e2 h1
  rw [abs_pos (Int.le_of_lt hp6)] at f2 h2
  have g1 : n1 = false := by rw [e1]; exact decide_eq_false (Int.not_lt.2 hp5)
  have g2 : n2 = false := by rw [f1]; exact decide_eq_false (Int.not_lt.2 (Int.le_of_lt hp6))
  subst e2 f2 g1 g2
  exact vc71 hp5 h1 hp6 h2
end Go.SX.We.Nm

/- Chapter 08: the reference's fractions, proved. -/
namespace Go.SX.We.Nm
open Go Go.Proofs
theorem okz_int {z : Int} {k : Nat} (h : absI z < 10000 ^ k) : OkZ k (iZ z) := ⟨z, rfl, h⟩
theorem vc70 {z w : Int} (h0 : 0 ≤ z) (h1 : z < 10000 ^ 480) (w0 : 0 ≤ w) (w1 : w < 10000 ^ 480) : h70 (iZ z).1 (iZ z).2 (iZ w).1 (iZ w).2 := by
  refine (h70_eq _ _ _ _).mpr ?_
  simp only [pp1, eq_self, and_true, true_and, and_self, peta, iZ_vZ, abs_pos h0, abs_pos w0]
  refine ⟨okz_pos' h0 h1 (by decide), okz_pos' w0 w1 (by decide), ⟨(z, w), ⟨⟨h0, w0⟩, ⟨h1, w1⟩, rfl⟩, ⟨rfl, rfl⟩, rfl, rfl⟩, fun x hx => ?_⟩
  obtain ⟨x, y⟩ := x
  obtain ⟨⟨x0, y0⟩, ⟨x1, y1⟩, hg⟩ := hx
  have x0 : 0 ≤ x := x0
  have y0 : 0 ≤ y := y0
  have x1 : x < 10000 ^ 480 := x1
  have y1 : y < 10000 ^ 480 := y1
  have hg : gcdI x y = gcdI z w := hg
  have hpy := lim_pos dw2 y0
  have ey : (iZ y).2 = lim 10000 y := by rw [iZ_pos y0]
  refine ⟨fun h => ⟨⟨⟨okz_pos x0 x1, okz_pos y0 y1⟩, ?_, ?_⟩, (y, x % y), ?_⟩, fun h => ?_⟩
  · exact x0
  · have h' : (0 : Int) < ((iZ y).2.length : Int) := h
    rw [ey] at h'
    exact hpy.1 (Int.ofNat_lt.1 h')
  · have h' : (0 : Int) < ((iZ y).2.length : Int) := h
    rw [ey] at h'
    have hy : 0 < y := hpy.1 (Int.ofNat_lt.1 h')
    have m0 : 0 ≤ x % y := Int.emod_nonneg _ (Int.ne_of_gt hy)
    have m1 : x % y < y := Int.emod_lt_of_pos _ hy
    refine ⟨⟨⟨y0, m0⟩, ⟨y1, Int.lt_trans m1 y1⟩, (gcdI_step x0 hy).trans hg⟩, ?_, ⟨rfl, rfl⟩, rfl, rfl⟩
    show (x % y).toNat < y.toNat
    clear h1 w1 x1 y1
    omega
  · have h' : ¬ (0 : Int) < ((iZ y).2.length : Int) := h
    rw [ey] at h'
    have hy : y = 0 := by
      clear h1 w1 x1 y1
      omega
    rw [hy, gcdI_zero x x0] at hg
    show iZ x = _
    rw [hg]
theorem ok_iZ {k : Nat} {p : DN} (h : OkZ k p) : ∃ z, p = iZ z ∧ absI z < 10000 ^ k ∧ vZ p = z := by
  obtain ⟨z, h1, h2⟩ := h
  exact ⟨z, h1, h2, by rw [h1]; exact iZ_vZ z⟩
theorem ok70 : r70.OK Tryz.prog := r70.ok (fn := Tryz.f70) (fun p => cx [r69.ci, r71.ci] [(0, fun _ => A70 (vZ p.1) (vZ p.2))]) (fun _ => cx_ok (cs := [r69.ci, r71.ci]) ⟨PC.OK.ci ok69, PC.OK.ci ok71, trivial⟩ _) (by kernel_rfl) (by kernel_rfl) (by kernel_rfl) fun p hp => by
  obtain ⟨p, q⟩ := p
  obtain ⟨⟨hp1, hp2⟩, hp3, hp4⟩ := hp
  obtain ⟨z, e1, h1, e3⟩ := ok_iZ hp1
  obtain ⟨w, f1, h2, f3⟩ := ok_iZ hp2
  have hp5 : 0 ≤ vZ p := hp3
  have hp6 : 0 ≤ vZ q := hp4
  rw [e3] at hp5
  rw [f3] at hp6
  rw [abs_pos hp5] at h1
  rw [abs_pos hp6] at h2
  have key := vc70 hp5 h1 hp6 h2
  rw [← e1, ← f1] at key
  exact key
theorem ok17z : r17.OK Tryz.prog := r17.ok (fn := Tryz.f17) (fun _ => cx [r42.ci] []) (fun _ => cx_ok (cs := [r42.ci]) ⟨PC.OK.ci ok42, trivial⟩ _) (by kernel_rfl) (by kernel_rfl) (by kernel_rfl) fun n hp => by
  refine (h17_eq n).mpr ?_
  exact ⟨hp, ⟨by decide, by decide⟩, rfl⟩
theorem ok73 : r73.OK Tryz.prog := r73.ok (fn := Tryz.f73) (fun _ => cx [r80.ci] []) (fun _ => cx_ok (cs := [r80.ci]) ⟨PC.OK.ci ok80, trivial⟩ _) (by kernel_rfl) (by kernel_rfl) (by kernel_rfl) fun p hp => by
  obtain ⟨⟨n1, m1⟩, n2, m2⟩ := p
  obtain ⟨hp1, hp2⟩ := hp
  obtain ⟨z2, f1, f2, h2, f3⟩ := mk_intz hp1
  have hp5 : 0 < vZ (n2, m2) := hp2
  rw [f3] at hp5
  have g2 : n2 = false := by rw [f1]; exact decide_eq_false (Int.not_lt.2 (Int.le_of_lt hp5))
  refine (h73_eq n1 m1 n2 m2).mpr ?_
  simp only [pp1, eq_self, and_true, true_and, and_self]
  exact ⟨fun h => absurd (h.symm.trans g2) (by simp), fun h => h⟩
theorem frz_parts {k : Nat} {p q : DN} (h : FrZ k (p, q)) : ∃ n d : Int, p = iZ n ∧ q = iZ d ∧ 0 ≤ n ∧ 0 < d ∧ n < 10000 ^ k ∧ d < 10000 ^ k := by
  obtain ⟨n, d, h1, h2⟩ := h
  unfold ratZ at h1
  injection h1 with e1 e2
  exact ⟨n, d, e1, e2, h2⟩
theorem frz_le {k l : Nat} (hl : k ≤ l) {p : DN × DN} (h : FrZ k p) : FrZ l p := by
  obtain ⟨n, d, h1, h2, h3, h4, h5⟩ := h
  exact ⟨n, d, h1, h2, h3, pow_le_pow' dw2 h4 hl, pow_le_pow' dw2 h5 hl⟩
theorem vc34 {p1 q1 p2 q2 : DN} (hp1 : FrZ 100 (p1, q1)) (hp2 : FrZ 100 (p2, q2)) : h34 p1.1 p1.2 q1.1 q1.2 p2.1 p2.2 q2.1 q2.2 := by
  obtain ⟨n, d, e1, e2, h1, h2, h3, h4⟩ := frz_parts hp1
  obtain ⟨k, m, f1, f2, i1, i2, i3, i4⟩ := frz_parts hp2
  refine (h34_eq _ _ _ _ _ _ _ _).mpr ?_
  simp only [pp1, eq_self, and_true, true_and, and_self, peta]
  rw [e1, e2, f1, f2]
  simp only [iZ_vZ]
  have o1 := okz_pos' h1 h3 (l := 500) (by decide)
  have o2 := okz_pos' (Int.le_of_lt h2) h4 (l := 500) (by decide)
  have o3 := okz_pos' i1 i3 (l := 500) (by decide)
  have o4 := okz_pos' (Int.le_of_lt i2) i4 (l := 500) (by decide)
  have c0 : 0 ≤ n * m := Int.mul_nonneg h1 (Int.le_of_lt i2)
  have c1 := mul_lt_pow dw2 h1 h3 (Int.le_of_lt i2) i4
  have d0 : 0 ≤ k * d := Int.mul_nonneg i1 (Int.le_of_lt h2)
  have d1 := mul_lt_pow dw2 i1 i3 (Int.le_of_lt h2) h4
  exact ⟨⟨o1, o4⟩, ⟨o3, o2⟩, ⟨okz_pos' c0 c1 (by decide), okz_pos' d0 d1 (by decide)⟩, ⟨o2, o4⟩, rfl⟩
theorem ok34 : r34.OK Tryz.prog := r34.ok (fn := Tryz.f34) (fun _ => cx [r40.ci, r72.ci] []) (fun _ => cx_ok (cs := [r40.ci, r72.ci]) ⟨PC.OK.ci ok40z, PC.OK.ci ok72, trivial⟩ _) (by kernel_rfl) (by kernel_rfl) (by kernel_rfl) fun p hp => by
  obtain ⟨⟨p1, q1⟩, p2, q2⟩ := p
  exact vc34 hp.1 hp.2
theorem vc33 {p q : DN} (hp : FrZ 400 (p, q)) : h33 p.1 p.2 q.1 q.2 := by
  obtain ⟨n, d, e1, e2, h1, h2, h3, h4⟩ := frz_parts hp
  refine (h33_eq _ _ _ _).mpr ?_
  simp only [pp1, eq_self, and_true, true_and, and_self, peta]
  rw [e1, e2]
  simp only [iZ_vZ]
  have g := gcd_le h1 h2
  have gp := gcdI_pos (x := n) h2
  have o1 := okz_pos' h1 h3 (l := 480) (by decide)
  have o2 := okz_pos' (Int.le_of_lt h2) h4 (l := 480) (by decide)
  have o3 := okz_pos' (Int.le_of_lt gp) (Int.lt_of_le_of_lt g h4) (l := 480) (by decide)
  exact ⟨⟨⟨o1, o2⟩, h1, Int.le_of_lt h2⟩, ⟨⟨o1, o3⟩, h1, gp⟩, ⟨⟨o2, o3⟩, Int.le_of_lt h2, gp⟩, rfl⟩
theorem ok33 : r33.OK Tryz.prog := r33.ok (fn := Tryz.f33) (fun _ => cx [r70.ci, r71.ci] []) (fun _ => cx_ok (cs := [r70.ci, r71.ci]) ⟨PC.OK.ci ok70, PC.OK.ci ok71, trivial⟩ _) (by kernel_rfl) (by kernel_rfl) (by kernel_rfl) fun p hp => by
  obtain ⟨p, q⟩ := p
  exact vc33 hp
theorem bigz (k : Nat) (hk : 2 ≤ k) (x : Int) (hx : x ≤ 1000000) : x < 10000 ^ k := by
  have : (10000 : Int) ^ 2 ≤ 10000 ^ k := pow_mono' dw0 hk
  have e : (10000 : Int) ^ 2 = 100000000 := by decide
  rw [e] at this
  exact Int.lt_of_lt_of_le (by omega) this
theorem vc35 {n d : Int} (hn : 0 ≤ n ∧ n ≤ 1000000) (hd : 1 ≤ d ∧ d ≤ 1000000) : h35 n d := by
  refine (h35_eq n d).mpr ?_
  simp only [pp1, eq_self, and_true, true_and, and_self, peta, iZ_vZ]
  have b1 := bigz 480 (by decide) d hd.2
  have b2 := bigz 400 (by decide) d hd.2
  have b3 := bigz 400 (by decide) n hn.2
  refine ⟨hn, ⟨by omega, hd.2⟩, ⟨okz_pos (by omega) b1, by omega⟩, n, d, rfl, hn.1, by omega, b3, b2⟩
theorem ok35 : r35.OK Tryz.prog := r35.ok (fn := Tryz.f35) (fun _ => cx [r42.ci, r73.ci, r33.ci] []) (fun _ => cx_ok (cs := [r42.ci, r73.ci, r33.ci]) ⟨PC.OK.ci ok42, PC.OK.ci ok73, PC.OK.ci ok33, trivial⟩ _) (by kernel_rfl) (by kernel_rfl) (by kernel_rfl) fun _ hp => vc35 hp.1 hp.2
end Go.SX.We.Nm

/- Chapter 08: the reference's text and sum of reciprocals, what is asked. -/
namespace Go.SX.We.Nm
open Go Go.Proofs
noncomputable section
@[reducible] def A68a (m : List Int) : Ann where
  τ := Nat
  pre := []
  preC := []
  keep := [1]
  slots k := [(3, .c (.str (padF (valF 10000 (m.drop (m.length - k))) (4 * k)))), (4, .c (.int .i64 ((m.length : Int) - 1 - k)))]
  ents _ := []
  ok k := k ≤ m.length
  m k := m.length - k
@[reducible] def A68b (m : List Int) : Ann where
  τ := Nat
  pre := []
  preC := []
  keep := [1]
  slots k := [(3, .c (.str (padF (valF 10000 m) (4 * m.length - k))))]
  ents _ := []
  ok k := (lim 10 (valF 10000 m)).length ≤ 4 * m.length - k ∧ k ≤ 4 * m.length
  m k := 4 * m.length - k
@[reducible] def r68 : PC := ⟨68, [aZ], [aS], fun p => OkZ 400 p ∧ 0 ≤ vZ p, fun p => textF (vZ p)⟩
def h68 (n : Bool) (m : List Int) : Prop := r68.VC (cx [] [(0, fun _ => A68a m), (1, fun _ => A68b m)]) Tryz.f68 (n, m)
@[reducible] def r32 : PC := ⟨32, [aQ], [aS, aB], FrZ 300, fun p => (numF (lowI (vZ p.1) (vZ p.2)), true)⟩
def h32 (n1 : Bool) (m1 : List Int) (n2 : Bool) (m2 : List Int) : Prop := r32.VC (cx [r33.ci, r69.ci, r68.ci] []) Tryz.f32 ((n1, m1), (n2, m2))
@[reducible] def r9 : PC := ⟨9, [aS, aQ], [aB], fun p => FrZ 300 p.2, fun p => decide (p.1 = numF (lowI (vZ p.2.1) (vZ p.2.2)))⟩
def h9 (s : ByteArray) (n1 : Bool) (m1 : List Int) (n2 : Bool) (m2 : List Int) : Prop := r9.VC (cx [r32.ci] []) Tryz.f9 (s, ((n1, m1), (n2, m2)))
@[reducible] def A10z (w : List Int) : Ann where
  τ := Nat
  pre := []
  preC := []
  keep := [0, 2, 3]
  slots k := [(4, .c (.int .i64 k))]
  ents k := [(1, .blk 34 [.bool 0 (iZ (recN w k).1).1, .ro (.int .i64) (iZ (recN w k).1).2, .bool 0 (iZ (recN w k).2).1, .ro (.int .i64) (iZ (recN w k).2).2])]
  ok k := k ≤ w.length
  m k := w.length - k
@[reducible] def r10 : PC := ⟨10, [aIs], [aQ], fun w => (∀ v ∈ w, 1 ≤ v ∧ v ≤ 100000) ∧ w.length ≤ 12, fun w => ratZ (recN w w.length)⟩
def h10 (w : List Int) : Prop := r10.VC (cx [r17.ci, r35.ci, r34.ci, r33.ci] [(0, fun _ => A10z w)]) Tryz.f10 w
end
end Go.SX.We.Nm

/- Printed by VC.lean: what the executor asks. -/
namespace Go.SX.We.Nm
open Go Go.Proofs IntKind List
theorem h68_eq (n : Bool) (m : List Int) : h68 n m = (
 ((m.length : Int) = 0 → (m.length : Int) = 0 ∧ ByteArray.mk #[(48 : UInt8)] = textF (vZ (n, m))) ∧
 (¬(m.length : Int) = 0 →
 ¬(m.length : Int) = 0 ∧
 Fits .i64 ((m.length : Int) - 1) ∧
 (∃ (x0 : Nat),
 x0 ≤ m.length ∧
 ((n = n ∧ m = m ∧ True) ∧ True) ∧
 ByteArray.mk (nilT UInt8).toArray = padF (valF 10000 (drop (m.length - x0) m)) ((4 : Nat) * x0) ∧
 (m.length : Int) - 1 = (m.length : Int) - 1 - (x0 : Int) ∧ True ∧ True) ∧
 ∀ (x : Nat),
 x ≤ m.length →
 (0 ≤ (m.length : Int) - 1 - (x : Int) →
 0 ≤ (m.length : Int) - 1 - (x : Int) ∧
 (0 ≤ (m.length : Int) - 1 - (x : Int) ∧ (m.length : Int) - 1 - (x : Int) < (m.length : Int)) ∧
 (0 ≤ m.getD ((m.length : Int) - 1 - (x : Int)).toNat 0 ∧ (0 : Int) < 1000) ∧
 Fits .i64 (m.getD ((m.length : Int) - 1 - (x : Int)).toNat 0 / 1000) ∧
 Fits .i64 (48 + m.getD ((m.length : Int) - 1 - (x : Int)).toNat 0 / 1000) ∧
 (0 ≤ m.getD ((m.length : Int) - 1 - (x : Int)).toNat 0 ∧ (0 : Int) < 100) ∧
 Fits .i64 (m.getD ((m.length : Int) - 1 - (x : Int)).toNat 0 / 100) ∧
 (0 ≤ m.getD ((m.length : Int) - 1 - (x : Int)).toNat 0 / 100 ∧ (0 : Int) < 10) ∧
 Fits .i64 (48 + m.getD ((m.length : Int) - 1 - (x : Int)).toNat 0 / 100 % 10) ∧
 (0 ≤ m.getD ((m.length : Int) - 1 - (x : Int)).toNat 0 ∧ (0 : Int) < 10) ∧
 Fits .i64 (m.getD ((m.length : Int) - 1 - (x : Int)).toNat 0 / 10) ∧
 (0 ≤ m.getD ((m.length : Int) - 1 - (x : Int)).toNat 0 / 10 ∧ (0 : Int) < 10) ∧
 Fits .i64 (48 + m.getD ((m.length : Int) - 1 - (x : Int)).toNat 0 / 10 % 10) ∧
 (0 ≤ m.getD ((m.length : Int) - 1 - (x : Int)).toNat 0 ∧ (0 : Int) < 10) ∧
 Fits .i64 (48 + m.getD ((m.length : Int) - 1 - (x : Int)).toNat 0 % 10) ∧
 Small
 ((padF (valF 10000 (drop (m.length - x) m)) ((4 : Nat) * x)).size +
 (strOf
 [u8.wrap (48 + m.getD ((m.length : Int) - 1 - (x : Int)).toNat 0 / 1000),
 u8.wrap
 (48 + m.getD ((m.length : Int) - 1 - (x : Int)).toNat 0 / 100 % 10),
 u8.wrap
 (48 + m.getD ((m.length : Int) - 1 - (x : Int)).toNat 0 / 10 % 10),
 u8.wrap
 (48 + m.getD ((m.length : Int) - 1 - (x : Int)).toNat 0 % 10)]).size) ∧
 Fits .i64 ((m.length : Int) - 1 - (x : Int) - 1) ∧
 ∃ (x' : Nat),
 x' ≤ m.length ∧
 m.length - x' < m.length - x ∧
 ((n = n ∧ m = m ∧ True) ∧ True) ∧
 padF (valF 10000 (drop (m.length - x) m)) ((4 : Nat) * x) ++
 strOf
 [u8.wrap
 (48 + m.getD ((m.length : Int) - 1 - (x : Int)).toNat 0 / 1000),
 u8.wrap
 (48 +
 m.getD ((m.length : Int) - 1 - (x : Int)).toNat 0 / 100 % 10),
 u8.wrap
 (48 +
 m.getD ((m.length : Int) - 1 - (x : Int)).toNat 0 / 10 % 10),
 u8.wrap
 (48 + m.getD ((m.length : Int) - 1 - (x : Int)).toNat 0 % 10)] =
 padF (valF 10000 (drop (m.length - x') m)) ((4 : Nat) * x') ∧
 (m.length : Int) - 1 - (x : Int) - 1 = (m.length : Int) - 1 - (x' : Int) ∧ True ∧ True) ∧
 (¬0 ≤ (m.length : Int) - 1 - (x : Int) →
 ¬0 ≤ (m.length : Int) - 1 - (x : Int) ∧
 (∃ (x0 : Nat),
 ((lim 10 (valF 10000 m)).length ≤ 4 * m.length - x0 ∧ x0 ≤ 4 * m.length) ∧
 ((n = n ∧ m = m ∧ True) ∧ True) ∧
 padF (valF 10000 (drop (m.length - x) m)) ((4 : Nat) * x) = padF (valF 10000 m) ((4 : Nat) * m.length - x0) ∧ True ∧ True) ∧
 ∀ (x : Nat),
 (lim 10 (valF 10000 m)).length ≤ 4 * m.length - x ∧ x ≤ 4 * m.length →
 ((0 : Int) ≤ 0 ∧ 0 < (↑(padF (valF 10000 m) ((4 : Nat) * m.length - x)).size : Int)) ∧
 (bt (padF (valF 10000 m) ((4 : Nat) * m.length - x)) (Int.toNat 0) = 48 →
 bt (padF (valF 10000 m) ((4 : Nat) * m.length - x)) (Int.toNat 0) = 48 ∧
 ((0 : Int) ≤ 1 ∧
 1 ≤ (↑(padF (valF 10000 m) ((4 : Nat) * m.length - x)).size : Int) ∧
 (↑(padF (valF 10000 m) ((4 : Nat) * m.length - x)).size : Int) ≤
 (↑(padF (valF 10000 m) ((4 : Nat) * m.length - x)).size : Int)) ∧
 true = true ∧
 ∃ (x' : Nat),
 ((lim 10 (valF 10000 m)).length ≤ 4 * m.length - x' ∧ x' ≤ 4 * m.length) ∧
 (4 : Nat) * m.length - x' < 4 * m.length - x ∧
 ((n = n ∧ m = m ∧ True) ∧ True) ∧
 (padF (valF 10000 m) ((4 : Nat) * m.length - x)).extract (Int.toNat 1)
 (↑(padF (valF 10000 m) ((4 : Nat) * m.length - x)).size : Int).toNat =
 padF (valF 10000 m) ((4 : Nat) * m.length - x') ∧
 True ∧ True) ∧
 (¬bt (padF (valF 10000 m) ((4 : Nat) * m.length - x)) (Int.toNat 0) = 48 →
 ¬bt (padF (valF 10000 m) ((4 : Nat) * m.length - x)) (Int.toNat 0) = 48 ∧
 padF (valF 10000 m) ((4 : Nat) * m.length - x) = textF (vZ (n, m)))))) := by
 kernel_rfl
theorem h32_eq (n1 : Bool) (m1 : List Int) (n2 : Bool) (m2 : List Int) : h32 n1 m1 n2 m2 = (
 (∃ (n : Int), ∃ (d : Int), ((n1, m1), n2, m2) = ratZ (n, d) ∧ 0 ≤ n ∧ 0 < d ∧ n < 10000 ^ 400 ∧ d < 10000 ^ 400) ∧
 (∃ (z : Int),
 ((ratZ (lowI (vZ (n1, m1)) (vZ (n2, m2)))).fst.fst, (ratZ (lowI (vZ (n1, m1)) (vZ (n2, m2)))).fst.snd) = intB 10000 z ∧ absI z < 10000 ^ 500) ∧
 ((∃ (z : Int),
 ((iZ (absI (vZ ((ratZ (lowI (vZ (n1, m1)) (vZ (n2, m2)))).fst.fst, (ratZ (lowI (vZ (n1, m1)) (vZ (n2, m2)))).fst.snd)))).fst,
 (iZ (absI (vZ ((ratZ (lowI (vZ (n1, m1)) (vZ (n2, m2)))).fst.fst, (ratZ (lowI (vZ (n1, m1)) (vZ (n2, m2)))).fst.snd)))).snd) =
 intB 10000 z ∧
 absI z < 10000 ^ 400) ∧
 0 ≤
 vZ
 ((iZ (absI (vZ ((ratZ (lowI (vZ (n1, m1)) (vZ (n2, m2)))).fst.fst, (ratZ (lowI (vZ (n1, m1)) (vZ (n2, m2)))).fst.snd)))).fst,
 (iZ (absI (vZ ((ratZ (lowI (vZ (n1, m1)) (vZ (n2, m2)))).fst.fst, (ratZ (lowI (vZ (n1, m1)) (vZ (n2, m2)))).fst.snd)))).snd)) ∧
 ((∃ (z : Int),
 ((ratZ (lowI (vZ (n1, m1)) (vZ (n2, m2)))).snd.fst, (ratZ (lowI (vZ (n1, m1)) (vZ (n2, m2)))).snd.snd) = intB 10000 z ∧ absI z < 10000 ^ 400) ∧
 0 ≤ vZ ((ratZ (lowI (vZ (n1, m1)) (vZ (n2, m2)))).snd.fst, (ratZ (lowI (vZ (n1, m1)) (vZ (n2, m2)))).snd.snd)) ∧
 (4000 <
 (↑(textF
 (vZ
 ((iZ (absI (vZ ((ratZ (lowI (vZ (n1, m1)) (vZ (n2, m2)))).fst.fst, (ratZ (lowI (vZ (n1, m1)) (vZ (n2, m2)))).fst.snd)))).fst,
 (iZ (absI (vZ ((ratZ (lowI (vZ (n1, m1)) (vZ (n2, m2)))).fst.fst, (ratZ (lowI (vZ (n1, m1)) (vZ (n2, m2)))).fst.snd)))).snd))).size :
 Int) →
 4000 <
 (↑(textF
 (vZ
 ((iZ (absI (vZ ((ratZ (lowI (vZ (n1, m1)) (vZ (n2, m2)))).fst.fst, (ratZ (lowI (vZ (n1, m1)) (vZ (n2, m2)))).fst.snd)))).fst,
 (iZ (absI (vZ ((ratZ (lowI (vZ (n1, m1)) (vZ (n2, m2)))).fst.fst, (ratZ (lowI (vZ (n1, m1)) (vZ (n2, m2)))).fst.snd)))).snd))).size :
 Int) ∧
 4000 <
 (↑(textF
 (vZ
 ((iZ (absI (vZ ((ratZ (lowI (vZ (n1, m1)) (vZ (n2, m2)))).fst.fst, (ratZ (lowI (vZ (n1, m1)) (vZ (n2, m2)))).fst.snd)))).fst,
 (iZ (absI (vZ ((ratZ (lowI (vZ (n1, m1)) (vZ (n2, m2)))).fst.fst, (ratZ (lowI (vZ (n1, m1)) (vZ (n2, m2)))).fst.snd)))).snd))).size :
 Int) ∧
 (ByteArray.mk (nilT UInt8).toArray, false) = (numF (lowI (vZ (n1, m1)) (vZ (n2, m2))), true)) ∧
 (¬4000 <
 (↑(textF
 (vZ
 ((iZ (absI (vZ ((ratZ (lowI (vZ (n1, m1)) (vZ (n2, m2)))).fst.fst, (ratZ (lowI (vZ (n1, m1)) (vZ (n2, m2)))).fst.snd)))).fst,
 (iZ (absI (vZ ((ratZ (lowI (vZ (n1, m1)) (vZ (n2, m2)))).fst.fst, (ratZ (lowI (vZ (n1, m1)) (vZ (n2, m2)))).fst.snd)))).snd))).size :
 Int) →
 ¬4000 <
 (↑(textF
 (vZ
 ((iZ (absI (vZ ((ratZ (lowI (vZ (n1, m1)) (vZ (n2, m2)))).fst.fst, (ratZ (lowI (vZ (n1, m1)) (vZ (n2, m2)))).fst.snd)))).fst,
 (iZ (absI (vZ ((ratZ (lowI (vZ (n1, m1)) (vZ (n2, m2)))).fst.fst, (ratZ (lowI (vZ (n1, m1)) (vZ (n2, m2)))).fst.snd)))).snd))).size :
 Int) ∧
 ¬4000 <
 (↑(textF
 (vZ
 ((iZ (absI (vZ ((ratZ (lowI (vZ (n1, m1)) (vZ (n2, m2)))).fst.fst, (ratZ (lowI (vZ (n1, m1)) (vZ (n2, m2)))).fst.snd)))).fst,
 (iZ (absI (vZ ((ratZ (lowI (vZ (n1, m1)) (vZ (n2, m2)))).fst.fst, (ratZ (lowI (vZ (n1, m1)) (vZ (n2, m2)))).fst.snd)))).snd))).size :
 Int) ∧
 (4000 < (↑(textF (vZ ((ratZ (lowI (vZ (n1, m1)) (vZ (n2, m2)))).snd.fst, (ratZ (lowI (vZ (n1, m1)) (vZ (n2, m2)))).snd.snd))).size : Int) →
 4000 < (↑(textF (vZ ((ratZ (lowI (vZ (n1, m1)) (vZ (n2, m2)))).snd.fst, (ratZ (lowI (vZ (n1, m1)) (vZ (n2, m2)))).snd.snd))).size : Int) ∧
 4000 < (↑(textF (vZ ((ratZ (lowI (vZ (n1, m1)) (vZ (n2, m2)))).snd.fst, (ratZ (lowI (vZ (n1, m1)) (vZ (n2, m2)))).snd.snd))).size : Int) ∧
 (ByteArray.mk (nilT UInt8).toArray, false) = (numF (lowI (vZ (n1, m1)) (vZ (n2, m2))), true)) ∧
 (¬4000 < (↑(textF (vZ ((ratZ (lowI (vZ (n1, m1)) (vZ (n2, m2)))).snd.fst, (ratZ (lowI (vZ (n1, m1)) (vZ (n2, m2)))).snd.snd))).size : Int) →
 ¬4000 < (↑(textF (vZ ((ratZ (lowI (vZ (n1, m1)) (vZ (n2, m2)))).snd.fst, (ratZ (lowI (vZ (n1, m1)) (vZ (n2, m2)))).snd.snd))).size : Int) ∧
 ¬4000 < (↑(textF (vZ ((ratZ (lowI (vZ (n1, m1)) (vZ (n2, m2)))).snd.fst, (ratZ (lowI (vZ (n1, m1)) (vZ (n2, m2)))).snd.snd))).size : Int) ∧
 ((ratZ (lowI (vZ (n1, m1)) (vZ (n2, m2)))).fst.fst = true →
 (ratZ (lowI (vZ (n1, m1)) (vZ (n2, m2)))).fst.fst = true ∧
 Small
 ((ByteArray.mk #[(45 : UInt8)]).size +
 (textF
 (vZ
 ((iZ (absI (vZ ((ratZ (lowI (vZ (n1, m1)) (vZ (n2, m2)))).fst.fst, (ratZ (lowI (vZ (n1, m1)) (vZ (n2, m2)))).fst.snd)))).fst,
 (iZ (absI (vZ ((ratZ (lowI (vZ (n1, m1)) (vZ (n2, m2)))).fst.fst, (ratZ (lowI (vZ (n1, m1)) (vZ (n2, m2)))).fst.snd)))).snd))).size) ∧
 (¬textF (vZ ((ratZ (lowI (vZ (n1, m1)) (vZ (n2, m2)))).snd.fst, (ratZ (lowI (vZ (n1, m1)) (vZ (n2, m2)))).snd.snd)) = ByteArray.mk #[(49 : UInt8)] →
 ¬textF (vZ ((ratZ (lowI (vZ (n1, m1)) (vZ (n2, m2)))).snd.fst, (ratZ (lowI (vZ (n1, m1)) (vZ (n2, m2)))).snd.snd)) =
 ByteArray.mk #[(49 : UInt8)] ∧
 Small
 ((ByteArray.mk #[(47 : UInt8)]).size +
 (textF (vZ ((ratZ (lowI (vZ (n1, m1)) (vZ (n2, m2)))).snd.fst, (ratZ (lowI (vZ (n1, m1)) (vZ (n2, m2)))).snd.snd))).size) ∧
 Small
 ((ByteArray.mk #[(45 : UInt8)] ++
 textF
 (vZ
 ((iZ (absI (vZ ((ratZ (lowI (vZ (n1, m1)) (vZ (n2, m2)))).fst.fst, (ratZ (lowI (vZ (n1, m1)) (vZ (n2, m2)))).fst.snd)))).fst,
 (iZ
 (absI
 (vZ
 ((ratZ (lowI (vZ (n1, m1)) (vZ (n2, m2)))).fst.fst,
 (ratZ (lowI (vZ (n1, m1)) (vZ (n2, m2)))).fst.snd)))).snd))).size +
 (ByteArray.mk #[(47 : UInt8)] ++
 textF (vZ ((ratZ (lowI (vZ (n1, m1)) (vZ (n2, m2)))).snd.fst, (ratZ (lowI (vZ (n1, m1)) (vZ (n2, m2)))).snd.snd))).size) ∧
 (ByteArray.mk #[(45 : UInt8)] ++
 textF
 (vZ
 ((iZ (absI (vZ ((ratZ (lowI (vZ (n1, m1)) (vZ (n2, m2)))).fst.fst, (ratZ (lowI (vZ (n1, m1)) (vZ (n2, m2)))).fst.snd)))).fst,
 (iZ
 (absI
 (vZ ((ratZ (lowI (vZ (n1, m1)) (vZ (n2, m2)))).fst.fst, (ratZ (lowI (vZ (n1, m1)) (vZ (n2, m2)))).fst.snd)))).snd)) ++
 (ByteArray.mk #[(47 : UInt8)] ++
 textF (vZ ((ratZ (lowI (vZ (n1, m1)) (vZ (n2, m2)))).snd.fst, (ratZ (lowI (vZ (n1, m1)) (vZ (n2, m2)))).snd.snd))),
 true) =
 (numF (lowI (vZ (n1, m1)) (vZ (n2, m2))), true)) ∧
 (¬¬textF (vZ ((ratZ (lowI (vZ (n1, m1)) (vZ (n2, m2)))).snd.fst, (ratZ (lowI (vZ (n1, m1)) (vZ (n2, m2)))).snd.snd)) =
 ByteArray.mk #[(49 : UInt8)] →
 ¬¬textF (vZ ((ratZ (lowI (vZ (n1, m1)) (vZ (n2, m2)))).snd.fst, (ratZ (lowI (vZ (n1, m1)) (vZ (n2, m2)))).snd.snd)) =
 ByteArray.mk #[(49 : UInt8)] ∧
 (ByteArray.mk #[(45 : UInt8)] ++
 textF
 (vZ
 ((iZ (absI (vZ ((ratZ (lowI (vZ (n1, m1)) (vZ (n2, m2)))).fst.fst, (ratZ (lowI (vZ (n1, m1)) (vZ (n2, m2)))).fst.snd)))).fst,
 (iZ (absI (vZ ((ratZ (lowI (vZ (n1, m1)) (vZ (n2, m2)))).fst.fst, (ratZ (lowI (vZ (n1, m1)) (vZ (n2, m2)))).fst.snd)))).snd)),
 true) =
 (numF (lowI (vZ (n1, m1)) (vZ (n2, m2))), true))) ∧
 ((ratZ (lowI (vZ (n1, m1)) (vZ (n2, m2)))).fst.fst = false →
 (ratZ (lowI (vZ (n1, m1)) (vZ (n2, m2)))).fst.fst = false ∧
 (¬textF (vZ ((ratZ (lowI (vZ (n1, m1)) (vZ (n2, m2)))).snd.fst, (ratZ (lowI (vZ (n1, m1)) (vZ (n2, m2)))).snd.snd)) = ByteArray.mk #[(49 : UInt8)] →
 ¬textF (vZ ((ratZ (lowI (vZ (n1, m1)) (vZ (n2, m2)))).snd.fst, (ratZ (lowI (vZ (n1, m1)) (vZ (n2, m2)))).snd.snd)) =
 ByteArray.mk #[(49 : UInt8)] ∧
 Small
 ((ByteArray.mk #[(47 : UInt8)]).size +
 (textF (vZ ((ratZ (lowI (vZ (n1, m1)) (vZ (n2, m2)))).snd.fst, (ratZ (lowI (vZ (n1, m1)) (vZ (n2, m2)))).snd.snd))).size) ∧
 Small
 ((textF
 (vZ
 ((iZ (absI (vZ ((ratZ (lowI (vZ (n1, m1)) (vZ (n2, m2)))).fst.fst, (ratZ (lowI (vZ (n1, m1)) (vZ (n2, m2)))).fst.snd)))).fst,
 (iZ
 (absI
 (vZ
 ((ratZ (lowI (vZ (n1, m1)) (vZ (n2, m2)))).fst.fst, (ratZ (lowI (vZ (n1, m1)) (vZ (n2, m2)))).fst.snd)))).snd))).size +
 (ByteArray.mk #[(47 : UInt8)] ++
 textF (vZ ((ratZ (lowI (vZ (n1, m1)) (vZ (n2, m2)))).snd.fst, (ratZ (lowI (vZ (n1, m1)) (vZ (n2, m2)))).snd.snd))).size) ∧
 (textF
 (vZ
 ((iZ (absI (vZ ((ratZ (lowI (vZ (n1, m1)) (vZ (n2, m2)))).fst.fst, (ratZ (lowI (vZ (n1, m1)) (vZ (n2, m2)))).fst.snd)))).fst,
 (iZ (absI (vZ ((ratZ (lowI (vZ (n1, m1)) (vZ (n2, m2)))).fst.fst, (ratZ (lowI (vZ (n1, m1)) (vZ (n2, m2)))).fst.snd)))).snd)) ++
 (ByteArray.mk #[(47 : UInt8)] ++
 textF (vZ ((ratZ (lowI (vZ (n1, m1)) (vZ (n2, m2)))).snd.fst, (ratZ (lowI (vZ (n1, m1)) (vZ (n2, m2)))).snd.snd))),
 true) =
 (numF (lowI (vZ (n1, m1)) (vZ (n2, m2))), true)) ∧
 (¬¬textF (vZ ((ratZ (lowI (vZ (n1, m1)) (vZ (n2, m2)))).snd.fst, (ratZ (lowI (vZ (n1, m1)) (vZ (n2, m2)))).snd.snd)) =
 ByteArray.mk #[(49 : UInt8)] →
 ¬¬textF (vZ ((ratZ (lowI (vZ (n1, m1)) (vZ (n2, m2)))).snd.fst, (ratZ (lowI (vZ (n1, m1)) (vZ (n2, m2)))).snd.snd)) =
 ByteArray.mk #[(49 : UInt8)] ∧
 (textF
 (vZ
 ((iZ (absI (vZ ((ratZ (lowI (vZ (n1, m1)) (vZ (n2, m2)))).fst.fst, (ratZ (lowI (vZ (n1, m1)) (vZ (n2, m2)))).fst.snd)))).fst,
 (iZ (absI (vZ ((ratZ (lowI (vZ (n1, m1)) (vZ (n2, m2)))).fst.fst, (ratZ (lowI (vZ (n1, m1)) (vZ (n2, m2)))).fst.snd)))).snd)),
 true) =
 (numF (lowI (vZ (n1, m1)) (vZ (n2, m2))), true)))))) := by
 kernel_rfl
theorem h9_eq (s : ByteArray) (n1 : Bool) (m1 : List Int) (n2 : Bool) (m2 : List Int) : h9 s n1 m1 n2 m2 = (
 (∃ (n : Int), ∃ (d : Int), ((n1, m1), n2, m2) = ratZ (n, d) ∧ 0 ≤ n ∧ 0 < d ∧ n < 10000 ^ 300 ∧ d < 10000 ^ 300) ∧
 (true = true →
 true = true ∧ true = true ∧ true = true ∧ true = true ∧ decide (s = numF (lowI (vZ (n1, m1)) (vZ (n2, m2)))) = decide (s = numF (lowI (vZ (n1, m1)) (vZ (n2, m2))))) ∧
 (true = false → true = false ∧ true = false ∧ true = false ∧ true = false ∧ false = decide (s = numF (lowI (vZ (n1, m1)) (vZ (n2, m2)))))) := by
 kernel_rfl
theorem h10_eq (w : List Int) : h10 w = (
 ((0 : Int) ≤ 0 ∧ (0 : Int) ≤ 1000000) ∧
 (∃ (x0 : Nat),
 x0 ≤ w.length ∧
 ((True ∧
 Value.slice none (0 : Nat) (0 : Nat) = Value.slice none (0 : Nat) (0 : Nat) ∧
 True ∧ Value.slice none (0 : Nat) (0 : Nat) = Value.slice none (0 : Nat) (0 : Nat) ∧ True) ∧
 ((ratZ (0, (1 : Int))).fst.fst = (iZ (recN w x0).fst).fst ∧
 (ratZ (0, (1 : Int))).fst.snd = (iZ (recN w x0).fst).snd ∧
 (ratZ (0, (1 : Int))).snd.fst = (iZ (recN w x0).snd).fst ∧ (ratZ (0, (1 : Int))).snd.snd = (iZ (recN w x0).snd).snd ∧ True) ∧
 True) ∧
 0 = (x0 : Int) ∧ True ∧ True ∧ w = w ∧ True) ∧
 ∀ (x : Nat),
 x ≤ w.length →
 ((x : Int) < (w.length : Int) →
 (x : Int) < (w.length : Int) ∧
 (0 ≤ (x : Int) ∧ (x : Int) < (w.length : Int)) ∧
 (((0 : Int) ≤ 1 ∧ (1 : Int) ≤ 1000000) ∧ 1 ≤ w.getD (x : Int).toNat 0 ∧ w.getD (x : Int).toNat (0 : Int) ≤ 1000000) ∧
 ((∃ (n : Int),
 ∃ (d : Int),
 (((iZ (recN w x).fst).fst, (iZ (recN w x).fst).snd), (iZ (recN w x).snd).fst, (iZ (recN w x).snd).snd) = ratZ (n, d) ∧
 0 ≤ n ∧ 0 < d ∧ n < 10000 ^ 100 ∧ d < 10000 ^ 100) ∧
 ∃ (n : Int),
 ∃ (d : Int),
 (((ratZ (lowI 1 (w.getD (x : Int).toNat 0))).fst.fst, (ratZ (lowI 1 (w.getD (x : Int).toNat 0))).fst.snd),
 (ratZ (lowI 1 (w.getD (x : Int).toNat 0))).snd.fst, (ratZ (lowI 1 (w.getD (x : Int).toNat 0))).snd.snd) =
 ratZ (n, d) ∧
 0 ≤ n ∧ 0 < d ∧ n < 10000 ^ 100 ∧ d < 10000 ^ 100) ∧
 (∃ (n : Int),
 ∃ (d : Int),
 (((ratZ
 (vZ ((iZ (recN w x).fst).fst, (iZ (recN w x).fst).snd) *
 vZ
 ((ratZ (lowI 1 (w.getD (x : Int).toNat 0))).snd.fst,
 (ratZ (lowI 1 (w.getD (x : Int).toNat 0))).snd.snd) +
 vZ
 ((ratZ (lowI 1 (w.getD (x : Int).toNat 0))).fst.fst,
 (ratZ (lowI 1 (w.getD (x : Int).toNat 0))).fst.snd) *
 vZ ((iZ (recN w x).snd).fst, (iZ (recN w x).snd).snd),
 vZ ((iZ (recN w x).snd).fst, (iZ (recN w x).snd).snd) *
 vZ
 ((ratZ (lowI 1 (w.getD (x : Int).toNat 0))).snd.fst,
 (ratZ (lowI 1 (w.getD (x : Int).toNat 0))).snd.snd))).fst.fst,
 (ratZ
 (vZ ((iZ (recN w x).fst).fst, (iZ (recN w x).fst).snd) *
 vZ
 ((ratZ (lowI 1 (w.getD (x : Int).toNat 0))).snd.fst,
 (ratZ (lowI 1 (w.getD (x : Int).toNat 0))).snd.snd) +
 vZ
 ((ratZ (lowI 1 (w.getD (x : Int).toNat 0))).fst.fst,
 (ratZ (lowI 1 (w.getD (x : Int).toNat 0))).fst.snd) *
 vZ ((iZ (recN w x).snd).fst, (iZ (recN w x).snd).snd),
 vZ ((iZ (recN w x).snd).fst, (iZ (recN w x).snd).snd) *
 vZ
 ((ratZ (lowI 1 (w.getD (x : Int).toNat 0))).snd.fst,
 (ratZ (lowI 1 (w.getD (x : Int).toNat 0))).snd.snd))).fst.snd),
 (ratZ
 (vZ ((iZ (recN w x).fst).fst, (iZ (recN w x).fst).snd) *
 vZ
 ((ratZ (lowI 1 (w.getD (x : Int).toNat 0))).snd.fst,
 (ratZ (lowI 1 (w.getD (x : Int).toNat 0))).snd.snd) +
 vZ
 ((ratZ (lowI 1 (w.getD (x : Int).toNat 0))).fst.fst,
 (ratZ (lowI 1 (w.getD (x : Int).toNat 0))).fst.snd) *
 vZ ((iZ (recN w x).snd).fst, (iZ (recN w x).snd).snd),
 vZ ((iZ (recN w x).snd).fst, (iZ (recN w x).snd).snd) *
 vZ
 ((ratZ (lowI 1 (w.getD (x : Int).toNat 0))).snd.fst,
 (ratZ (lowI 1 (w.getD (x : Int).toNat 0))).snd.snd))).snd.fst,
 (ratZ
 (vZ ((iZ (recN w x).fst).fst, (iZ (recN w x).fst).snd) *
 vZ
 ((ratZ (lowI 1 (w.getD (x : Int).toNat 0))).snd.fst,
 (ratZ (lowI 1 (w.getD (x : Int).toNat 0))).snd.snd) +
 vZ
 ((ratZ (lowI 1 (w.getD (x : Int).toNat 0))).fst.fst,
 (ratZ (lowI 1 (w.getD (x : Int).toNat 0))).fst.snd) *
 vZ ((iZ (recN w x).snd).fst, (iZ (recN w x).snd).snd),
 vZ ((iZ (recN w x).snd).fst, (iZ (recN w x).snd).snd) *
 vZ
 ((ratZ (lowI 1 (w.getD (x : Int).toNat 0))).snd.fst,
 (ratZ (lowI 1 (w.getD (x : Int).toNat 0))).snd.snd))).snd.snd) =
 ratZ (n, d) ∧
 0 ≤ n ∧ 0 < d ∧ n < 10000 ^ 400 ∧ d < 10000 ^ 400) ∧
 Fits .i64 ((x : Int) + 1) ∧
 ∃ (x' : Nat),
 x' ≤ w.length ∧
 w.length - x' < w.length - x ∧
 ((True ∧
 Value.slice none (0 : Nat) (0 : Nat) = Value.slice none (0 : Nat) (0 : Nat) ∧
 True ∧ Value.slice none (0 : Nat) (0 : Nat) = Value.slice none (0 : Nat) (0 : Nat) ∧ True) ∧
 ((ratZ
 (lowI
 (vZ
 ((ratZ
 (vZ ((iZ (recN w x).fst).fst, (iZ (recN w x).fst).snd) *
 vZ
 ((ratZ (lowI 1 (w.getD (x : Int).toNat 0))).snd.fst,
 (ratZ (lowI 1 (w.getD (x : Int).toNat 0))).snd.snd) +
 vZ
 ((ratZ (lowI 1 (w.getD (x : Int).toNat 0))).fst.fst,
 (ratZ (lowI 1 (w.getD (x : Int).toNat 0))).fst.snd) *
 vZ ((iZ (recN w x).snd).fst, (iZ (recN w x).snd).snd),
 vZ ((iZ (recN w x).snd).fst, (iZ (recN w x).snd).snd) *
 vZ
 ((ratZ (lowI 1 (w.getD (x : Int).toNat 0))).snd.fst,
 (ratZ (lowI 1 (w.getD (x : Int).toNat 0))).snd.snd))).fst.fst,
 (ratZ
 (vZ ((iZ (recN w x).fst).fst, (iZ (recN w x).fst).snd) *
 vZ
 ((ratZ (lowI 1 (w.getD (x : Int).toNat 0))).snd.fst,
 (ratZ (lowI 1 (w.getD (x : Int).toNat 0))).snd.snd) +
 vZ
 ((ratZ (lowI 1 (w.getD (x : Int).toNat 0))).fst.fst,
 (ratZ (lowI 1 (w.getD (x : Int).toNat 0))).fst.snd) *
 vZ ((iZ (recN w x).snd).fst, (iZ (recN w x).snd).snd),
 vZ ((iZ (recN w x).snd).fst, (iZ (recN w x).snd).snd) *
 vZ
 ((ratZ (lowI 1 (w.getD (x : Int).toNat 0))).snd.fst,
 (ratZ (lowI 1 (w.getD (x : Int).toNat 0))).snd.snd))).fst.snd))
 (vZ
 ((ratZ
 (vZ ((iZ (recN w x).fst).fst, (iZ (recN w x).fst).snd) *
 vZ
 ((ratZ (lowI 1 (w.getD (x : Int).toNat 0))).snd.fst,
 (ratZ (lowI 1 (w.getD (x : Int).toNat 0))).snd.snd) +
 vZ
 ((ratZ (lowI 1 (w.getD (x : Int).toNat 0))).fst.fst,
 (ratZ (lowI 1 (w.getD (x : Int).toNat 0))).fst.snd) *
 vZ ((iZ (recN w x).snd).fst, (iZ (recN w x).snd).snd),
 vZ ((iZ (recN w x).snd).fst, (iZ (recN w x).snd).snd) *
 vZ
 ((ratZ (lowI 1 (w.getD (x : Int).toNat 0))).snd.fst,
 (ratZ (lowI 1 (w.getD (x : Int).toNat 0))).snd.snd))).snd.fst,
 (ratZ
 (vZ ((iZ (recN w x).fst).fst, (iZ (recN w x).fst).snd) *
 vZ
 ((ratZ (lowI 1 (w.getD (x : Int).toNat 0))).snd.fst,
 (ratZ (lowI 1 (w.getD (x : Int).toNat 0))).snd.snd) +
 vZ
 ((ratZ (lowI 1 (w.getD (x : Int).toNat 0))).fst.fst,
 (ratZ (lowI 1 (w.getD (x : Int).toNat 0))).fst.snd) *
 vZ ((iZ (recN w x).snd).fst, (iZ (recN w x).snd).snd),
 vZ ((iZ (recN w x).snd).fst, (iZ (recN w x).snd).snd) *
 vZ
 ((ratZ (lowI 1 (w.getD (x : Int).toNat 0))).snd.fst,
 (ratZ (lowI 1 (w.getD (x : Int).toNat 0))).snd.snd))).snd.snd)))).fst.fst =
 (iZ (recN w x').fst).fst ∧
 (ratZ
 (lowI
 (vZ
 ((ratZ
 (vZ ((iZ (recN w x).fst).fst, (iZ (recN w x).fst).snd) *
 vZ
 ((ratZ (lowI 1 (w.getD (x : Int).toNat 0))).snd.fst,
 (ratZ (lowI 1 (w.getD (x : Int).toNat 0))).snd.snd) +
 vZ
 ((ratZ (lowI 1 (w.getD (x : Int).toNat 0))).fst.fst,
 (ratZ (lowI 1 (w.getD (x : Int).toNat 0))).fst.snd) *
 vZ ((iZ (recN w x).snd).fst, (iZ (recN w x).snd).snd),
 vZ ((iZ (recN w x).snd).fst, (iZ (recN w x).snd).snd) *
 vZ
 ((ratZ (lowI 1 (w.getD (x : Int).toNat 0))).snd.fst,
 (ratZ (lowI 1 (w.getD (x : Int).toNat 0))).snd.snd))).fst.fst,
 (ratZ
 (vZ ((iZ (recN w x).fst).fst, (iZ (recN w x).fst).snd) *
 vZ
 ((ratZ (lowI 1 (w.getD (x : Int).toNat 0))).snd.fst,
 (ratZ (lowI 1 (w.getD (x : Int).toNat 0))).snd.snd) +
 vZ
 ((ratZ (lowI 1 (w.getD (x : Int).toNat 0))).fst.fst,
 (ratZ (lowI 1 (w.getD (x : Int).toNat 0))).fst.snd) *
 vZ ((iZ (recN w x).snd).fst, (iZ (recN w x).snd).snd),
 vZ ((iZ (recN w x).snd).fst, (iZ (recN w x).snd).snd) *
 vZ
 ((ratZ (lowI 1 (w.getD (x : Int).toNat 0))).snd.fst,
 (ratZ (lowI 1 (w.getD (x : Int).toNat 0))).snd.snd))).fst.snd))
 (vZ
 ((ratZ
 (vZ ((iZ (recN w x).fst).fst, (iZ (recN w x).fst).snd) *
 vZ
 ((ratZ (lowI 1 (w.getD (x : Int).toNat 0))).snd.fst,
 (ratZ (lowI 1 (w.getD (x : Int).toNat 0))).snd.snd) +
 vZ
 ((ratZ (lowI 1 (w.getD (x : Int).toNat 0))).fst.fst,
 (ratZ (lowI 1 (w.getD (x : Int).toNat 0))).fst.snd) *
 vZ ((iZ (recN w x).snd).fst, (iZ (recN w x).snd).snd),
 vZ ((iZ (recN w x).snd).fst, (iZ (recN w x).snd).snd) *
 vZ
 ((ratZ (lowI 1 (w.getD (x : Int).toNat 0))).snd.fst,
 (ratZ (lowI 1 (w.getD (x : Int).toNat 0))).snd.snd))).snd.fst,
 (ratZ
 (vZ ((iZ (recN w x).fst).fst, (iZ (recN w x).fst).snd) *
 vZ
 ((ratZ (lowI 1 (w.getD (x : Int).toNat 0))).snd.fst,
 (ratZ (lowI 1 (w.getD (x : Int).toNat 0))).snd.snd) +
 vZ
 ((ratZ (lowI 1 (w.getD (x : Int).toNat 0))).fst.fst,
 (ratZ (lowI 1 (w.getD (x : Int).toNat 0))).fst.snd) *
 vZ ((iZ (recN w x).snd).fst, (iZ (recN w x).snd).snd),
 vZ ((iZ (recN w x).snd).fst, (iZ (recN w x).snd).snd) *
 vZ
 ((ratZ (lowI 1 (w.getD (x : Int).toNat 0))).snd.fst,
 (ratZ (lowI 1 (w.getD (x : Int).toNat 0))).snd.snd))).snd.snd)))).fst.snd =
 (iZ (recN w x').fst).snd ∧
 (ratZ
 (lowI
 (vZ
 ((ratZ
 (vZ ((iZ (recN w x).fst).fst, (iZ (recN w x).fst).snd) *
 vZ
 ((ratZ (lowI 1 (w.getD (x : Int).toNat 0))).snd.fst,
 (ratZ (lowI 1 (w.getD (x : Int).toNat 0))).snd.snd) +
 vZ
 ((ratZ (lowI 1 (w.getD (x : Int).toNat 0))).fst.fst,
 (ratZ (lowI 1 (w.getD (x : Int).toNat 0))).fst.snd) *
 vZ ((iZ (recN w x).snd).fst, (iZ (recN w x).snd).snd),
 vZ ((iZ (recN w x).snd).fst, (iZ (recN w x).snd).snd) *
 vZ
 ((ratZ (lowI 1 (w.getD (x : Int).toNat 0))).snd.fst,
 (ratZ (lowI 1 (w.getD (x : Int).toNat 0))).snd.snd))).fst.fst,
 (ratZ
 (vZ ((iZ (recN w x).fst).fst, (iZ (recN w x).fst).snd) *
 vZ
 ((ratZ (lowI 1 (w.getD (x : Int).toNat 0))).snd.fst,
 (ratZ (lowI 1 (w.getD (x : Int).toNat 0))).snd.snd) +
 vZ
 ((ratZ (lowI 1 (w.getD (x : Int).toNat 0))).fst.fst,
 (ratZ (lowI 1 (w.getD (x : Int).toNat 0))).fst.snd) *
 vZ ((iZ (recN w x).snd).fst, (iZ (recN w x).snd).snd),
 vZ ((iZ (recN w x).snd).fst, (iZ (recN w x).snd).snd) *
 vZ
 ((ratZ (lowI 1 (w.getD (x : Int).toNat 0))).snd.fst,
 (ratZ (lowI 1 (w.getD (x : Int).toNat 0))).snd.snd))).fst.snd))
 (vZ
 ((ratZ
 (vZ ((iZ (recN w x).fst).fst, (iZ (recN w x).fst).snd) *
 vZ
 ((ratZ (lowI 1 (w.getD (x : Int).toNat 0))).snd.fst,
 (ratZ (lowI 1 (w.getD (x : Int).toNat 0))).snd.snd) +
 vZ
 ((ratZ (lowI 1 (w.getD (x : Int).toNat 0))).fst.fst,
 (ratZ (lowI 1 (w.getD (x : Int).toNat 0))).fst.snd) *
 vZ ((iZ (recN w x).snd).fst, (iZ (recN w x).snd).snd),
 vZ ((iZ (recN w x).snd).fst, (iZ (recN w x).snd).snd) *
 vZ
 ((ratZ (lowI 1 (w.getD (x : Int).toNat 0))).snd.fst,
 (ratZ (lowI 1 (w.getD (x : Int).toNat 0))).snd.snd))).snd.fst,
 (ratZ
 (vZ ((iZ (recN w x).fst).fst, (iZ (recN w x).fst).snd) *
 vZ
 ((ratZ (lowI 1 (w.getD (x : Int).toNat 0))).snd.fst,
 (ratZ (lowI 1 (w.getD (x : Int).toNat 0))).snd.snd) +
 vZ
 ((ratZ (lowI 1 (w.getD (x : Int).toNat 0))).fst.fst,
 (ratZ (lowI 1 (w.getD (x : Int).toNat 0))).fst.snd) *
 vZ ((iZ (recN w x).snd).fst, (iZ (recN w x).snd).snd),
 vZ ((iZ (recN w x).snd).fst, (iZ (recN w x).snd).snd) *
 vZ
 ((ratZ (lowI 1 (w.getD (x : Int).toNat 0))).snd.fst,
 (ratZ (lowI 1 (w.getD (x : Int).toNat 0))).snd.snd))).snd.snd)))).snd.fst =
 (iZ (recN w x').snd).fst ∧
 (ratZ
 (lowI
 (vZ
 ((ratZ
 (vZ ((iZ (recN w x).fst).fst, (iZ (recN w x).fst).snd) *
 vZ
 ((ratZ (lowI 1 (w.getD (x : Int).toNat 0))).snd.fst,
 (ratZ (lowI 1 (w.getD (x : Int).toNat 0))).snd.snd) +
 vZ
 ((ratZ (lowI 1 (w.getD (x : Int).toNat 0))).fst.fst,
 (ratZ (lowI 1 (w.getD (x : Int).toNat 0))).fst.snd) *
 vZ ((iZ (recN w x).snd).fst, (iZ (recN w x).snd).snd),
 vZ ((iZ (recN w x).snd).fst, (iZ (recN w x).snd).snd) *
 vZ
 ((ratZ (lowI 1 (w.getD (x : Int).toNat 0))).snd.fst,
 (ratZ (lowI 1 (w.getD (x : Int).toNat 0))).snd.snd))).fst.fst,
 (ratZ
 (vZ ((iZ (recN w x).fst).fst, (iZ (recN w x).fst).snd) *
 vZ
 ((ratZ (lowI 1 (w.getD (x : Int).toNat 0))).snd.fst,
 (ratZ (lowI 1 (w.getD (x : Int).toNat 0))).snd.snd) +
 vZ
 ((ratZ (lowI 1 (w.getD (x : Int).toNat 0))).fst.fst,
 (ratZ (lowI 1 (w.getD (x : Int).toNat 0))).fst.snd) *
 vZ ((iZ (recN w x).snd).fst, (iZ (recN w x).snd).snd),
 vZ ((iZ (recN w x).snd).fst, (iZ (recN w x).snd).snd) *
 vZ
 ((ratZ (lowI 1 (w.getD (x : Int).toNat 0))).snd.fst,
 (ratZ (lowI 1 (w.getD (x : Int).toNat 0))).snd.snd))).fst.snd))
 (vZ
 ((ratZ
 (vZ ((iZ (recN w x).fst).fst, (iZ (recN w x).fst).snd) *
 vZ
 ((ratZ (lowI 1 (w.getD (x : Int).toNat 0))).snd.fst,
 (ratZ (lowI 1 (w.getD (x : Int).toNat 0))).snd.snd) +
 vZ
 ((ratZ (lowI 1 (w.getD (x : Int).toNat 0))).fst.fst,
 (ratZ (lowI 1 (w.getD (x : Int).toNat 0))).fst.snd) *
 vZ ((iZ (recN w x).snd).fst, (iZ (recN w x).snd).snd),
 vZ ((iZ (recN w x).snd).fst, (iZ (recN w x).snd).snd) *
 vZ
 ((ratZ (lowI 1 (w.getD (x : Int).toNat 0))).snd.fst,
 (ratZ (lowI 1 (w.getD (x : Int).toNat 0))).snd.snd))).snd.fst,
 (ratZ
 (vZ ((iZ (recN w x).fst).fst, (iZ (recN w x).fst).snd) *
 vZ
 ((ratZ (lowI 1 (w.getD (x : Int).toNat 0))).snd.fst,
 (ratZ (lowI 1 (w.getD (x : Int).toNat 0))).snd.snd) +
 vZ
 ((ratZ (lowI 1 (w.getD (x : Int).toNat 0))).fst.fst,
 (ratZ (lowI 1 (w.getD (x : Int).toNat 0))).fst.snd) *
 vZ ((iZ (recN w x).snd).fst, (iZ (recN w x).snd).snd),
 vZ ((iZ (recN w x).snd).fst, (iZ (recN w x).snd).snd) *
 vZ
 ((ratZ (lowI 1 (w.getD (x : Int).toNat 0))).snd.fst,
 (ratZ (lowI 1 (w.getD (x : Int).toNat 0))).snd.snd))).snd.snd)))).snd.snd =
 (iZ (recN w x').snd).snd ∧
 True) ∧
 True) ∧
 (x : Int) + 1 = (x' : Int) ∧ True ∧ True ∧ w = w ∧ True) ∧
 (¬(x : Int) < (w.length : Int) →
 ¬(x : Int) < (w.length : Int) ∧ (((iZ (recN w x).fst).fst, (iZ (recN w x).fst).snd), (iZ (recN w x).snd).fst, (iZ (recN w x).snd).snd) = ratZ (recN w w.length))) := by
 kernel_rfl
end Go.SX.We.Nm

/- Chapter 08: the reference's text and sum of reciprocals, proved. -/
namespace Go.SX.We.Nm
open Go Go.Proofs
theorem w8 {x : Int} (h0 : 0 ≤ x) (h1 : x < 256) : IntKind.u8.wrap x = x := (tb_tab h0 h1).1
theorem vc68 {z : Int} (h0 : 0 ≤ z) (h1 : z < 10000 ^ 400) : h68 false (lim 10000 z) := by
  refine (h68_eq false (lim 10000 z)).mpr ?_
  have hz : valF 10000 (lim 10000 z) = z := val_lim dw2 h0
  have cz := lim_can dw2 h0
  have lz : (lim 10000 z).length ≤ 400 := lim_len dw2 h0 h1
  have hpz := lim_pos dw2 h0
  have lt := lim_lt dw2 h0
  have e1 : vZ (false, lim 10000 z) = z := by rw [← iZ_pos h0, iZ_vZ]
  have n1 : Int.toNat 1 = 1 := rfl
  have n0 : Int.toNat 0 = 0 := rfl
  rw [e1]
  clear h1 e1
  generalize lim 10000 z = m at hz cz lz hpz lt ⊢
  simp only [pp1, eq_self, and_true, true_and, and_self, Int.toNat_natCast, hz, pad_size, str_size', n1, n0]
  have h4 := ten_lenz h0 lt
  refine ⟨fun h => ?_, fun h => ⟨fj (by omega) (by omega), ⟨0, by omega, by simp [padF, digs]; rfl, by omega⟩, fun x hx => ⟨fun h5 => ?_, fun h5 => ⟨⟨0, ⟨by omega, by omega⟩, ?_⟩, fun k hk => ?_⟩⟩⟩⟩
  · have : z = 0 := by omega
    rw [this]; rfl
  · obtain ⟨i, hi⟩ : ∃ i, m.length - x = i + 1 := ⟨m.length - x - 1, by omega⟩
    have ei : ((m.length : Int) - 1 - x).toNat = i := by omega
    have el : m.length - (x + 1) = i := by omega
    have rx := figs_getD dw0 cz.1 i
    have hv := val_drop (b := 10000) (xs := m) (i := i) (by omega)
    simp only [hi, ei]
    obtain ⟨d, hd⟩ : ∃ d, d = m.getD i 0 := ⟨_, rfl⟩
    rw [← hd] at rx hv ⊢
    rw [w8 (x := 48 + d / 1000) (by omega) (by omega), w8 (x := 48 + d / 100 % 10) (by omega) (by omega), w8 (x := 48 + d / 10 % 10) (by omega) (by omega), w8 (x := 48 + d % 10) (by omega) (by omega)]
    refine ⟨by omega, ⟨by omega, by decide⟩, fj (by omega) (by omega), fj (by omega) (by omega), ⟨by omega, by decide⟩, fj (by omega) (by omega), ⟨by omega, by decide⟩, fj (by omega) (by omega), ⟨by omega, by decide⟩, fj (by omega) (by omega), ⟨by omega, by decide⟩, fj (by omega) (by omega), ⟨by omega, by decide⟩, fj (by omega) (by omega), sm (by simp; omega), fj (by omega) (by omega), x + 1, by omega, by omega, ?_, by omega⟩
    rw [el, hv, pad_four rx.1 rx.2]; rfl
  · have e : x = m.length := by omega
    rw [e, Nat.sub_self, List.drop_zero, hz, Nat.sub_zero]
  · have hzp : 0 < z := by omega
    obtain ⟨n, hn, hne⟩ := top_digit hzp
    obtain ⟨k1, k2⟩ := hk
    obtain ⟨q, hq⟩ : ∃ q, 4 * m.length - k = q + 1 := ⟨4 * m.length - k - 1, by omega⟩
    have pc : (padF z (q + 1)).extract 1 (q + 1) = padF z q := by
      have := pad_cut z q
      rw [pad_size] at this
      exact this
    rw [hq, pad_top h0, pc]
    refine ⟨by omega, fun g => ⟨by omega, k + 1, ⟨?_, by omega⟩, by omega, ?_⟩, fun g => ?_⟩
    · rcases Nat.lt_or_ge q (n + 1) with w | w
      · exfalso
        have : q = n := by omega
        subst this
        omega
      · omega
    · congr 1; omega
    · have : q = n := by
        rcases Nat.lt_or_ge n q with w | w
        · exfalso
          have := no_digit h0 (n := q) (by omega)
          omega
        · omega
      subst this
      rw [textF, if_neg (by omega), ← pad_all h0, hn]
theorem ok68 : r68.OK Tryz.prog := r68.ok (fn := Tryz.f68) (fun p => cx [] [(0, fun _ => A68a p.2), (1, fun _ => A68b p.2)]) (fun _ => cx0z) (by kernel_rfl) (by kernel_rfl) (by kernel_rfl) fun p hp => by
  obtain ⟨n, m⟩ := p
  obtain ⟨hp1, hp2⟩ := hp
  obtain ⟨z, e1, e2, h, e3⟩ := mk_intz hp1
  have hp5 : 0 ≤ vZ (n, m) := hp2
  rw [e3] at hp5
  rw [abs_pos hp5] at e2 h
  have g1 : n = false := by rw [e1]; exact decide_eq_false (Int.not_lt.2 hp5)
  subst e2 g1
  exact vc68 hp5 h
theorem text_sizez {N : Int} {k : Nat} (h0 : 0 ≤ N) (h : N < 10000 ^ k) : (textF N).size ≤ 4 * k + 1 := by
  unfold textF
  split
  · rw [str_size]; simp
  · rw [str_size, List.length_reverse, List.length_map]
    exact Nat.le_succ_of_le (ten_lenz h0 h)
theorem text_one {d : Int} (h : 0 < d) : textF d = ⟨#[49]⟩ ↔ d = 1 := by
  constructor
  · intro e
    rw [textF, if_neg (by omega)] at e
    have hs := congrArg ByteArray.size e
    rw [str_size, List.length_reverse, List.length_map] at hs
    have hv := val_lim (by decide : (2 : Int) ≤ 10) (Int.le_of_lt h)
    have hf := (lim_can (by decide : (2 : Int) ≤ 10) (Int.le_of_lt h)).1
    match hl : lim 10 d, hs with
    | [x], _ =>
      rw [hl] at e hv hf
      have hx := hf x (by simp)
      have : x = d := by simpa [valF] using hv
      have hb := congrArg (fun s => bt s 0) e
      simp only [List.map_cons, List.map_nil, List.reverse_singleton] at hb
      rw [str_byte (by simp) (by simp; omega)] at hb
      have e49 : bt ⟨#[49]⟩ 0 = 49 := by decide
      rw [e49] at hb
      simp at hb
      omega
  · rintro rfl; rfl
theorem low_boundz {n d : Int} {k : Nat} (hn : 0 ≤ n) (hd : 0 < d) (h1 : n < 10000 ^ k) (h2 : d < 10000 ^ k) : (0 ≤ (lowI n d).1 ∧ (lowI n d).1 < 10000 ^ k) ∧ 0 < (lowI n d).2 ∧ (lowI n d).2 < 10000 ^ k := by
  obtain ⟨l1, l2, l3, l4⟩ := low_bound hn hd
  exact ⟨⟨l1, Int.lt_of_le_of_lt l2 h1⟩, l3, Int.lt_of_le_of_lt l4 h2⟩
theorem vc32 {p q : DN} (hp : FrZ 300 (p, q)) : h32 p.1 p.2 q.1 q.2 := by
  obtain ⟨n, d, e1, e2, h1, h2, h3, h4⟩ := frz_parts hp
  refine (h32_eq _ _ _ _).mpr ?_
  have p5 : ∀ q : Int × Int, vZ (ratZ q).fst = q.1 := fun q => iZ_vZ _
  have p6 : ∀ q : Int × Int, vZ (ratZ q).snd = q.2 := fun q => iZ_vZ _
  have p7 : ∀ q : Int × Int, (ratZ q).fst = iZ q.1 := fun q => rfl
  have p8 : ∀ q : Int × Int, (ratZ q).snd = iZ q.2 := fun q => rfl
  obtain ⟨⟨l1, l2⟩, l3, l4⟩ := low_boundz h1 h2 h3 h4
  simp only [pp1, eq_self, and_true, true_and, and_self, peta]
  rw [e1, e2]
  simp only [iZ_vZ, p5, p6, p7, p8, abs_pos l1]
  have s1 := text_sizez l1 l2
  have s2 := text_sizez (Int.le_of_lt l3) l4
  have t1 := text_one l3
  have b47 : (ByteArray.mk #[47]).size = 1 := rfl
  have o1 := okz_pos' l1 l2 (l := 500) (by decide)
  have o2 := okz_pos' l1 l2 (l := 400) (by decide)
  have o3 := okz_pos' (Int.le_of_lt l3) l4 (l := 400) (by decide)
  have hneg : (iZ (lowI n d).1).1 = false := by rw [iZ_pos l1]
  have hfr : FrZ 400 (iZ n, iZ d) := frz_le (k := 300) (by decide) ⟨n, d, rfl, h1, h2, h3, h4⟩
  clear h3 h4 l2 l4
  simp only [ByteArray.size_append, b47]
  refine ⟨hfr, o1, ⟨o2, l1⟩, ⟨o3, Int.le_of_lt l3⟩, fun g => absurd g (by omega), fun _ => ⟨fun g => absurd g (by omega), fun _ => ⟨fun g => ?_, fun _ => ⟨fun g => ⟨sm (by omega), sm (by omega), ?_⟩, fun g => ?_⟩⟩⟩⟩
  · rw [hneg] at g; cases g
  · rw [t1] at g
    rw [numF, if_neg g, ByteArray.append_assoc]
  · rw [t1] at g
    rw [numF, if_pos (Decidable.not_not.1 g)]
theorem ok32z : r32.OK Tryz.prog := r32.ok (fn := Tryz.f32) (fun _ => cx [r33.ci, r69.ci, r68.ci] []) (fun _ => cx_ok (cs := [r33.ci, r69.ci, r68.ci]) ⟨PC.OK.ci ok33, PC.OK.ci ok69, PC.OK.ci ok68, trivial⟩ _) (by kernel_rfl) (by kernel_rfl) (by kernel_rfl) fun p hp => by
  obtain ⟨p, q⟩ := p
  exact vc32 hp
theorem ok9z : r9.OK Tryz.prog := r9.ok (fn := Tryz.f9) (fun _ => cx [r32.ci] []) (fun _ => cx_ok (cs := [r32.ci]) ⟨PC.OK.ci ok32z, trivial⟩ _) (by kernel_rfl) (by kernel_rfl) (by kernel_rfl) fun p hp => by
  obtain ⟨s, ⟨n1, m1⟩, n2, m2⟩ := p
  refine (h9_eq s n1 m1 n2 m2).mpr ?_
  simp only [pp1, eq_self, and_true, true_and, and_self]
  exact ⟨hp, fun h => h, fun h => (by cases h)⟩
theorem rec_boundz {w : List Int} (hw : ∀ v ∈ w, 1 ≤ v ∧ v ≤ 100000) : ∀ k, k ≤ w.length → 0 ≤ (recN w k).1 ∧ 0 < (recN w k).2 ∧ (recN w k).1 < 10000 ^ (3 * k + 1) ∧ (recN w k).2 < 10000 ^ (3 * k + 1)
  | 0, _ => (⟨Int.le_refl 0, by decide, by decide, by decide⟩ : (0 : Int) ≤ 0 ∧ (0 : Int) < 1 ∧ (0 : Int) < 10000 ^ 1 ∧ (1 : Int) < 10000 ^ 1)
  | k + 1, hk => by
    obtain ⟨h1, h2, h3, h4⟩ := rec_boundz hw k (by omega)
    have hv : 1 ≤ w.getD k 0 ∧ w.getD k 0 ≤ 100000 := by
      rw [List.getD_eq_getElem?_getD, List.getElem?_eq_getElem (by omega)]
      exact hw _ (List.getElem_mem _)
    obtain ⟨l1, l2, l3, l4⟩ := low_bound (n := 1) (d := w.getD k 0) (by decide) (by omega)
    simp only [recN]
    generalize (recN w k).1 = n at *
    generalize (recN w k).2 = d at *
    generalize (lowI 1 (w.getD k 0)).1 = a at *
    generalize (lowI 1 (w.getD k 0)).2 = c at *
    have ep : (10000 : Int) ^ 2 = 100000000 := by decide
    have e1 : a < 10000 ^ 2 := by rw [ep]; omega
    have e2 : c < 10000 ^ 2 := by rw [ep]; omega
    have m1 := mul_lt_pow dw2 h1 h3 (Int.le_of_lt l3) e2
    have m2 := mul_lt_pow dw2 l1 e1 (Int.le_of_lt h2) h4
    have m3 := mul_lt_pow dw2 (Int.le_of_lt h2) h4 (Int.le_of_lt l3) e2
    rw [Nat.add_comm 2] at m2
    have s := add_lt_pow dw2 m1 m2
    have n0 : 0 ≤ n * c + a * d := Int.add_nonneg (Int.mul_nonneg h1 (Int.le_of_lt l3)) (Int.mul_nonneg l1 (Int.le_of_lt h2))
    have d0 : 0 < d * c := Int.mul_pos h2 l3
    obtain ⟨q1, q2, q3, q4⟩ := low_bound n0 d0
    refine ⟨q1, q3, Int.lt_of_le_of_lt q2 s, Int.lt_of_le_of_lt q4 (pow_le_pow' dw2 m3 (by omega))⟩
theorem vc10 {w : List Int} (hw : ∀ v ∈ w, 1 ≤ v ∧ v ≤ 100000) (h12 : w.length ≤ 12) : h10 w := by
  refine (h10_eq w).mpr ?_
  have p5 : ∀ q : Int × Int, vZ (ratZ q).fst = q.1 := fun q => iZ_vZ _
  have p6 : ∀ q : Int × Int, vZ (ratZ q).snd = q.2 := fun q => iZ_vZ _
  simp only [pp1, eq_self, and_true, true_and, and_self, Int.toNat_natCast, peta, iZ_vZ, p5, p6]
  refine ⟨⟨by decide, by decide⟩, ⟨0, by omega, ⟨rfl, rfl, rfl, rfl⟩, rfl⟩, fun k hk => ⟨fun h1 => ?_, fun h1 => ?_⟩⟩
  · have hk' : k < w.length := by omega
    have hv : 1 ≤ w.getD k 0 ∧ w.getD k 0 ≤ 100000 := by
      rw [List.getD_eq_getElem?_getD, List.getElem?_eq_getElem hk']
      exact hw _ (List.getElem_mem _)
    obtain ⟨r1, r2, r3, r4⟩ := rec_boundz hw k hk
    obtain ⟨l1, l2, l3, l4⟩ := low_bound (n := 1) (d := w.getD k 0) (by decide) (by omega)
    have hr := pow_le_pow' dw2 r3 (show 3 * k + 1 ≤ 100 by omega)
    have hr' := pow_le_pow' dw2 r4 (show 3 * k + 1 ≤ 100 by omega)
    have b3 := bigz 100 (by decide) _ (show (lowI 1 (w.getD k 0)).1 ≤ 1000000 by omega)
    have b4 := bigz 100 (by decide) _ (show (lowI 1 (w.getD k 0)).2 ≤ 1000000 by omega)
    have m1 := mul_lt_pow dw2 r1 hr (Int.le_of_lt l3) b4
    have m2 := mul_lt_pow dw2 l1 b3 (Int.le_of_lt r2) hr'
    have m3 := mul_lt_pow dw2 (Int.le_of_lt r2) hr' (Int.le_of_lt l3) b4
    have s := add_lt_pow dw2 m1 m2
    clear r3 r4
    refine ⟨by omega, ⟨⟨by decide, by decide⟩, hv.1, by omega⟩, ⟨⟨_, _, rfl, r1, r2, hr, hr'⟩, ⟨_, _, rfl, l1, l3, b3, b4⟩⟩, ⟨_, _, rfl, ?_, ?_, pow_le_pow' dw2 s (by decide), pow_le_pow' dw2 m3 (by decide)⟩, fj (by omega) (by omega), k + 1, by omega, by omega, ⟨rfl, rfl, rfl, rfl⟩, by omega⟩
    · exact Int.add_nonneg (Int.mul_nonneg r1 (Int.le_of_lt l3)) (Int.mul_nonneg l1 (Int.le_of_lt r2))
    · exact Int.mul_pos r2 l3
  · have hk' : k = w.length := by omega
    subst hk'
    rfl
theorem ok10z : r10.OK Tryz.prog := r10.ok (fn := Tryz.f10) (fun w => cx [r17.ci, r35.ci, r34.ci, r33.ci] [(0, fun _ => A10z w)]) (fun _ => cx_ok (cs := [r17.ci, r35.ci, r34.ci, r33.ci]) ⟨PC.OK.ci ok17z, PC.OK.ci ok35, PC.OK.ci ok34, PC.OK.ci ok33, trivial⟩ _) (by kernel_rfl) (by kernel_rfl) (by kernel_rfl) fun _ hp => vc10 hp.1 hp.2
end Go.SX.We.Nm
