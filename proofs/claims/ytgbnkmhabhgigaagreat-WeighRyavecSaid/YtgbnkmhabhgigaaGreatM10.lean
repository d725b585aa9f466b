/- Parts of the proof, one after the other: WzN6 WzN6E WzN6Q WzN7 WzN7E WzN7Q. -/
import Derived.Test.YtgbnkmhabhgigaaGreatM8
import Derived.Test.YtgbnkmhabhgigaaGreatM9
/- Chapter 08: quotient and remainder of sizes, what is asked. -/
namespace Go.SX.We.Nm
open Go Go.Proofs
noncomputable section
@[reducible] def pick124 : Pick X124 := fun args H K => match args with
  | [.c (.mid i _ o _), .c (.ro (.int .u32) v)] => (match H[i]? with
    | some (.row _ (.int .u32) _ us) => K ⟨us, o, v⟩ [i]
    | _ => False)
  | _ => False
@[reducible] def A123r (a : List Int) (n : Int) (r : Nat) : Ann where
  τ := Nat
  pre := []
  preC := []
  keep := [0, 1, 5, 13, 14]
  slots k := [(15, .c (.int .i64 k))]
  ents k := [(r, .row 118 (.int .u32) 1 (digs 4294967296 (valF 4294967296 (a.take k) * 2 ^ n.toNat) (k + 1) ++ List.replicate (a.length - k) 0))]
  ok k := k ≤ a.length
  m k := a.length - k
def with123 (st : St) : Ann :=
  match findT 0 st.t, findT 1 st.t, findT 5 st.t with
  | .c (.ro (.int .u32) a), .c (.int _ n), .c (.own r _) => A123r a n r
  | _, _, _ => noAnn
def i123 : CI := inl 123 Tryz.f123 (cx [] [(0, with123)])
@[reducible] def A107 (la : Nat) (A : Int) (v : List Int) (ru rq : Nat) : Ann where
  τ := Nat
  pre := []
  preC := []
  keep := [8, 9, 10, 11, 12]
  slots k := [(13, .c (.int .i64 ((la : Int) - v.length - k)))]
  ents k := [(ru, .row 118 (.int .u32) 1 (digs 4294967296 (pR A (valF 4294967296 v) (la + 1 - v.length - k)) (la + 1))), (rq, .row 118 (.int .u32) 1 (List.replicate (la + 1 - v.length - k) 0 ++ digs 4294967296 (pQ A (valF 4294967296 v) (la + 1 - v.length - k)) k))]
  ok k := k ≤ la + 1 - v.length
  m k := la + 1 - v.length - k
def with107 (st : St) : Ann :=
  match findT 0 st.t, findT 8 st.t, findT 9 st.t, findT 10 st.t, findT 12 st.t with
  | .c (.ro (.int .u32) a), .c (.int _ s), .c (.ro (.int .u32) v), .c (.own ru _), .c (.own rq _) => A107 a.length (valF 4294967296 a * 2 ^ s.toNat) v ru rq
  | _, _, _, _, _ => noAnn
@[reducible] def p107 : PC := ⟨107, [aU, aU], [aU, aU], fun p => (CanF 4294967296 p.1 ∧ CanF 4294967296 p.2) ∧ (p.1.length ≤ 90000 ∧ p.2.length ≤ 90000) ∧ 1 ≤ p.2.length,
  fun p => (lim 4294967296 (valF 4294967296 p.1 / valF 4294967296 p.2), lim 4294967296 (valF 4294967296 p.1 % valF 4294967296 p.2))⟩
@[reducible] def C107 : Ctx := cx [p84.ci, p91.ci, p82.ci, p122.ci, i123, c124.ci pick124, p125.ci] [(0, with107)]
def g107 (a b : List Int) : Prop := p107.VC C107 Tryz.f107 (a, b)
end
end Go.SX.We.Nm

/- Printed by VC.lean: what the executor asks. -/
namespace Go.SX.We.Nm
open Go Go.Proofs IntKind List
def Kg107 (a : List Int) (b : List Int) (x : Nat) (x_2 : Nat) : Prop := (0 ≤ (a.length : Int) - (↑(trimF (dQ (vQ (take x b) * 2 ^ (32 - len32 (b.getD ((b.length : Int) - 1).toNat 0)).toNat) (x + 1) ++ replicate (b.length - x) 0)).length : Int) - (x_2 : Int) → 0 ≤ (a.length : Int) - (↑(trimF (dQ (vQ (take x b) * 2 ^ (32 - len32 (b.getD ((b.length : Int) - 1).toNat 0)).toNat) (x + 1) ++ replicate (b.length - x) 0)).length : Int) - (x_2 : Int) ∧ Fits .i64 ((a.length : Int) - (↑(trimF (dQ (vQ (take x b) * 2 ^ (32 - len32 (b.getD ((b.length : Int) - 1).toNat 0)).toNat) (x + 1) ++ replicate (b.length - x) 0)).length : Int) - (x_2 : Int) + (↑(trimF (dQ (vQ (take x b) * 2 ^ (32 - len32 (b.getD ((b.length : Int) - 1).toNat 0)).toNat) (x + 1) ++ replicate (b.length - x) 0)).length : Int)) ∧ Fits .i64 ((a.length : Int) - (↑(trimF (dQ (vQ (take x b) * 2 ^ (32 - len32 (b.getD ((b.length : Int) - 1).toNat 0)).toNat) (x + 1) ++ replicate (b.length - x) 0)).length : Int) - (x_2 : Int) + (↑(trimF (dQ (vQ (take x b) * 2 ^ (32 - len32 (b.getD ((b.length : Int) - 1).toNat 0)).toNat) (x + 1) ++ replicate (b.length - x) 0)).length : Int) + 1) ∧ (0 ≤ (a.length : Int) - (↑(trimF (dQ (vQ (take x b) * 2 ^ (32 - len32 (b.getD ((b.length : Int) - 1).toNat 0)).toNat) (x + 1) ++ replicate (b.length - x) 0)).length : Int) - (x_2 : Int) ∧ (a.length : Int) - (↑(trimF (dQ (vQ (take x b) * 2 ^ (32 - len32 (b.getD ((b.length : Int) - 1).toNat 0)).toNat) (x + 1) ++ replicate (b.length - x) 0)).length : Int) - (x_2 : Int) ≤ (a.length : Int) - (↑(trimF (dQ (vQ (take x b) * 2 ^ (32 - len32 (b.getD ((b.length : Int) - 1).toNat 0)).toNat) (x + 1) ++ replicate (b.length - x) 0)).length : Int) - (x_2 : Int) + (↑(trimF (dQ (vQ (take x b) * 2 ^ (32 - len32 (b.getD ((b.length : Int) - 1).toNat 0)).toNat) (x + 1) ++ replicate (b.length - x) 0)).length : Int) + 1 ∧ (a.length : Int) - (↑(trimF (dQ (vQ (take x b) * 2 ^ (32 - len32 (b.getD ((b.length : Int) - 1).toNat 0)).toNat) (x + 1) ++ replicate (b.length - x) 0)).length : Int) - (x_2 : Int) + (↑(trimF (dQ (vQ (take x b) * 2 ^ (32 - len32 (b.getD ((b.length : Int) - 1).toNat 0)).toNat) (x + 1) ++ replicate (b.length - x) 0)).length : Int) + 1 ≤ (↑(dQ (pR (vQ a * 2 ^ (32 - len32 (b.getD ((b.length : Int) - 1).toNat 0)).toNat) (vQ (trimF (dQ (vQ (take x b) * 2 ^ (32 - len32 (b.getD ((b.length : Int) - 1).toNat 0)).toNat) (x + 1) ++ replicate (b.length - x) 0))) (a.length + 1 - (trimF (dQ (vQ (take x b) * 2 ^ (32 - len32 (b.getD ((b.length : Int) - 1).toNat 0)).toNat) (x + 1) ++ replicate (b.length - x) 0)).length - x_2)) (a.length + 1)).length : Int)) ∧ True ∧ (dQ (pR (vQ a * 2 ^ (32 - len32 (b.getD ((b.length : Int) - 1).toNat 0)).toNat) (vQ (trimF (dQ (vQ (take x b) * 2 ^ (32 - len32 (b.getD ((b.length : Int) - 1).toNat 0)).toNat) (x + 1) ++ replicate (b.length - x) 0))) (a.length + 1 - (trimF (dQ (vQ (take x b) * 2 ^ (32 - len32 (b.getD ((b.length : Int) - 1).toNat 0)).toNat) (x + 1) ++ replicate (b.length - x) 0)).length - x_2)) (a.length + 1) = dQ (pR (vQ a * 2 ^ (32 - len32 (b.getD ((b.length : Int) - 1).toNat 0)).toNat) (vQ (trimF (dQ (vQ (take x b) * 2 ^ (32 - len32 (b.getD ((b.length : Int) - 1).toNat 0)).toNat) (x + 1) ++ replicate (b.length - x) 0))) (a.length + 1 - (trimF (dQ (vQ (take x b) * 2 ^ (32 - len32 (b.getD ((b.length : Int) - 1).toNat 0)).toNat) (x + 1) ++ replicate (b.length - x) 0)).length - x_2)) (a.length + 1) ∧ True) ∧ ((((a.length : Int) - (↑(trimF (dQ (vQ (take x b) * 2 ^ (32 - len32 (b.getD ((b.length : Int) - 1).toNat 0)).toNat) (x + 1) ++ replicate (b.length - x) 0)).length : Int) - (x_2 : Int)).toNat = ((a.length : Int) - (↑(trimF (dQ (vQ (take x b) * 2 ^ (32 - len32 (b.getD ((b.length : Int) - 1).toNat 0)).toNat) (x + 1) ++ replicate (b.length - x) 0)).length : Int) - (x_2 : Int)).toNat ∧ ((a.length : Int) - (↑(trimF (dQ (vQ (take x b) * 2 ^ (32 - len32 (b.getD ((b.length : Int) - 1).toNat 0)).toNat) (x + 1) ++ replicate (b.length - x) 0)).length : Int) - (x_2 : Int) + (↑(trimF (dQ (vQ (take x b) * 2 ^ (32 - len32 (b.getD ((b.length : Int) - 1).toNat 0)).toNat) (x + 1) ++ replicate (b.length - x) 0)).length : Int) + 1 - ((a.length : Int) - (↑(trimF (dQ (vQ (take x b) * 2 ^ (32 - len32 (b.getD ((b.length : Int) - 1).toNat 0)).toNat) (x + 1) ++ replicate (b.length - x) 0)).length : Int) - (x_2 : Int))).toNat = (trimF (dQ (vQ (take x b) * 2 ^ (32 - len32 (b.getD ((b.length : Int) - 1).toNat 0)).toNat) (x + 1) ++ replicate (b.length - x) 0)).length + (1 : Nat)) ∧ trimF (dQ (vQ (take x b) * 2 ^ (32 - len32 (b.getD ((b.length : Int) - 1).toNat 0)).toNat) (x + 1) ++ replicate (b.length - x) 0) = trimF (dQ (vQ (take x b) * 2 ^ (32 - len32 (b.getD ((b.length : Int) - 1).toNat 0)).toNat) (x + 1) ++ replicate (b.length - x) 0) ∧ True) ∧ (((∀ (x_3 : Int), x_3 ∈ dQ (pR (vQ a * 2 ^ (32 - len32 (b.getD ((b.length : Int) - 1).toNat 0)).toNat) (vQ (trimF (dQ (vQ (take x b) * 2 ^ (32 - len32 (b.getD ((b.length : Int) - 1).toNat 0)).toNat) (x + 1) ++ replicate (b.length - x) 0))) (a.length + 1 - (trimF (dQ (vQ (take x b) * 2 ^ (32 - len32 (b.getD ((b.length : Int) - 1).toNat 0)).toNat) (x + 1) ++ replicate (b.length - x) 0)).length - x_2)) (a.length + 1) → 0 ≤ x_3 ∧ x_3 < 4294967296) ∧ ∀ (x_3 : Int), x_3 ∈ trimF (dQ (vQ (take x b) * 2 ^ (32 - len32 (b.getD ((b.length : Int) - 1).toNat 0)).toNat) (x + 1) ++ replicate (b.length - x) 0) → 0 ≤ x_3 ∧ x_3 < 4294967296) ∧ ((2 : Nat) ≤ (trimF (dQ (vQ (take x b) * 2 ^ (32 - len32 (b.getD ((b.length : Int) - 1).toNat 0)).toNat) (x + 1) ++ replicate (b.length - x) 0)).length ∧ (trimF (dQ (vQ (take x b) * 2 ^ (32 - len32 (b.getD ((b.length : Int) - 1).toNat 0)).toNat) (x + 1) ++ replicate (b.length - x) 0)).length ≤ (200000 : Nat)) ∧ ((dQ (pR (vQ a * 2 ^ (32 - len32 (b.getD ((b.length : Int) - 1).toNat 0)).toNat) (vQ (trimF (dQ (vQ (take x b) * 2 ^ (32 - len32 (b.getD ((b.length : Int) - 1).toNat 0)).toNat) (x + 1) ++ replicate (b.length - x) 0))) (a.length + 1 - (trimF (dQ (vQ (take x b) * 2 ^ (32 - len32 (b.getD ((b.length : Int) - 1).toNat 0)).toNat) (x + 1) ++ replicate (b.length - x) 0)).length - x_2)) (a.length + 1)).length ≤ (200000 : Nat) ∧ ((a.length : Int) - (↑(trimF (dQ (vQ (take x b) * 2 ^ (32 - len32 (b.getD ((b.length : Int) - 1).toNat 0)).toNat) (x + 1) ++ replicate (b.length - x) 0)).length : Int) - (x_2 : Int)).toNat + (trimF (dQ (vQ (take x b) * 2 ^ (32 - len32 (b.getD ((b.length : Int) - 1).toNat 0)).toNat) (x + 1) ++ replicate (b.length - x) 0)).length + (1 : Nat) ≤ (dQ (pR (vQ a * 2 ^ (32 - len32 (b.getD ((b.length : Int) - 1).toNat 0)).toNat) (vQ (trimF (dQ (vQ (take x b) * 2 ^ (32 - len32 (b.getD ((b.length : Int) - 1).toNat 0)).toNat) (x + 1) ++ replicate (b.length - x) 0))) (a.length + 1 - (trimF (dQ (vQ (take x b) * 2 ^ (32 - len32 (b.getD ((b.length : Int) - 1).toNat 0)).toNat) (x + 1) ++ replicate (b.length - x) 0)).length - x_2)) (a.length + 1)).length) ∧ 1 ≤ dV1 (trimF (dQ (vQ (take x b) * 2 ^ (32 - len32 (b.getD ((b.length : Int) - 1).toNat 0)).toNat) (x + 1) ++ replicate (b.length - x) 0)) ∧ dU (dQ (pR (vQ a * 2 ^ (32 - len32 (b.getD ((b.length : Int) - 1).toNat 0)).toNat) (vQ (trimF (dQ (vQ (take x b) * 2 ^ (32 - len32 (b.getD ((b.length : Int) - 1).toNat 0)).toNat) (x + 1) ++ replicate (b.length - x) 0))) (a.length + 1 - (trimF (dQ (vQ (take x b) * 2 ^ (32 - len32 (b.getD ((b.length : Int) - 1).toNat 0)).toNat) (x + 1) ++ replicate (b.length - x) 0)).length - x_2)) (a.length + 1)) ((a.length : Int) - (↑(trimF (dQ (vQ (take x b) * 2 ^ (32 - len32 (b.getD ((b.length : Int) - 1).toNat 0)).toNat) (x + 1) ++ replicate (b.length - x) 0)).length : Int) - (x_2 : Int)).toNat (trimF (dQ (vQ (take x b) * 2 ^ (32 - len32 (b.getD ((b.length : Int) - 1).toNat 0)).toNat) (x + 1) ++ replicate (b.length - x) 0)) < dV (trimF (dQ (vQ (take x b) * 2 ^ (32 - len32 (b.getD ((b.length : Int) - 1).toNat 0)).toNat) (x + 1) ++ replicate (b.length - x) 0)) * 4294967296) ∧ (0 ≤ (a.length : Int) - (↑(trimF (dQ (vQ (take x b) * 2 ^ (32 - len32 (b.getD ((b.length : Int) - 1).toNat 0)).toNat) (x + 1) ++ replicate (b.length - x) 0)).length : Int) - (x_2 : Int) ∧ (a.length : Int) - (↑(trimF (dQ (vQ (take x b) * 2 ^ (32 - len32 (b.getD ((b.length : Int) - 1).toNat 0)).toNat) (x + 1) ++ replicate (b.length - x) 0)).length : Int) - (x_2 : Int) < (↑(replicate (a.length + 1 - (trimF (dQ (vQ (take x b) * 2 ^ (32 - len32 (b.getD ((b.length : Int) - 1).toNat 0)).toNat) (x + 1) ++ replicate (b.length - x) 0)).length - x_2) 0 ++ dQ (pQ (vQ a * 2 ^ (32 - len32 (b.getD ((b.length : Int) - 1).toNat 0)).toNat) (vQ (trimF (dQ (vQ (take x b) * 2 ^ (32 - len32 (b.getD ((b.length : Int) - 1).toNat 0)).toNat) (x + 1) ++ replicate (b.length - x) 0))) (a.length + 1 - (trimF (dQ (vQ (take x b) * 2 ^ (32 - len32 (b.getD ((b.length : Int) - 1).toNat 0)).toNat) (x + 1) ++ replicate (b.length - x) 0)).length - x_2)) x_2).length : Int)) ∧ Fits .i64 ((a.length : Int) - (↑(trimF (dQ (vQ (take x b) * 2 ^ (32 - len32 (b.getD ((b.length : Int) - 1).toNat 0)).toNat) (x + 1) ++ replicate (b.length - x) 0)).length : Int) - (x_2 : Int) - 1) ∧ ∃ (x' : Nat), x' ≤ a.length + 1 - (trimF (dQ (vQ (take x b) * 2 ^ (32 - len32 (b.getD ((b.length : Int) - 1).toNat 0)).toNat) (x + 1) ++ replicate (b.length - x) 0)).length ∧ a.length + 1 - (trimF (dQ (vQ (take x b) * 2 ^ (32 - len32 (b.getD ((b.length : Int) - 1).toNat 0)).toNat) (x + 1) ++ replicate (b.length - x) 0)).length - x' < a.length + 1 - (trimF (dQ (vQ (take x b) * 2 ^ (32 - len32 (b.getD ((b.length : Int) - 1).toNat 0)).toNat) (x + 1) ++ replicate (b.length - x) 0)).length - x_2 ∧ (True ∧ putF (dQ (pR (vQ a * 2 ^ (32 - len32 (b.getD ((b.length : Int) - 1).toNat 0)).toNat) (vQ (trimF (dQ (vQ (take x b) * 2 ^ (32 - len32 (b.getD ((b.length : Int) - 1).toNat 0)).toNat) (x + 1) ++ replicate (b.length - x) 0))) (a.length + 1 - (trimF (dQ (vQ (take x b) * 2 ^ (32 - len32 (b.getD ((b.length : Int) - 1).toNat 0)).toNat) (x + 1) ++ replicate (b.length - x) 0)).length - x_2)) (a.length + 1)) ((a.length : Int) - (↑(trimF (dQ (vQ (take x b) * 2 ^ (32 - len32 (b.getD ((b.length : Int) - 1).toNat 0)).toNat) (x + 1) ++ replicate (b.length - x) 0)).length : Int) - (x_2 : Int)).toNat (dQ (dU (dQ (pR (vQ a * 2 ^ (32 - len32 (b.getD ((b.length : Int) - 1).toNat 0)).toNat) (vQ (trimF (dQ (vQ (take x b) * 2 ^ (32 - len32 (b.getD ((b.length : Int) - 1).toNat 0)).toNat) (x + 1) ++ replicate (b.length - x) 0))) (a.length + 1 - (trimF (dQ (vQ (take x b) * 2 ^ (32 - len32 (b.getD ((b.length : Int) - 1).toNat 0)).toNat) (x + 1) ++ replicate (b.length - x) 0)).length - x_2)) (a.length + 1)) ((a.length : Int) - (↑(trimF (dQ (vQ (take x b) * 2 ^ (32 - len32 (b.getD ((b.length : Int) - 1).toNat 0)).toNat) (x + 1) ++ replicate (b.length - x) 0)).length : Int) - (x_2 : Int)).toNat (trimF (dQ (vQ (take x b) * 2 ^ (32 - len32 (b.getD ((b.length : Int) - 1).toNat 0)).toNat) (x + 1) ++ replicate (b.length - x) 0)) % dV (trimF (dQ (vQ (take x b) * 2 ^ (32 - len32 (b.getD ((b.length : Int) - 1).toNat 0)).toNat) (x + 1) ++ replicate (b.length - x) 0))) ((trimF (dQ (vQ (take x b) * 2 ^ (32 - len32 (b.getD ((b.length : Int) - 1).toNat 0)).toNat) (x + 1) ++ replicate (b.length - x) 0)).length + (1 : Nat))) = dQ (pR (vQ a * 2 ^ (32 - len32 (b.getD ((b.length : Int) - 1).toNat 0)).toNat) (vQ (trimF (dQ (vQ (take x b) * 2 ^ (32 - len32 (b.getD ((b.length : Int) - 1).toNat 0)).toNat) (x + 1) ++ replicate (b.length - x) 0))) (a.length + 1 - (trimF (dQ (vQ (take x b) * 2 ^ (32 - len32 (b.getD ((b.length : Int) - 1).toNat 0)).toNat) (x + 1) ++ replicate (b.length - x) 0)).length - x')) (a.length + 1) ∧ (replicate (a.length + 1 - (trimF (dQ (vQ (take x b) * 2 ^ (32 - len32 (b.getD ((b.length : Int) - 1).toNat 0)).toNat) (x + 1) ++ replicate (b.length - x) 0)).length - x_2) 0 ++ dQ (pQ (vQ a * 2 ^ (32 - len32 (b.getD ((b.length : Int) - 1).toNat 0)).toNat) (vQ (trimF (dQ (vQ (take x b) * 2 ^ (32 - len32 (b.getD ((b.length : Int) - 1).toNat 0)).toNat) (x + 1) ++ replicate (b.length - x) 0))) (a.length + 1 - (trimF (dQ (vQ (take x b) * 2 ^ (32 - len32 (b.getD ((b.length : Int) - 1).toNat 0)).toNat) (x + 1) ++ replicate (b.length - x) 0)).length - x_2)) x_2).set ((a.length : Int) - (↑(trimF (dQ (vQ (take x b) * 2 ^ (32 - len32 (b.getD ((b.length : Int) - 1).toNat 0)).toNat) (x + 1) ++ replicate (b.length - x) 0)).length : Int) - (x_2 : Int)).toNat (dU (dQ (pR (vQ a * 2 ^ (32 - len32 (b.getD ((b.length : Int) - 1).toNat 0)).toNat) (vQ (trimF (dQ (vQ (take x b) * 2 ^ (32 - len32 (b.getD ((b.length : Int) - 1).toNat 0)).toNat) (x + 1) ++ replicate (b.length - x) 0))) (a.length + 1 - (trimF (dQ (vQ (take x b) * 2 ^ (32 - len32 (b.getD ((b.length : Int) - 1).toNat 0)).toNat) (x + 1) ++ replicate (b.length - x) 0)).length - x_2)) (a.length + 1)) ((a.length : Int) - (↑(trimF (dQ (vQ (take x b) * 2 ^ (32 - len32 (b.getD ((b.length : Int) - 1).toNat 0)).toNat) (x + 1) ++ replicate (b.length - x) 0)).length : Int) - (x_2 : Int)).toNat (trimF (dQ (vQ (take x b) * 2 ^ (32 - len32 (b.getD ((b.length : Int) - 1).toNat 0)).toNat) (x + 1) ++ replicate (b.length - x) 0)) / dV (trimF (dQ (vQ (take x b) * 2 ^ (32 - len32 (b.getD ((b.length : Int) - 1).toNat 0)).toNat) (x + 1) ++ replicate (b.length - x) 0))) = replicate (a.length + 1 - (trimF (dQ (vQ (take x b) * 2 ^ (32 - len32 (b.getD ((b.length : Int) - 1).toNat 0)).toNat) (x + 1) ++ replicate (b.length - x) 0)).length - x') 0 ++ dQ (pQ (vQ a * 2 ^ (32 - len32 (b.getD ((b.length : Int) - 1).toNat 0)).toNat) (vQ (trimF (dQ (vQ (take x b) * 2 ^ (32 - len32 (b.getD ((b.length : Int) - 1).toNat 0)).toNat) (x + 1) ++ replicate (b.length - x) 0))) (a.length + 1 - (trimF (dQ (vQ (take x b) * 2 ^ (32 - len32 (b.getD ((b.length : Int) - 1).toNat 0)).toNat) (x + 1) ++ replicate (b.length - x) 0)).length - x')) x' ∧ True) ∧ (a.length : Int) - (↑(trimF (dQ (vQ (take x b) * 2 ^ (32 - len32 (b.getD ((b.length : Int) - 1).toNat 0)).toNat) (x + 1) ++ replicate (b.length - x) 0)).length : Int) - (x_2 : Int) - 1 = (a.length : Int) - (↑(trimF (dQ (vQ (take x b) * 2 ^ (32 - len32 (b.getD ((b.length : Int) - 1).toNat 0)).toNat) (x + 1) ++ replicate (b.length - x) 0)).length : Int) - (x' : Int) ∧ True ∧ (↑(trimF (dQ (vQ (take x b) * 2 ^ (32 - len32 (b.getD ((b.length : Int) - 1).toNat 0)).toNat) (x + 1) ++ replicate (b.length - x) 0)).length : Int) = (↑(trimF (dQ (vQ (take x b) * 2 ^ (32 - len32 (b.getD ((b.length : Int) - 1).toNat 0)).toNat) (x + 1) ++ replicate (b.length - x) 0)).length : Int) ∧ True ∧ trimF (dQ (vQ (take x b) * 2 ^ (32 - len32 (b.getD ((b.length : Int) - 1).toNat 0)).toNat) (x + 1) ++ replicate (b.length - x) 0) = trimF (dQ (vQ (take x b) * 2 ^ (32 - len32 (b.getD ((b.length : Int) - 1).toNat 0)).toNat) (x + 1) ++ replicate (b.length - x) 0) ∧ 32 - len32 (b.getD ((b.length : Int) - 1).toNat 0) = 32 - len32 (b.getD ((b.length : Int) - 1).toNat 0) ∧ True)
theorem g107_eq (a : List Int) (b : List Int) : g107 a b = ((a.length ≤ 1000000 ∧ b.length ≤ 1000000) ∧ (cmpN a b < 0 → cmpN a b < 0 ∧ Small a.length ∧ (nilT Int, a) = (lQ (vQ a / vQ b), lQ (vQ a % vQ b))) ∧ (¬cmpN a b < 0 → ¬cmpN a b < 0 ∧ ((b.length : Int) = 1 → (b.length : Int) = 1 ∧ ((0 : Int) ≤ 0 ∧ 0 < (b.length : Int)) ∧ ((∀ (x : Int), x ∈ a → 0 ≤ x ∧ x < 4294967296) ∧ a.length ≤ 100000 ∧ 1 ≤ b.getD (Int.toNat 0) 0 ∧ b.getD (Int.toNat 0) (0 : Int) < 4294967296) ∧ (0 : Nat) + 1 ≤ 1000000 ∧ (lQ (vQ a / b.getD (Int.toNat 0) 0), trimF [vQ a % b.getD (Int.toNat 0) 0]) = (lQ (vQ a / vQ b), lQ (vQ a % vQ b))) ∧ (¬(b.length : Int) = 1 → ¬(b.length : Int) = 1 ∧ Fits .i64 ((b.length : Int) - 1) ∧ (0 ≤ (b.length : Int) - 1 ∧ (b.length : Int) - 1 < (b.length : Int)) ∧ (0 ≤ b.getD ((b.length : Int) - 1).toNat 0 ∧ b.getD ((b.length : Int) - 1).toNat (0 : Int) < 4294967296) ∧ Fits .i64 ((b.length : Int) + 1) ∧ (0 ≤ (b.length : Int) + 1 ∧ (b.length : Int) + 1 ≤ (b.length : Int) + 1 ∧ Small ((b.length : Int) + 1).toNat) ∧ (∃ (x0 : Nat), x0 ≤ b.length ∧ (replicate ((b.length : Int) + 1).toNat 0 = dQ (vQ (take x0 b) * 2 ^ (32 - len32 (b.getD ((b.length : Int) - 1).toNat 0)).toNat) (x0 + 1) ++ replicate (b.length - x0) 0 ∧ True) ∧ 0 = (x0 : Int) ∧ (b.length : Int) = (b.length : Int) ∧ b = b ∧ True ∧ b = b ∧ 32 - len32 (b.getD ((b.length : Int) - 1).toNat 0) = 32 - len32 (b.getD ((b.length : Int) - 1).toNat 0) ∧ True) ∧ ∀ (x : Nat), x ≤ b.length → ((x : Int) < (b.length : Int) → (x : Int) < (b.length : Int) ∧ (0 ≤ (x : Int) ∧ (x : Int) < (b.length : Int)) ∧ ((0 : Int) ≤ 32 - len32 (b.getD ((b.length : Int) - 1).toNat 0) ∧ 32 - len32 (b.getD ((b.length : Int) - 1).toNat 0) < 64) ∧ (0 ≤ (x : Int) ∧ (x : Int) < (↑(dQ (vQ (take x b) * 2 ^ (32 - len32 (b.getD ((b.length : Int) - 1).toNat 0)).toNat) (x + 1) ++ replicate (b.length - x) 0).length : Int)) ∧ (0 ≤ (x : Int) ∧ (x : Int) < (↑(dQ (vQ (take x b) * 2 ^ (32 - len32 (b.getD ((b.length : Int) - 1).toNat 0)).toNat) (x + 1) ++ replicate (b.length - x) 0).length : Int)) ∧ Fits .i64 ((x : Int) + 1) ∧ ((0 : Int) ≤ 32 ∧ (32 : Int) < 64) ∧ (0 ≤ (x : Int) + 1 ∧ (x : Int) + 1 < (↑((dQ (vQ (take x b) * 2 ^ (32 - len32 (b.getD ((b.length : Int) - 1).toNat 0)).toNat) (x + 1) ++ replicate (b.length - x) 0).set (x : Int).toNat (bitsF .or .u32 ((dQ (vQ (take x b) * 2 ^ (32 - len32 (b.getD ((b.length : Int) - 1).toNat 0)).toNat) (x + 1) ++ replicate (b.length - x) 0).getD (x : Int).toNat 0) (u32.wrap (u64.wrap (u64.wrap (b.getD (x : Int).toNat 0) * 2 ^ (32 - len32 (b.getD ((b.length : Int) - 1).toNat 0)).toNat))))).length : Int)) ∧ Fits .i64 ((x : Int) + 1) ∧ ∃ (x' : Nat), x' ≤ b.length ∧ b.length - x' < b.length - x ∧ (((dQ (vQ (take x b) * 2 ^ (32 - len32 (b.getD ((b.length : Int) - 1).toNat 0)).toNat) (x + 1) ++ replicate (b.length - x) 0).set (x : Int).toNat (bitsF .or .u32 ((dQ (vQ (take x b) * 2 ^ (32 - len32 (b.getD ((b.length : Int) - 1).toNat 0)).toNat) (x + 1) ++ replicate (b.length - x) 0).getD (x : Int).toNat 0) (u32.wrap (u64.wrap (u64.wrap (b.getD (x : Int).toNat 0) * 2 ^ (32 - len32 (b.getD ((b.length : Int) - 1).toNat 0)).toNat))))).set ((x : Int) + 1).toNat (u32.wrap (u64.wrap (u64.wrap (b.getD (x : Int).toNat 0) * 2 ^ (32 - len32 (b.getD ((b.length : Int) - 1).toNat 0)).toNat) / 2 ^ Int.toNat 32)) = dQ (vQ (take x' b) * 2 ^ (32 - len32 (b.getD ((b.length : Int) - 1).toNat 0)).toNat) (x' + 1) ++ replicate (b.length - x') 0 ∧ True) ∧ (x : Int) + 1 = (x' : Int) ∧ (b.length : Int) = (b.length : Int) ∧ b = b ∧ True ∧ b = b ∧ 32 - len32 (b.getD ((b.length : Int) - 1).toNat 0) = 32 - len32 (b.getD ((b.length : Int) - 1).toNat 0) ∧ True) ∧ (¬(x : Int) < (b.length : Int) → ¬(x : Int) < (b.length : Int) ∧ (dQ (vQ (take x b) * 2 ^ (32 - len32 (b.getD ((b.length : Int) - 1).toNat 0)).toNat) (x + 1) ++ replicate (b.length - x) 0).length ≤ (1000000 : Nat) ∧ Fits .i64 ((a.length : Int) + 1) ∧ (0 ≤ (a.length : Int) + 1 ∧ (a.length : Int) + 1 ≤ (a.length : Int) + 1 ∧ Small ((a.length : Int) + 1).toNat) ∧ (∃ (x0 : Nat), x0 ≤ a.length ∧ (True ∧ replicate ((a.length : Int) + 1).toNat 0 = dQ (vQ (take x0 a) * 2 ^ (32 - len32 (b.getD ((b.length : Int) - 1).toNat 0)).toNat) (x0 + 1) ++ replicate (a.length - x0) 0 ∧ True) ∧ 0 = (x0 : Int) ∧ (a.length : Int) = (a.length : Int) ∧ a = a ∧ True ∧ a = a ∧ 32 - len32 (b.getD ((b.length : Int) - 1).toNat 0) = 32 - len32 (b.getD ((b.length : Int) - 1).toNat 0) ∧ True) ∧ ∀ (x_1 : Nat), x_1 ≤ a.length → ((x_1 : Int) < (a.length : Int) → (x_1 : Int) < (a.length : Int) ∧ (0 ≤ (x_1 : Int) ∧ (x_1 : Int) < (a.length : Int)) ∧ ((0 : Int) ≤ 32 - len32 (b.getD ((b.length : Int) - 1).toNat 0) ∧ 32 - len32 (b.getD ((b.length : Int) - 1).toNat 0) < 64) ∧ (0 ≤ (x_1 : Int) ∧ (x_1 : Int) < (↑(dQ (vQ (take x_1 a) * 2 ^ (32 - len32 (b.getD ((b.length : Int) - 1).toNat 0)).toNat) (x_1 + 1) ++ replicate (a.length - x_1) 0).length : Int)) ∧ (0 ≤ (x_1 : Int) ∧ (x_1 : Int) < (↑(dQ (vQ (take x_1 a) * 2 ^ (32 - len32 (b.getD ((b.length : Int) - 1).toNat 0)).toNat) (x_1 + 1) ++ replicate (a.length - x_1) 0).length : Int)) ∧ Fits .i64 ((x_1 : Int) + 1) ∧ ((0 : Int) ≤ 32 ∧ (32 : Int) < 64) ∧ (0 ≤ (x_1 : Int) + 1 ∧ (x_1 : Int) + 1 < (↑((dQ (vQ (take x_1 a) * 2 ^ (32 - len32 (b.getD ((b.length : Int) - 1).toNat 0)).toNat) (x_1 + 1) ++ replicate (a.length - x_1) 0).set (x_1 : Int).toNat (bitsF .or .u32 ((dQ (vQ (take x_1 a) * 2 ^ (32 - len32 (b.getD ((b.length : Int) - 1).toNat 0)).toNat) (x_1 + 1) ++ replicate (a.length - x_1) 0).getD (x_1 : Int).toNat 0) (u32.wrap (u64.wrap (u64.wrap (a.getD (x_1 : Int).toNat 0) * 2 ^ (32 - len32 (b.getD ((b.length : Int) - 1).toNat 0)).toNat))))).length : Int)) ∧ Fits .i64 ((x_1 : Int) + 1) ∧ ∃ (x' : Nat), x' ≤ a.length ∧ a.length - x' < a.length - x_1 ∧ (True ∧ ((dQ (vQ (take x_1 a) * 2 ^ (32 - len32 (b.getD ((b.length : Int) - 1).toNat 0)).toNat) (x_1 + 1) ++ replicate (a.length - x_1) 0).set (x_1 : Int).toNat (bitsF .or .u32 ((dQ (vQ (take x_1 a) * 2 ^ (32 - len32 (b.getD ((b.length : Int) - 1).toNat 0)).toNat) (x_1 + 1) ++ replicate (a.length - x_1) 0).getD (x_1 : Int).toNat 0) (u32.wrap (u64.wrap (u64.wrap (a.getD (x_1 : Int).toNat 0) * 2 ^ (32 - len32 (b.getD ((b.length : Int) - 1).toNat 0)).toNat))))).set ((x_1 : Int) + 1).toNat (u32.wrap (u64.wrap (u64.wrap (a.getD (x_1 : Int).toNat 0) * 2 ^ (32 - len32 (b.getD ((b.length : Int) - 1).toNat 0)).toNat) / 2 ^ Int.toNat 32)) = dQ (vQ (take x' a) * 2 ^ (32 - len32 (b.getD ((b.length : Int) - 1).toNat 0)).toNat) (x' + 1) ++ replicate (a.length - x') 0 ∧ True) ∧ (x_1 : Int) + 1 = (x' : Int) ∧ (a.length : Int) = (a.length : Int) ∧ a = a ∧ True ∧ a = a ∧ 32 - len32 (b.getD ((b.length : Int) - 1).toNat 0) = 32 - len32 (b.getD ((b.length : Int) - 1).toNat 0) ∧ True) ∧ (¬(x_1 : Int) < (a.length : Int) → ¬(x_1 : Int) < (a.length : Int) ∧ Fits .i64 ((a.length : Int) - (↑(trimF (dQ (vQ (take x b) * 2 ^ (32 - len32 (b.getD ((b.length : Int) - 1).toNat 0)).toNat) (x + 1) ++ replicate (b.length - x) 0)).length : Int)) ∧ Fits .i64 ((a.length : Int) - (↑(trimF (dQ (vQ (take x b) * 2 ^ (32 - len32 (b.getD ((b.length : Int) - 1).toNat 0)).toNat) (x + 1) ++ replicate (b.length - x) 0)).length : Int) + 1) ∧ (0 ≤ (a.length : Int) - (↑(trimF (dQ (vQ (take x b) * 2 ^ (32 - len32 (b.getD ((b.length : Int) - 1).toNat 0)).toNat) (x + 1) ++ replicate (b.length - x) 0)).length : Int) + 1 ∧ (a.length : Int) - (↑(trimF (dQ (vQ (take x b) * 2 ^ (32 - len32 (b.getD ((b.length : Int) - 1).toNat 0)).toNat) (x + 1) ++ replicate (b.length - x) 0)).length : Int) + 1 ≤ (a.length : Int) - (↑(trimF (dQ (vQ (take x b) * 2 ^ (32 - len32 (b.getD ((b.length : Int) - 1).toNat 0)).toNat) (x + 1) ++ replicate (b.length - x) 0)).length : Int) + 1 ∧ Small ((a.length : Int) - (↑(trimF (dQ (vQ (take x b) * 2 ^ (32 - len32 (b.getD ((b.length : Int) - 1).toNat 0)).toNat) (x + 1) ++ replicate (b.length - x) 0)).length : Int) + 1).toNat) ∧ Fits .i64 ((a.length : Int) - (↑(trimF (dQ (vQ (take x b) * 2 ^ (32 - len32 (b.getD ((b.length : Int) - 1).toNat 0)).toNat) (x + 1) ++ replicate (b.length - x) 0)).length : Int)) ∧ (∃ (x0 : Nat), x0 ≤ a.length + 1 - (trimF (dQ (vQ (take x b) * 2 ^ (32 - len32 (b.getD ((b.length : Int) - 1).toNat 0)).toNat) (x + 1) ++ replicate (b.length - x) 0)).length ∧ (True ∧ dQ (vQ (take x_1 a) * 2 ^ (32 - len32 (b.getD ((b.length : Int) - 1).toNat 0)).toNat) (x_1 + 1) ++ replicate (a.length - x_1) 0 = dQ (pR (vQ a * 2 ^ (32 - len32 (b.getD ((b.length : Int) - 1).toNat 0)).toNat) (vQ (trimF (dQ (vQ (take x b) * 2 ^ (32 - len32 (b.getD ((b.length : Int) - 1).toNat 0)).toNat) (x + 1) ++ replicate (b.length - x) 0))) (a.length + 1 - (trimF (dQ (vQ (take x b) * 2 ^ (32 - len32 (b.getD ((b.length : Int) - 1).toNat 0)).toNat) (x + 1) ++ replicate (b.length - x) 0)).length - x0)) (a.length + 1) ∧ replicate ((a.length : Int) - (↑(trimF (dQ (vQ (take x b) * 2 ^ (32 - len32 (b.getD ((b.length : Int) - 1).toNat 0)).toNat) (x + 1) ++ replicate (b.length - x) 0)).length : Int) + 1).toNat 0 = replicate (a.length + 1 - (trimF (dQ (vQ (take x b) * 2 ^ (32 - len32 (b.getD ((b.length : Int) - 1).toNat 0)).toNat) (x + 1) ++ replicate (b.length - x) 0)).length - x0) 0 ++ dQ (pQ (vQ a * 2 ^ (32 - len32 (b.getD ((b.length : Int) - 1).toNat 0)).toNat) (vQ (trimF (dQ (vQ (take x b) * 2 ^ (32 - len32 (b.getD ((b.length : Int) - 1).toNat 0)).toNat) (x + 1) ++ replicate (b.length - x) 0))) (a.length + 1 - (trimF (dQ (vQ (take x b) * 2 ^ (32 - len32 (b.getD ((b.length : Int) - 1).toNat 0)).toNat) (x + 1) ++ replicate (b.length - x) 0)).length - x0)) x0 ∧ True) ∧ (a.length : Int) - (↑(trimF (dQ (vQ (take x b) * 2 ^ (32 - len32 (b.getD ((b.length : Int) - 1).toNat 0)).toNat) (x + 1) ++ replicate (b.length - x) 0)).length : Int) = (a.length : Int) - (↑(trimF (dQ (vQ (take x b) * 2 ^ (32 - len32 (b.getD ((b.length : Int) - 1).toNat 0)).toNat) (x + 1) ++ replicate (b.length - x) 0)).length : Int) - (x0 : Int) ∧ True ∧ (↑(trimF (dQ (vQ (take x b) * 2 ^ (32 - len32 (b.getD ((b.length : Int) - 1).toNat 0)).toNat) (x + 1) ++ replicate (b.length - x) 0)).length : Int) = (↑(trimF (dQ (vQ (take x b) * 2 ^ (32 - len32 (b.getD ((b.length : Int) - 1).toNat 0)).toNat) (x + 1) ++ replicate (b.length - x) 0)).length : Int) ∧ True ∧ trimF (dQ (vQ (take x b) * 2 ^ (32 - len32 (b.getD ((b.length : Int) - 1).toNat 0)).toNat) (x + 1) ++ replicate (b.length - x) 0) = trimF (dQ (vQ (take x b) * 2 ^ (32 - len32 (b.getD ((b.length : Int) - 1).toNat 0)).toNat) (x + 1) ++ replicate (b.length - x) 0) ∧ 32 - len32 (b.getD ((b.length : Int) - 1).toNat 0) = 32 - len32 (b.getD ((b.length : Int) - 1).toNat 0) ∧ True) ∧ ∀ (x_2 : Nat), x_2 ≤ a.length + 1 - (trimF (dQ (vQ (take x b) * 2 ^ (32 - len32 (b.getD ((b.length : Int) - 1).toNat 0)).toNat) (x + 1) ++ replicate (b.length - x) 0)).length → (Kg107 a b x x_2) ∧ (¬0 ≤ (a.length : Int) - (↑(trimF (dQ (vQ (take x b) * 2 ^ (32 - len32 (b.getD ((b.length : Int) - 1).toNat 0)).toNat) (x + 1) ++ replicate (b.length - x) 0)).length : Int) - (x_2 : Int) → ¬0 ≤ (a.length : Int) - (↑(trimF (dQ (vQ (take x b) * 2 ^ (32 - len32 (b.getD ((b.length : Int) - 1).toNat 0)).toNat) (x + 1) ++ replicate (b.length - x) 0)).length : Int) - (x_2 : Int) ∧ (0 ≤ (↑(trimF (dQ (vQ (take x b) * 2 ^ (32 - len32 (b.getD ((b.length : Int) - 1).toNat 0)).toNat) (x + 1) ++ replicate (b.length - x) 0)).length : Int) ∧ (↑(trimF (dQ (vQ (take x b) * 2 ^ (32 - len32 (b.getD ((b.length : Int) - 1).toNat 0)).toNat) (x + 1) ++ replicate (b.length - x) 0)).length : Int) ≤ (↑(dQ (pR (vQ a * 2 ^ (32 - len32 (b.getD ((b.length : Int) - 1).toNat 0)).toNat) (vQ (trimF (dQ (vQ (take x b) * 2 ^ (32 - len32 (b.getD ((b.length : Int) - 1).toNat 0)).toNat) (x + 1) ++ replicate (b.length - x) 0))) (a.length + 1 - (trimF (dQ (vQ (take x b) * 2 ^ (32 - len32 (b.getD ((b.length : Int) - 1).toNat 0)).toNat) (x + 1) ++ replicate (b.length - x) 0)).length - x_2)) (a.length + 1)).length : Int)) ∧ (replicate (a.length + 1 - (trimF (dQ (vQ (take x b) * 2 ^ (32 - len32 (b.getD ((b.length : Int) - 1).toNat 0)).toNat) (x + 1) ++ replicate (b.length - x) 0)).length - x_2) 0 ++ dQ (pQ (vQ a * 2 ^ (32 - len32 (b.getD ((b.length : Int) - 1).toNat 0)).toNat) (vQ (trimF (dQ (vQ (take x b) * 2 ^ (32 - len32 (b.getD ((b.length : Int) - 1).toNat 0)).toNat) (x + 1) ++ replicate (b.length - x) 0))) (a.length + 1 - (trimF (dQ (vQ (take x b) * 2 ^ (32 - len32 (b.getD ((b.length : Int) - 1).toNat 0)).toNat) (x + 1) ++ replicate (b.length - x) 0)).length - x_2)) x_2).length ≤ (1000000 : Nat) ∧ (take (↑(trimF (dQ (vQ (take x b) * 2 ^ (32 - len32 (b.getD ((b.length : Int) - 1).toNat 0)).toNat) (x + 1) ++ replicate (b.length - x) 0)).length : Int).toNat (dQ (pR (vQ a * 2 ^ (32 - len32 (b.getD ((b.length : Int) - 1).toNat 0)).toNat) (vQ (trimF (dQ (vQ (take x b) * 2 ^ (32 - len32 (b.getD ((b.length : Int) - 1).toNat 0)).toNat) (x + 1) ++ replicate (b.length - x) 0))) (a.length + 1 - (trimF (dQ (vQ (take x b) * 2 ^ (32 - len32 (b.getD ((b.length : Int) - 1).toNat 0)).toNat) (x + 1) ++ replicate (b.length - x) 0)).length - x_2)) (a.length + 1))).length ≤ (1000000 : Nat) ∧ ((∀ (x_3 : Int), x_3 ∈ trimF (take (↑(trimF (dQ (vQ (take x b) * 2 ^ (32 - len32 (b.getD ((b.length : Int) - 1).toNat 0)).toNat) (x + 1) ++ replicate (b.length - x) 0)).length : Int).toNat (dQ (pR (vQ a * 2 ^ (32 - len32 (b.getD ((b.length : Int) - 1).toNat 0)).toNat) (vQ (trimF (dQ (vQ (take x b) * 2 ^ (32 - len32 (b.getD ((b.length : Int) - 1).toNat 0)).toNat) (x + 1) ++ replicate (b.length - x) 0))) (a.length + 1 - (trimF (dQ (vQ (take x b) * 2 ^ (32 - len32 (b.getD ((b.length : Int) - 1).toNat 0)).toNat) (x + 1) ++ replicate (b.length - x) 0)).length - x_2)) (a.length + 1))) → 0 ≤ x_3 ∧ x_3 < 4294967296) ∧ (trimF (take (↑(trimF (dQ (vQ (take x b) * 2 ^ (32 - len32 (b.getD ((b.length : Int) - 1).toNat 0)).toNat) (x + 1) ++ replicate (b.length - x) 0)).length : Int).toNat (dQ (pR (vQ a * 2 ^ (32 - len32 (b.getD ((b.length : Int) - 1).toNat 0)).toNat) (vQ (trimF (dQ (vQ (take x b) * 2 ^ (32 - len32 (b.getD ((b.length : Int) - 1).toNat 0)).toNat) (x + 1) ++ replicate (b.length - x) 0))) (a.length + 1 - (trimF (dQ (vQ (take x b) * 2 ^ (32 - len32 (b.getD ((b.length : Int) - 1).toNat 0)).toNat) (x + 1) ++ replicate (b.length - x) 0)).length - x_2)) (a.length + 1)))).length ≤ (100000 : Nat) ∧ (0 : Int) ≤ 32 - len32 (b.getD ((b.length : Int) - 1).toNat 0) ∧ 32 - len32 (b.getD ((b.length : Int) - 1).toNat 0) < 32) ∧ (trimF (replicate (a.length + 1 - (trimF (dQ (vQ (take x b) * 2 ^ (32 - len32 (b.getD ((b.length : Int) - 1).toNat 0)).toNat) (x + 1) ++ replicate (b.length - x) 0)).length - x_2) 0 ++ dQ (pQ (vQ a * 2 ^ (32 - len32 (b.getD ((b.length : Int) - 1).toNat 0)).toNat) (vQ (trimF (dQ (vQ (take x b) * 2 ^ (32 - len32 (b.getD ((b.length : Int) - 1).toNat 0)).toNat) (x + 1) ++ replicate (b.length - x) 0))) (a.length + 1 - (trimF (dQ (vQ (take x b) * 2 ^ (32 - len32 (b.getD ((b.length : Int) - 1).toNat 0)).toNat) (x + 1) ++ replicate (b.length - x) 0)).length - x_2)) x_2), lQ (vQ (trimF (take (↑(trimF (dQ (vQ (take x b) * 2 ^ (32 - len32 (b.getD ((b.length : Int) - 1).toNat 0)).toNat) (x + 1) ++ replicate (b.length - x) 0)).length : Int).toNat (dQ (pR (vQ a * 2 ^ (32 - len32 (b.getD ((b.length : Int) - 1).toNat 0)).toNat) (vQ (trimF (dQ (vQ (take x b) * 2 ^ (32 - len32 (b.getD ((b.length : Int) - 1).toNat 0)).toNat) (x + 1) ++ replicate (b.length - x) 0))) (a.length + 1 - (trimF (dQ (vQ (take x b) * 2 ^ (32 - len32 (b.getD ((b.length : Int) - 1).toNat 0)).toNat) (x + 1) ++ replicate (b.length - x) 0)).length - x_2)) (a.length + 1)))) / 2 ^ (32 - len32 (b.getD ((b.length : Int) - 1).toNat 0)).toNat)) = (lQ (vQ a / vQ b), lQ (vQ a % vQ b)))))))) := by kernel_rfl
end Go.SX.We.Nm

/- Chapter 08: quotient and remainder of sizes, proved. -/
namespace Go.SX.We.Nm
open Go Go.Proofs
theorem tb_pow_all : ((List.range 256).all fun n => decide (((n : Int) + 1) * 2 ^ (8 - tb8 (n : Int)).toNat ≤ 256)) = true := by kernel_rfl
theorem tb_pow {t : Int} (h0 : 0 ≤ t) (h1 : t < 256) : (t + 1) * 2 ^ (8 - tb8 t).toNat ≤ 256 := by
  have := List.all_eq_true.1 tb_pow_all t.toNat (List.mem_range.2 (by omega))
  have h : ((t.toNat : Int) + 1) * 2 ^ (8 - tb8 (t.toNat : Int)).toNat ≤ 256 := of_decide_eq_true this
  have e : ((t.toNat : Nat) : Int) = t := Int.toNat_of_nonneg h0
  rw [e] at h
  exact h
theorem len32_pow {x : Int} (h0 : 0 ≤ x) (h1 : x < 4294967296) : (x + 1) * 2 ^ (32 - len32 x).toNat ≤ 4294967296 := by
  have key : ∀ (y M : Int) (k : Nat), 0 ≤ y → y < 256 → 2 ^ k * M = 16777216 → 0 < M → (x + 1) ≤ (y + 1) * M → len32 x = 24 - k + tb8 y → (x + 1) * 2 ^ (32 - len32 x).toNat ≤ 4294967296 := by
    intro y M k y0 y1 hM hM0 hx hl
    have b := tb_bound y
    have t := tb_pow y0 y1
    have e : (32 - len32 x).toNat = (8 - tb8 y).toNat + k := by omega
    rw [e, Int.pow_add]
    obtain ⟨p, hp⟩ : ∃ p : Int, p = 2 ^ (8 - tb8 y).toNat := ⟨_, rfl⟩
    obtain ⟨q, hq⟩ : ∃ q : Int, q = 2 ^ k := ⟨_, rfl⟩
    have p0 : 0 < p := by rw [hp]; exact pow_pos' (by decide) _
    have q0 : 0 < q := by rw [hq]; exact pow_pos' (by decide) _
    rw [← hp] at t ⊢
    rw [← hq] at hM ⊢
    have a1 : (x + 1) * (p * q) ≤ (y + 1) * M * (p * q) := Int.mul_le_mul_of_nonneg_right hx (Int.le_of_lt (Int.mul_pos p0 q0))
    have a2 : (y + 1) * M * (p * q) = (y + 1) * p * 16777216 := by
      rw [← hM, Int.mul_assoc, Int.mul_assoc, Int.mul_left_comm M, Int.mul_comm M]
    omega
  by_cases h : x ≥ 65536
  · by_cases h2 : x / 65536 ≥ 256
    · exact key (x / 65536 / 256) 16777216 0 (by omega) (by omega) (by decide) (by decide) (by omega) (by rw [len32, if_pos h, if_pos h2]; rfl)
    · exact key (x / 65536) 65536 8 (by omega) (by omega) (by decide) (by decide) (by omega) (by rw [len32, if_pos h, if_neg h2]; rfl)
  · by_cases h2 : x ≥ 256
    · exact key (x / 256) 256 16 (by omega) (by omega) (by decide) (by decide) (by omega) (by rw [len32, if_neg h, if_pos h2]; rfl)
    · exact key x 1 24 (by omega) (by omega) (by decide) (by decide) (by omega) (by rw [len32, if_neg h, if_neg h2]; omega)
theorem vc107 {a b : List Int} (ha : CanF 4294967296 a) (hb : CanF 4294967296 b) (la : a.length ≤ 90000) (lb : b.length ≤ 90000) (hb1 : 1 ≤ b.length) : g107 a b := by
  refine (g107_eq a b).mpr ?_
  have n1 : ((b.length : Int) - 1).toNat = b.length - 1 := by omega
  have n0 : Int.toNat 0 = 0 := rfl
  have t1 : ∀ x : Nat, ((x : Int) + 1).toNat = x + 1 := fun x => by omega
  simp only [Kg107, vQ, dQ, lQ, pp1, eq_self, and_true, true_and, and_self, Int.toNat_natCast, n1, n0, t1, e32, List.length_set, List.length_append, digs_len, List.length_replicate]
  have ft := figs_getD cw0 hb.1 (b.length - 1)
  have ht := can_last hb hb1
  have hlb := len32_bound ft.1 ft.2
  have hpw := len32_pow ft.1 ft.2
  obtain ⟨s, hs⟩ : ∃ s, s = 32 - len32 (b.getD (b.length - 1) 0) := ⟨_, rfl⟩
  simp only [← hs] at hpw ⊢
  have s0 : 0 ≤ s := by omega
  have s1 : s < 32 := by omega
  clear hs hlb
  obtain ⟨m, rfl⟩ := Int.eq_ofNat_of_zero_le s0
  simp only [Int.toNat_natCast] at hpw ⊢
  have hm : m < 32 := by omega
  have ra := val_range cw0 ha.1
  have rb := can_pos cw0 hb (by intro e; rw [e] at hb1; simp at hb1)
  have hcmp := cmpN_sgn cw0 ha hb
  refine ⟨⟨by omega, by omega⟩, fun c => ⟨sm (by omega), ?_⟩, fun c => ⟨fun h1 => ?_, fun h1 => ?_⟩⟩
  · have : valF 4294967296 a < valF 4294967296 b := by
      rw [hcmp, sgnF] at c
      by_cases h : valF 4294967296 a - valF 4294967296 b < 0
      · omega
      · rw [if_neg h] at c
        by_cases h' : valF 4294967296 a - valF 4294967296 b = 0
        · rw [if_pos h'] at c; omega
        · rw [if_neg h'] at c; omega
    rw [Int.ediv_eq_zero_of_lt ra.1 this, Int.emod_eq_of_lt ra.1 this, lim_val cw2 ha]; rfl
  · have eb : b = [b.getD 0 0] := by
      match b, h1 with
      | [x], _ => rfl
    have hl1 : b.length - 1 = 0 := by omega
    rw [hl1] at ft ht
    have ev : valF 4294967296 b = b.getD 0 0 := by conv => lhs; rw [eb]
                                                   simp [valF]
    refine ⟨by omega, ⟨ha.1, by omega, by omega, ft.2⟩, by omega, ?_⟩
    rw [ev]
    have m0 : 0 ≤ valF 4294967296 a % b.getD 0 0 := Int.emod_nonneg _ (by omega)
    have m1 : valF 4294967296 a % b.getD 0 0 < b.getD 0 0 := Int.emod_lt_of_pos _ (by omega)
    rw [trim_lim cw2 (xs := [valF 4294967296 a % b.getD 0 0]) (by intro x hx; rw [List.mem_singleton.1 hx]; exact ⟨m0, by omega⟩)]
    congr 2; simp [valF]
  · have hlb2 : 2 ≤ b.length := by omega
    have hle : valF 4294967296 b ≤ valF 4294967296 a := by
      rw [hcmp, sgnF] at c
      by_cases h : valF 4294967296 a - valF 4294967296 b < 0
      · rw [if_pos h] at c; omega
      · omega
    have hlen := len_of_le ha.1 hb hb1 hle
    have up0 : ∀ l : List Int, List.replicate (l.length + 1) 0 = digs 4294967296 (valF 4294967296 (List.take 0 l) * 2 ^ m) (0 + 1) ++ List.replicate (l.length - 0) 0 := fun l => by simp [valF, digs, List.replicate_succ]
    refine ⟨fj (by omega) (by omega), by omega, ft, fj (by omega) (by omega), ⟨by omega, by omega, sm (by omega)⟩, ⟨0, by omega, up0 b, rfl⟩, fun x hx => ⟨fun h4 => ⟨by omega, by omega, by omega, by omega, fj (by omega) (by omega), by omega, by omega, fj (by omega) (by omega), x + 1, by omega, by omega, up_step hb.1 hm (by omega), by omega⟩, fun h4 => ?_⟩⟩
    have hx' : x = b.length := by omega
    subst hx'
    refine ⟨by omega, fj (by omega) (by omega), ⟨by omega, by omega, sm (by omega)⟩, ⟨0, by omega, up0 a, rfl⟩, fun x hx => ⟨fun h4 => ⟨by omega, by omega, by omega, by omega, fj (by omega) (by omega), by omega, by omega, fj (by omega) (by omega), x + 1, by omega, by omega, up_step ha.1 hm (by omega), by omega⟩, fun h4 => ?_⟩⟩
    have hx' : x = a.length := by omega
    subst hx'
    clear h4 hx
    obtain ⟨u1, u2⟩ := top_up hb hb1 (s := m) hpw
    obtain ⟨V, hV⟩ : ∃ V, V = valF 4294967296 b * 2 ^ m := ⟨_, rfl⟩
    obtain ⟨A, hA⟩ : ∃ A, A = valF 4294967296 a * 2 ^ m := ⟨_, rfl⟩
    have p2 := pow_pos' (b := 2) (by decide) m
    have p0 := pow_pos' cw0 (b.length - 1)
    rw [← hV] at u1 u2
    have hV0 : 0 < V := by omega
    have hA0 : 0 ≤ A := by rw [hA]; exact Int.mul_nonneg ra.1 (by omega)
    have eT : trimF (digs 4294967296 (valF 4294967296 (List.take b.length b) * 2 ^ m) (b.length + 1) ++ List.replicate (b.length - b.length) 0) = lim 4294967296 V := by
      rw [Nat.sub_self, List.replicate_zero, List.append_nil, List.take_length, ← hV]
      refine (lim_digs cw2 (by omega) ?_).symm
      have : (4294967296 : Int) ^ b.length ≤ 4294967296 ^ (b.length + 1) := pow_mono' cw0 (by omega)
      omega
    have hTl : (lim 4294967296 V).length = b.length := by
      have := lim_len_eq (z := V) (n := b.length - 1) u1 (by rw [show b.length - 1 + 1 = b.length by omega]; exact u2)
      omega
    have hTc : CanF 4294967296 (lim 4294967296 V) := lim_can cw2 (by omega)
    have hTv : valF 4294967296 (lim 4294967296 V) = V := val_lim cw2 (by omega)
    rw [Nat.sub_self, List.replicate_zero, List.append_nil] at eT
    simp only [Nat.sub_self, List.replicate_zero, List.append_nil, eT, hTl, hTv, ← hA]
    simp only [List.take_length, ← hA]
    have hAlt : A < V * 4294967296 ^ (a.length + 1 - b.length) := by
      have a1 : A < 4294967296 ^ a.length * 2 ^ m := by rw [hA]; exact Int.mul_lt_mul_of_pos_right ra.2 p2
      have a2 : (4294967296 : Int) ^ a.length = 4294967296 ^ (b.length - 1) * 4294967296 ^ (a.length + 1 - b.length) := by rw [← Int.pow_add]; congr 1; omega
      have hlow := can_low cw0 hb (n := b.length - 1) (by omega)
      have pr := pow_pos' cw0 (a.length + 1 - b.length)
      have a3 : 4294967296 ^ (b.length - 1) * (2 ^ m * 4294967296 ^ (a.length + 1 - b.length)) ≤ valF 4294967296 b * (2 ^ m * 4294967296 ^ (a.length + 1 - b.length)) := Int.mul_le_mul_of_nonneg_right hlow (Int.le_of_lt (Int.mul_pos p2 pr))
      rw [hV, Int.mul_assoc]
      rw [a2, Int.mul_right_comm, Int.mul_assoc] at a1
      omega
    obtain ⟨f1, f2⟩ := part_first hA0 hAlt
    have z1 : ((a.length : Int) - b.length + 1).toNat = a.length + 1 - b.length := by omega
    refine ⟨fj (by omega) (by omega), fj (by omega) (by omega), ⟨by omega, by omega, sm (by omega)⟩, fj (by omega) (by omega), ⟨0, by omega, ?_, by omega⟩, fun k hk => ⟨fun h4 => ?_, fun h4 => ?_⟩⟩
    · rw [Nat.sub_zero, f1, f2, z1]; exact ⟨rfl, by simp [digs]⟩
    · obtain ⟨i, hi⟩ : ∃ i, a.length + 1 - b.length - k = i + 1 := ⟨a.length - b.length - k, by omega⟩
      have z2 : ((a.length : Int) - b.length - k).toNat = i := by omega
      have z3 : ((a.length : Int) - b.length - k + b.length + 1 - ((a.length : Int) - b.length - k)).toNat = b.length + 1 := by omega
      have z4 : a.length + 1 - b.length - (k + 1) = i := by omega
      obtain ⟨⟨q1, q2⟩, q3, q4⟩ := part_step (A := A) (V := V) (v := lim 4294967296 V) (la := a.length) (i := i) (k := k) hA0 hTc hTv (by omega) (by omega)
      rw [hTl] at q3
      simp only [hi, z2, z3, true_and]
      refine ⟨fj (by omega) (by omega), fj (by omega) (by omega), ⟨by omega, by omega, by omega⟩, ⟨⟨digs_figs cw0 _ _, hTc.1⟩, ⟨by omega, by omega⟩, ⟨by omega, by omega⟩, q1, q2⟩, by omega, fj (by omega) (by omega), k + 1, by omega, by omega, ?_⟩
      rw [z4]
      exact ⟨⟨q3, q4⟩, by omega⟩
    · have hk' : k = a.length + 1 - b.length := by omega
      have z5 : a.length + 1 - b.length - k = 0 := by omega
      rw [z5]
      obtain ⟨l1, l2⟩ := part_last (la := a.length) (k := k) (n := b.length) hA0 hV0 (by rw [hk']; exact hAlt) u2 (by omega)
      have m0 : 0 ≤ A % V := Int.emod_nonneg _ (by omega)
      have m1 : A % V < V := Int.emod_lt_of_pos _ hV0
      rw [List.replicate_zero, List.nil_append, l1, l2, val_lim cw2 m0]
      have w1 : A / V = valF 4294967296 a / valF 4294967296 b := by rw [hA, hV, Int.mul_ediv_mul_of_pos_left _ _ p2]
      have w2 : A % V / 2 ^ m = valF 4294967296 a % valF 4294967296 b := by
        rw [hA, hV, Int.mul_comm, Int.mul_comm _ (2 ^ m), Int.mul_emod_mul_of_pos _ _ p2, Int.mul_ediv_cancel_left _ (by omega)]
      have hl := lim_len cw2 m0 (n := b.length) (by omega)
      refine ⟨by omega, by omega, by rw [List.length_take, digs_len]; omega, ⟨(lim_can cw2 m0).1, by omega, by omega, by omega⟩, ?_⟩
      rw [w1, w2]
theorem pick124_ok : ∀ args H K, pick124 args H K → ∃ x js, K x js := by
  intro args H K h
  unfold pick124 at h
  split at h
  · split at h
    · exact ⟨_, _, h⟩
    · exact h.elim
  · exact h.elim
theorem k123 : i123.OK Tryz.prog := inl_ok cx0z (by kernel_rfl) (by kernel_rfl) (by kernel_rfl)
theorem C107_ok : CtxOK Tryz.prog C107 := cx_ok (cs := [p84.ci, p91.ci, p82.ci, p122.ci, i123, c124.ci pick124, p125.ci]) ⟨PC.OK.ci ok84, PC.OK.ci ok91, PC.OK.ci ok82, PC.OK.ci ok122, k123, h124.ci (fun _ => ⟨trivial, trivial⟩) pick124_ok, PC.OK.ci ok125, trivial⟩ _
theorem ok107 : p107.OK Tryz.prog := p107.ok (fn := Tryz.f107) (fun _ => C107) (fun _ => C107_ok) (by kernel_rfl) (by kernel_rfl) (by kernel_rfl) fun _ hp => vc107 hp.1.1 hp.1.2 hp.2.1.1 hp.2.1.2 hp.2.2
end Go.SX.We.Nm

/- Chapter 08: num's integers, what is asked of each. -/
namespace Go.SX.We.Nm
open Go Go.Proofs
noncomputable section
@[reducible] def p81 : PC := ⟨81, [aB, aU], [aN], fun p => p.2.length ≤ 1000000, fun p => (p.1 && decide (0 < (p.2.length : Int)), p.2)⟩
def g81 (n : Bool) (m : List Int) : Prop := p81.VC (cx [] []) Tryz.f81 (n, m)
@[reducible] def p43 : PC := ⟨43, [aI], [aN], fun n => 0 ≤ n ∧ n ≤ 1000000, fun n => iN n⟩
def g43n (n : Int) : Prop := p43.VC (cx [p82.ci, p81.ci] []) Tryz.f43 n
@[reducible] def p86 : PC := ⟨86, [aN], [aN], OkN 500, fun p => iN (-(vN p))⟩
def g86 (n : Bool) (m : List Int) : Prop := p86.VC (cx [p81.ci] []) Tryz.f86 (n, m)
@[reducible] def p109 : PC := ⟨109, [aN], [aI], OkN 500, fun p => sgnF (vN p)⟩
def g109 (n : Bool) (m : List Int) : Prop := p109.VC (cx [] []) Tryz.f109 (n, m)
@[reducible] def p46 : PC := ⟨46, [aN, aN], [aN], fun p => OkN 500 p.1 ∧ OkN 500 p.2, fun p => iN (vN p.1 + vN p.2)⟩
def g46 (n1 : Bool) (m1 : List Int) (n2 : Bool) (m2 : List Int) : Prop := p46.VC (cx [p81.ci, p83.ci, p84.ci, p85.ci] []) Tryz.f46 ((n1, m1), (n2, m2))
@[reducible] def p108 : PC := ⟨108, [aN, aN], [aN], fun p => OkN 500 p.1 ∧ OkN 500 p.2, fun p => iN (vN p.1 - vN p.2)⟩
def g108 (n1 : Bool) (m1 : List Int) (n2 : Bool) (m2 : List Int) : Prop := p108.VC (cx [p46.ci, p86.ci] []) Tryz.f108 ((n1, m1), (n2, m2))
@[reducible] def p88 : PC := ⟨88, [aN, aN], [aI], fun p => OkN 400 p.1 ∧ OkN 400 p.2, fun p => sgnF (vN p.1 - vN p.2)⟩
def g88 (n1 : Bool) (m1 : List Int) (n2 : Bool) (m2 : List Int) : Prop := p88.VC (cx [p109.ci, p108.ci] []) Tryz.f88 ((n1, m1), (n2, m2))
@[reducible] def p48 : PC := ⟨48, [aN, aN], [aN], fun p => OkN 500 p.1 ∧ OkN 500 p.2, fun p => iN (vN p.1 * vN p.2)⟩
def g48 (n1 : Bool) (m1 : List Int) (n2 : Bool) (m2 : List Int) : Prop := p48.VC (cx [p81.ci, p90.ci] []) Tryz.f48 ((n1, m1), (n2, m2))
@[reducible] def p89 : PC := ⟨89, [aN, aN], [aN, aN], fun p => (OkN 500 p.1 ∧ OkN 500 p.2) ∧ 0 ≤ vN p.1 ∧ 0 < vN p.2, fun p => (iN (vN p.1 / vN p.2), iN (vN p.1 % vN p.2))⟩
def g89 (n1 : Bool) (m1 : List Int) (n2 : Bool) (m2 : List Int) : Prop := p89.VC (cx [p107.ci, p81.ci, p108.ci, p43.ci, p46.ci] []) Tryz.f89 ((n1, m1), (n2, m2))
@[reducible] def A87 (a b : Int) : Ann where
  τ := Int × Int
  pre := []
  preC := []
  keep := [4]
  slots x := [(5, .c (.ro (.int .u32) (lim 4294967296 x.1))), (6, .c (.ro (.int .u32) (lim 4294967296 x.2)))]
  ents _ := []
  ok x := (0 ≤ x.1 ∧ 0 ≤ x.2) ∧ (x.1 < 4294967296 ^ 500 ∧ x.2 < 4294967296 ^ 500) ∧ gcdI x.1 x.2 = gcdI a b
  m x := x.2.toNat
@[reducible] def p87 : PC := ⟨87, [aN, aN], [aN], fun p => (OkN 500 p.1 ∧ OkN 500 p.2) ∧ 0 ≤ vN p.1 ∧ 0 ≤ vN p.2, fun p => iN (gcdI (vN p.1) (vN p.2))⟩
def g87 (n1 : Bool) (m1 : List Int) (n2 : Bool) (m2 : List Int) : Prop := p87.VC (cx [p107.ci, p81.ci] [(0, fun _ => A87 (vN (n1, m1)) (vN (n2, m2)))]) Tryz.f87 ((n1, m1), (n2, m2))
end
end Go.SX.We.Nm

/- Printed by VC.lean: what the executor asks. -/
namespace Go.SX.We.Nm
open Go Go.Proofs IntKind List
theorem g81_eq (n : Bool) (m : List Int) : g81 n m = ((n = true → n = true ∧ n = true ∧ (decide (0 < (m.length : Int)), m) = (n && decide (0 < (m.length : Int)), m)) ∧ (n = false → n = false ∧ n = false ∧ (false, m) = (n && decide (0 < (m.length : Int)), m))) := by kernel_rfl
theorem g43n_eq (n : Int) : g43n n = ((n < 0 → n < 0 ∧ ((0 : Int) ≤ 32 ∧ (32 : Int) < 64) ∧ (0 : Nat) + 1 + 1 ≤ 1000000 ∧ (trimF [u32.wrap (u64.wrap (0 - u64.wrap n)), u32.wrap (u64.wrap (0 - u64.wrap n) / 2 ^ Int.toNat 32)]).length ≤ (1000000 : Nat) ∧ (decide (n < 0) && decide (0 < (↑(trimF [u32.wrap (u64.wrap (0 - u64.wrap n)), u32.wrap (u64.wrap (0 - u64.wrap n) / 2 ^ Int.toNat 32)]).length : Int)), trimF [u32.wrap (u64.wrap (0 - u64.wrap n)), u32.wrap (u64.wrap (0 - u64.wrap n) / 2 ^ Int.toNat 32)]) = iN n) ∧ (¬n < 0 → ¬n < 0 ∧ ((0 : Int) ≤ 32 ∧ (32 : Int) < 64) ∧ (0 : Nat) + 1 + 1 ≤ 1000000 ∧ (trimF [u32.wrap (u64.wrap n), u32.wrap (u64.wrap n / 2 ^ Int.toNat 32)]).length ≤ 1000000 ∧ (decide (n < 0) && decide (0 < (↑(trimF [u32.wrap (u64.wrap n), u32.wrap (u64.wrap n / 2 ^ Int.toNat 32)]).length : Int)), trimF [u32.wrap (u64.wrap n), u32.wrap (u64.wrap n / 2 ^ Int.toNat 32)]) = iN n)) := by kernel_rfl
theorem g86_eq (n : Bool) (m : List Int) : g86 n m = (m.length ≤ 1000000 ∧ (!n && decide (0 < (m.length : Int)), m) = iN (-vN (n, m))) := by kernel_rfl
theorem g109_eq (n : Bool) (m : List Int) : g109 n m = (((m.length : Int) = 0 → (m.length : Int) = 0 ∧ (m.length : Int) = 0 ∧ 0 = sgnF (vN (n, m))) ∧ (¬(m.length : Int) = 0 → ¬(m.length : Int) = 0 ∧ ¬(m.length : Int) = 0 ∧ (n = true → n = true ∧ n = true ∧ (-1) = sgnF (vN (n, m))) ∧ (n = false → n = false ∧ n = false ∧ 1 = sgnF (vN (n, m))))) := by kernel_rfl
theorem g46_eq (n1 : Bool) (m1 : List Int) (n2 : Bool) (m2 : List Int) : g46 n1 m1 n2 m2 = ((n1 = n2 → n1 = n2 ∧ n1 = n2 ∧ (((∀ (x : Int), x ∈ m1 → 0 ≤ x ∧ x < 4294967296) ∧ ∀ (x : Int), x ∈ m2 → 0 ≤ x ∧ x < 4294967296) ∧ m1.length ≤ 100000 ∧ m2.length ≤ 100000) ∧ (lim 4294967296 (valF 4294967296 m1 + valF 4294967296 m2)).length ≤ 1000000 ∧ (n1 && decide (0 < (↑(lim 4294967296 (valF 4294967296 m1 + valF 4294967296 m2)).length : Int)), lim 4294967296 (valF 4294967296 m1 + valF 4294967296 m2)) = iN (vN (n1, m1) + vN (n2, m2))) ∧ (¬n1 = n2 → ¬n1 = n2 ∧ ¬n1 = n2 ∧ (m1.length ≤ 1000000 ∧ m2.length ≤ 1000000) ∧ (0 ≤ cmpN m1 m2 → 0 ≤ cmpN m1 m2 ∧ 0 ≤ cmpN m1 m2 ∧ (((∀ (x : Int), x ∈ m1 → 0 ≤ x ∧ x < 4294967296) ∧ ∀ (x : Int), x ∈ m2 → 0 ≤ x ∧ x < 4294967296) ∧ (m1.length ≤ 100000 ∧ m2.length ≤ m1.length) ∧ valF 4294967296 m2 ≤ valF 4294967296 m1) ∧ (lim 4294967296 (valF 4294967296 m1 - valF 4294967296 m2)).length ≤ 1000000 ∧ (n1 && decide (0 < (↑(lim 4294967296 (valF 4294967296 m1 - valF 4294967296 m2)).length : Int)), lim 4294967296 (valF 4294967296 m1 - valF 4294967296 m2)) = iN (vN (n1, m1) + vN (n2, m2))) ∧ (¬0 ≤ cmpN m1 m2 → ¬0 ≤ cmpN m1 m2 ∧ ¬0 ≤ cmpN m1 m2 ∧ (((∀ (x : Int), x ∈ m2 → 0 ≤ x ∧ x < 4294967296) ∧ ∀ (x : Int), x ∈ m1 → 0 ≤ x ∧ x < 4294967296) ∧ (m2.length ≤ 100000 ∧ m1.length ≤ m2.length) ∧ valF 4294967296 m1 ≤ valF 4294967296 m2) ∧ (lim 4294967296 (valF 4294967296 m2 - valF 4294967296 m1)).length ≤ 1000000 ∧ (n2 && decide (0 < (↑(lim 4294967296 (valF 4294967296 m2 - valF 4294967296 m1)).length : Int)), lim 4294967296 (valF 4294967296 m2 - valF 4294967296 m1)) = iN (vN (n1, m1) + vN (n2, m2))))) := by kernel_rfl
theorem g108_eq (n1 : Bool) (m1 : List Int) (n2 : Bool) (m2 : List Int) : g108 n1 m1 n2 m2 = ((∃ (z : Int), (n2, m2) = intB 4294967296 z ∧ absI z < 4294967296 ^ 500) ∧ ((∃ (z : Int), (n1, m1) = intB 4294967296 z ∧ absI z < 4294967296 ^ 500) ∧ ∃ (z : Int), ((iN (-vN (n2, m2))).fst, (iN (-vN (n2, m2))).snd) = intB 4294967296 z ∧ absI z < 4294967296 ^ 500) ∧ ((iN (vN (n1, m1) + vN ((iN (-vN (n2, m2))).fst, (iN (-vN (n2, m2))).snd))).fst, (iN (vN (n1, m1) + vN ((iN (-vN (n2, m2))).fst, (iN (-vN (n2, m2))).snd))).snd) = iN (vN (n1, m1) - vN (n2, m2))) := by kernel_rfl
theorem g88_eq (n1 : Bool) (m1 : List Int) (n2 : Bool) (m2 : List Int) : g88 n1 m1 n2 m2 = (((∃ (z : Int), (n1, m1) = intB 4294967296 z ∧ absI z < 4294967296 ^ 500) ∧ ∃ (z : Int), (n2, m2) = intB 4294967296 z ∧ absI z < 4294967296 ^ 500) ∧ (∃ (z : Int), ((iN (vN (n1, m1) - vN (n2, m2))).fst, (iN (vN (n1, m1) - vN (n2, m2))).snd) = intB 4294967296 z ∧ absI z < 4294967296 ^ 500) ∧ sgnF (vN ((iN (vN (n1, m1) - vN (n2, m2))).fst, (iN (vN (n1, m1) - vN (n2, m2))).snd)) = sgnF (vN (n1, m1) - vN (n2, m2))) := by kernel_rfl
theorem g48_eq (n1 : Bool) (m1 : List Int) (n2 : Bool) (m2 : List Int) : g48 n1 m1 n2 m2 = ((((∀ (x : Int), x ∈ m1 → 0 ≤ x ∧ x < 4294967296) ∧ ∀ (x : Int), x ∈ m2 → 0 ≤ x ∧ x < 4294967296) ∧ m1.length ≤ 100000 ∧ m2.length ≤ 100000) ∧ (lim 4294967296 (valF 4294967296 m1 * valF 4294967296 m2)).length ≤ 1000000 ∧ (decide ¬n1 = n2 && decide (0 < (↑(lim 4294967296 (valF 4294967296 m1 * valF 4294967296 m2)).length : Int)), lim 4294967296 (valF 4294967296 m1 * valF 4294967296 m2)) = iN (vN (n1, m1) * vN (n2, m2))) := by kernel_rfl
def Qg89_1 (n1 : Bool) (m1 : List Int) (n2 : Bool) (m2 : List Int) : Prop := (0 < (↑(lim 4294967296 (valF 4294967296 m1 % valF 4294967296 m2)).length : Int) → 0 < (↑(lim 4294967296 (valF 4294967296 m1 % valF 4294967296 m2)).length : Int) ∧ 0 < (↑(lim 4294967296 (valF 4294967296 m1 % valF 4294967296 m2)).length : Int) ∧ (¬n1 = n2 → ¬n1 = n2 ∧ ¬n1 = n2 ∧ ((0 : Int) ≤ 1 ∧ (1 : Int) ≤ 1000000) ∧ ((∃ (z : Int), (decide ¬n1 = n2 && decide (0 < (↑(lim 4294967296 (valF 4294967296 m1 / valF 4294967296 m2)).length : Int)), lim 4294967296 (valF 4294967296 m1 / valF 4294967296 m2)) = intB 4294967296 z ∧ absI z < 4294967296 ^ 500) ∧ ∃ (z : Int), ((iN 1).fst, (iN 1).snd) = intB 4294967296 z ∧ absI z < 4294967296 ^ 500) ∧ ((∃ (z : Int), (n1 && decide (0 < (↑(lim 4294967296 (valF 4294967296 m1 % valF 4294967296 m2)).length : Int)), lim 4294967296 (valF 4294967296 m1 % valF 4294967296 m2)) = intB 4294967296 z ∧ absI z < 4294967296 ^ 500) ∧ ∃ (z : Int), (n2, m2) = intB 4294967296 z ∧ absI z < 4294967296 ^ 500) ∧ (((iN (vN (decide ¬n1 = n2 && decide (0 < (↑(lim 4294967296 (valF 4294967296 m1 / valF 4294967296 m2)).length : Int)), lim 4294967296 (valF 4294967296 m1 / valF 4294967296 m2)) - vN ((iN 1).fst, (iN 1).snd))).fst, (iN (vN (decide ¬n1 = n2 && decide (0 < (↑(lim 4294967296 (valF 4294967296 m1 / valF 4294967296 m2)).length : Int)), lim 4294967296 (valF 4294967296 m1 / valF 4294967296 m2)) - vN ((iN 1).fst, (iN 1).snd))).snd), (iN (vN (n1 && decide (0 < (↑(lim 4294967296 (valF 4294967296 m1 % valF 4294967296 m2)).length : Int)), lim 4294967296 (valF 4294967296 m1 % valF 4294967296 m2)) + vN (n2, m2))).fst, (iN (vN (n1 && decide (0 < (↑(lim 4294967296 (valF 4294967296 m1 % valF 4294967296 m2)).length : Int)), lim 4294967296 (valF 4294967296 m1 % valF 4294967296 m2)) + vN (n2, m2))).snd) = (iN (vN (n1, m1) / vN (n2, m2)), iN (vN (n1, m1) % vN (n2, m2))) ∧ (((iN (vN (decide ¬n1 = n2 && decide (0 < (↑(lim 4294967296 (valF 4294967296 m1 / valF 4294967296 m2)).length : Int)), lim 4294967296 (valF 4294967296 m1 / valF 4294967296 m2)) - vN ((iN 1).fst, (iN 1).snd))).fst, (iN (vN (decide ¬n1 = n2 && decide (0 < (↑(lim 4294967296 (valF 4294967296 m1 / valF 4294967296 m2)).length : Int)), lim 4294967296 (valF 4294967296 m1 / valF 4294967296 m2)) - vN ((iN 1).fst, (iN 1).snd))).snd), (iN (vN (n1 && decide (0 < (↑(lim 4294967296 (valF 4294967296 m1 % valF 4294967296 m2)).length : Int)), lim 4294967296 (valF 4294967296 m1 % valF 4294967296 m2)) + vN (n2, m2))).fst, (iN (vN (n1 && decide (0 < (↑(lim 4294967296 (valF 4294967296 m1 % valF 4294967296 m2)).length : Int)), lim 4294967296 (valF 4294967296 m1 % valF 4294967296 m2)) + vN (n2, m2))).snd) = (iN (vN (n1, m1) / vN (n2, m2)), iN (vN (n1, m1) % vN (n2, m2)))) ∧ (¬¬n1 = n2 → ¬¬n1 = n2 ∧ ¬¬n1 = n2 ∧ ((decide ¬n1 = n2 && decide (0 < (↑(lim 4294967296 (valF 4294967296 m1 / valF 4294967296 m2)).length : Int)), lim 4294967296 (valF 4294967296 m1 / valF 4294967296 m2)), n1 && decide (0 < (↑(lim 4294967296 (valF 4294967296 m1 % valF 4294967296 m2)).length : Int)), lim 4294967296 (valF 4294967296 m1 % valF 4294967296 m2)) = (iN (vN (n1, m1) / vN (n2, m2)), iN (vN (n1, m1) % vN (n2, m2))) ∧ ((decide ¬n1 = n2 && decide (0 < (↑(lim 4294967296 (valF 4294967296 m1 / valF 4294967296 m2)).length : Int)), lim 4294967296 (valF 4294967296 m1 / valF 4294967296 m2)), n1 && decide (0 < (↑(lim 4294967296 (valF 4294967296 m1 % valF 4294967296 m2)).length : Int)), lim 4294967296 (valF 4294967296 m1 % valF 4294967296 m2)) = (iN (vN (n1, m1) / vN (n2, m2)), iN (vN (n1, m1) % vN (n2, m2)))))
def Qg89_2 (n1 : Bool) (m1 : List Int) (n2 : Bool) (m2 : List Int) : Prop := (¬0 < (↑(lim 4294967296 (valF 4294967296 m1 % valF 4294967296 m2)).length : Int) → ¬0 < (↑(lim 4294967296 (valF 4294967296 m1 % valF 4294967296 m2)).length : Int) ∧ ¬0 < (↑(lim 4294967296 (valF 4294967296 m1 % valF 4294967296 m2)).length : Int) ∧ ((decide ¬n1 = n2 && decide (0 < (↑(lim 4294967296 (valF 4294967296 m1 / valF 4294967296 m2)).length : Int)), lim 4294967296 (valF 4294967296 m1 / valF 4294967296 m2)), n1 && decide (0 < (↑(lim 4294967296 (valF 4294967296 m1 % valF 4294967296 m2)).length : Int)), lim 4294967296 (valF 4294967296 m1 % valF 4294967296 m2)) = (iN (vN (n1, m1) / vN (n2, m2)), iN (vN (n1, m1) % vN (n2, m2))) ∧ ((decide ¬n1 = n2 && decide (0 < (↑(lim 4294967296 (valF 4294967296 m1 / valF 4294967296 m2)).length : Int)), lim 4294967296 (valF 4294967296 m1 / valF 4294967296 m2)), n1 && decide (0 < (↑(lim 4294967296 (valF 4294967296 m1 % valF 4294967296 m2)).length : Int)), lim 4294967296 (valF 4294967296 m1 % valF 4294967296 m2)) = (iN (vN (n1, m1) / vN (n2, m2)), iN (vN (n1, m1) % vN (n2, m2))))
theorem g89_eq (n1 : Bool) (m1 : List Int) (n2 : Bool) (m2 : List Int) : g89 n1 m1 n2 m2 = (((((∀ (x : Int), x ∈ m1 → 0 ≤ x ∧ x < 4294967296) ∧ m1.getLast? ≠ some 0) ∧ (∀ (x : Int), x ∈ m2 → 0 ≤ x ∧ x < 4294967296) ∧ m2.getLast? ≠ some 0) ∧ (m1.length ≤ 90000 ∧ m2.length ≤ 90000) ∧ (1 : Nat) ≤ m2.length) ∧ ((lim 4294967296 (valF 4294967296 m1 / valF 4294967296 m2)).length ≤ 1000000 ∧ ((lim 4294967296 (valF 4294967296 m1 % valF 4294967296 m2)).length ≤ 1000000 ∧ ((Qg89_1 n1 m1 n2 m2) ∧ (Qg89_2 n1 m1 n2 m2)) ∧ (Qg89_1 n1 m1 n2 m2) ∧ (Qg89_2 n1 m1 n2 m2)) ∧ (((lim 4294967296 (valF 4294967296 m1 % valF 4294967296 m2)).length ≤ 1000000 ∧ (Qg89_1 n1 m1 n2 m2) ∧ (Qg89_2 n1 m1 n2 m2)) ∧ (lim 4294967296 (valF 4294967296 m1 % valF 4294967296 m2)).length ≤ 1000000 ∧ (Qg89_1 n1 m1 n2 m2) ∧ (Qg89_2 n1 m1 n2 m2)) ∧ ((lim 4294967296 (valF 4294967296 m1 % valF 4294967296 m2)).length ≤ 1000000 ∧ (Qg89_1 n1 m1 n2 m2) ∧ (Qg89_2 n1 m1 n2 m2)) ∧ (lim 4294967296 (valF 4294967296 m1 % valF 4294967296 m2)).length ≤ 1000000 ∧ (Qg89_1 n1 m1 n2 m2) ∧ (Qg89_2 n1 m1 n2 m2)) ∧ (((lim 4294967296 (valF 4294967296 m1 / valF 4294967296 m2)).length ≤ 1000000 ∧ ((lim 4294967296 (valF 4294967296 m1 % valF 4294967296 m2)).length ≤ 1000000 ∧ (Qg89_1 n1 m1 n2 m2) ∧ (Qg89_2 n1 m1 n2 m2)) ∧ (lim 4294967296 (valF 4294967296 m1 % valF 4294967296 m2)).length ≤ 1000000 ∧ (Qg89_1 n1 m1 n2 m2) ∧ (Qg89_2 n1 m1 n2 m2)) ∧ (lim 4294967296 (valF 4294967296 m1 / valF 4294967296 m2)).length ≤ 1000000 ∧ (lim 4294967296 (valF 4294967296 m1 % valF 4294967296 m2)).length ≤ 1000000 ∧ (Qg89_1 n1 m1 n2 m2) ∧ (Qg89_2 n1 m1 n2 m2)) ∧ ((lim 4294967296 (valF 4294967296 m1 / valF 4294967296 m2)).length ≤ 1000000 ∧ ((lim 4294967296 (valF 4294967296 m1 % valF 4294967296 m2)).length ≤ 1000000 ∧ (Qg89_1 n1 m1 n2 m2) ∧ (Qg89_2 n1 m1 n2 m2)) ∧ (lim 4294967296 (valF 4294967296 m1 % valF 4294967296 m2)).length ≤ 1000000 ∧ (Qg89_1 n1 m1 n2 m2) ∧ (Qg89_2 n1 m1 n2 m2)) ∧ (lim 4294967296 (valF 4294967296 m1 / valF 4294967296 m2)).length ≤ 1000000 ∧ (lim 4294967296 (valF 4294967296 m1 % valF 4294967296 m2)).length ≤ 1000000 ∧ (Qg89_1 n1 m1 n2 m2) ∧ (Qg89_2 n1 m1 n2 m2)) := by kernel_rfl
theorem g87_eq (n1 : Bool) (m1 : List Int) (n2 : Bool) (m2 : List Int) : g87 n1 m1 n2 m2 = ((∃ (x0 : Int × Int), ((0 ≤ x0.fst ∧ 0 ≤ x0.snd) ∧ (x0.fst < 4294967296 ^ 500 ∧ x0.snd < 4294967296 ^ 500) ∧ gcdI x0.fst x0.snd = gcdI (vN (n1, m1)) (vN (n2, m2))) ∧ ((n1 = n1 ∧ m1 = m1 ∧ True) ∧ (n2 = n2 ∧ m2 = m2 ∧ True) ∧ (True ∧ Value.slice none (0 : Nat) (0 : Nat) = Value.slice none (0 : Nat) (0 : Nat) ∧ True) ∧ True) ∧ m1 = lim 4294967296 x0.fst ∧ m2 = lim 4294967296 x0.snd ∧ True ∧ True) ∧ ∀ (x : Int × Int), (0 ≤ x.fst ∧ 0 ≤ x.snd) ∧ (x.fst < 4294967296 ^ 500 ∧ x.snd < 4294967296 ^ 500) ∧ gcdI x.fst x.snd = gcdI (vN (n1, m1)) (vN (n2, m2)) → (0 < (↑(lim 4294967296 x.snd).length : Int) → 0 < (↑(lim 4294967296 x.snd).length : Int) ∧ ((((∀ (x_1 : Int), x_1 ∈ lim 4294967296 x.fst → 0 ≤ x_1 ∧ x_1 < 4294967296) ∧ (lim 4294967296 x.fst).getLast? ≠ some 0) ∧ (∀ (x_1 : Int), x_1 ∈ lim 4294967296 x.snd → 0 ≤ x_1 ∧ x_1 < 4294967296) ∧ (lim 4294967296 x.snd).getLast? ≠ some 0) ∧ ((lim 4294967296 x.fst).length ≤ 90000 ∧ (lim 4294967296 x.snd).length ≤ 90000) ∧ (1 : Nat) ≤ (lim 4294967296 x.snd).length) ∧ ∃ (x' : Int × Int), ((0 ≤ x'.fst ∧ 0 ≤ x'.snd) ∧ (x'.fst < 4294967296 ^ 500 ∧ x'.snd < 4294967296 ^ 500) ∧ gcdI x'.fst x'.snd = gcdI (vN (n1, m1)) (vN (n2, m2))) ∧ x'.snd.toNat < x.snd.toNat ∧ ((n1 = n1 ∧ m1 = m1 ∧ True) ∧ (n2 = n2 ∧ m2 = m2 ∧ True) ∧ (True ∧ Value.slice none (0 : Nat) (0 : Nat) = Value.slice none (0 : Nat) (0 : Nat) ∧ True) ∧ True) ∧ lim 4294967296 x.snd = lim 4294967296 x'.fst ∧ lim 4294967296 (valF 4294967296 (lim 4294967296 x.fst) % valF 4294967296 (lim 4294967296 x.snd)) = lim 4294967296 x'.snd ∧ True ∧ True) ∧ (¬0 < (↑(lim 4294967296 x.snd).length : Int) → ¬0 < (↑(lim 4294967296 x.snd).length : Int) ∧ (lim 4294967296 x.fst).length ≤ 1000000 ∧ (false && decide (0 < (↑(lim 4294967296 x.fst).length : Int)), lim 4294967296 x.fst) = iN (gcdI (vN (n1, m1)) (vN (n2, m2))))) := by kernel_rfl
end Go.SX.We.Nm

/- Chapter 08: num's integers, proved. -/
namespace Go.SX.We.Nm
open Go Go.Proofs
theorem add_lt_pow {b x y : Int} {k : Nat} (hb : 2 ≤ b) (hx : x < b ^ k) (hy : y < b ^ k) : x + y < b ^ (k + 1) := by
  have p := pow_pos' (b := b) (by omega) k
  have : b ^ k * 2 ≤ b ^ k * b := Int.mul_le_mul_of_nonneg_left hb (by omega)
  rw [Int.pow_succ]; omega
theorem mul_lt_pow {b x y : Int} {k l : Nat} (hb : 2 ≤ b) (hx0 : 0 ≤ x) (hx : x < b ^ k) (hy0 : 0 ≤ y) (hy : y < b ^ l) : x * y < b ^ (k + l) := by
  have p := pow_pos' (b := b) (by omega) l
  have a1 : x * y ≤ x * b ^ l := Int.mul_le_mul_of_nonneg_left (by omega) hx0
  have a2 : x * b ^ l < b ^ k * b ^ l := Int.mul_lt_mul_of_pos_right hx p
  rw [Int.pow_add]; omega
theorem pow_le_pow' {b x : Int} {k l : Nat} (hb : 2 ≤ b) (hx : x < b ^ k) (h : k ≤ l) : x < b ^ l := Int.lt_of_lt_of_le hx (pow_mono' (by omega) h)
theorem len_ok {z : Int} {k : Nat} (h0 : 0 ≤ z) (h : z < 4294967296 ^ k) (hk : k ≤ 100000) : (lim 4294967296 z).length ≤ 100000 := Nat.le_trans (lim_len cw2 h0 h) hk
theorem abs_add (x y : Int) : absI (x + y) ≤ absI x + absI y := by unfold absI; split <;> split <;> split <;> omega
theorem abs_neg (x : Int) : absI (-x) = absI x := by unfold absI; split <;> split <;> omega
theorem abs_pos {z : Int} (h : 0 ≤ z) : absI z = z := by unfold absI; rw [if_neg (by omega)]
theorem iN_vN (z : Int) : vN (iN z) = z := vB_int cw2 z
theorem sgn_nonneg (z : Int) : 0 ≤ sgnF z ↔ 0 ≤ z := by unfold sgnF; split <;> (try split) <;> omega
theorem ok81 : p81.OK Tryz.prog := p81.ok (fn := Tryz.f81) (fun _ => cx [] []) (fun _ => cx0z) (by kernel_rfl) (by kernel_rfl) (by kernel_rfl) fun p _ => by
  obtain ⟨n, m⟩ := p
  refine (g81_eq n m).mpr ?_
  simp only [pp1, eq_self, and_true, true_and, and_self]
  exact ⟨fun h => by rw [h]; rfl, fun h => by rw [h]; rfl⟩
theorem vc43 {n : Int} (h0 : 0 ≤ n) (h1 : n ≤ 1000000) : g43n n := by
  refine (g43n_eq n).mpr ?_
  simp only [pp1, eq_self, and_true, true_and, and_self, e32]
  refine ⟨fun h => absurd h (by omega), fun h => ⟨by omega, by omega, ?_, ?_⟩⟩
  · refine Nat.le_trans (trim_len _) ?_
    simp
  · rw [w64_id h0 (by omega), w32_id h0 (by omega), w32_id (n := n / 4294967296) (by omega) (by omega)]
    have ef : FigsF 4294967296 [n, n / 4294967296] := by
      refine figs_cons.2 ⟨⟨h0, by omega⟩, figs_cons.2 ⟨⟨by omega, by omega⟩, fun x hx => by cases hx⟩⟩
    have ev : valF 4294967296 [n, n / 4294967296] = n := by simp [valF]; omega
    rw [trim_lim cw2 ef, ev, int_made cw2 h0, decide_eq_false (by omega)]
    rfl
theorem ok43 : p43.OK Tryz.prog := p43.ok (fn := Tryz.f43) (fun _ => cx [p82.ci, p81.ci] []) (fun _ => cx_ok (cs := [p82.ci, p81.ci]) ⟨PC.OK.ci ok82, PC.OK.ci ok81, trivial⟩ _) (by kernel_rfl) (by kernel_rfl) (by kernel_rfl) fun _ hp => vc43 hp.1 hp.2
theorem mk_int {n : Bool} {m : List Int} {k : Nat} (h : OkN k (n, m)) : ∃ z : Int, n = decide (z < 0) ∧ m = lim 4294967296 (absI z) ∧ absI z < 4294967296 ^ k ∧ vN (n, m) = z := by
  obtain ⟨z, h1, h2⟩ := h
  have h3 := h1
  unfold intB at h3
  injection h3 with e1 e2
  exact ⟨z, e1, e2, h2, by rw [h1]; exact iN_vN z⟩
theorem ok86 : p86.OK Tryz.prog := p86.ok (fn := Tryz.f86) (fun _ => cx [p81.ci] []) (fun _ => cx_ok (cs := [p81.ci]) ⟨PC.OK.ci ok81, trivial⟩ _) (by kernel_rfl) (by kernel_rfl) (by kernel_rfl) fun p hp => by
  obtain ⟨n, m⟩ := p
  obtain ⟨z, e1, e2, h, e3⟩ := mk_int hp
  refine (g86_eq n m).mpr ?_
  have hl := len_ok (absI_nonneg z) h (by decide)
  rw [e3, e2]
  refine ⟨Nat.le_trans hl (by decide), ?_⟩
  rw [int_made cw2 (absI_nonneg z), e1]
  congr 1
  unfold absI
  by_cases hz : z < 0
  · simp [hz]
  · simp [hz]
theorem ok109 : p109.OK Tryz.prog := p109.ok (fn := Tryz.f109) (fun _ => cx [] []) (fun _ => cx0z) (by kernel_rfl) (by kernel_rfl) (by kernel_rfl) fun p hp => by
  obtain ⟨n, m⟩ := p
  obtain ⟨z, e1, e2, h, e3⟩ := mk_int hp
  refine (g109_eq n m).mpr ?_
  have hpz := lim_pos cw2 (absI_nonneg z)
  have ha : absI z = 0 ↔ z = 0 := by unfold absI; split <;> omega
  simp only [pp1, eq_self, and_true, true_and, and_self]
  rw [e3, e2, e1]
  refine ⟨fun h1 => ?_, fun h1 => ⟨fun h2 => ?_, fun h2 => ?_⟩⟩
  · have h1' : ((lim 4294967296 (absI z)).length : Int) = 0 := h1
    have : z = 0 := by have := absI_nonneg z; omega
    rw [this]; rfl
  · rw [sgnF, if_pos (of_decide_eq_true h2)]
  · have := of_decide_eq_false h2
    have : absI z ≠ 0 := fun e => by rw [e] at h1; exact h1 rfl
    rw [sgnF, if_neg (by omega), if_neg (by omega)]
theorem ok46 : p46.OK Tryz.prog := p46.ok (fn := Tryz.f46) (fun _ => cx [p81.ci, p83.ci, p84.ci, p85.ci] []) (fun _ => cx_ok (cs := [p81.ci, p83.ci, p84.ci, p85.ci]) ⟨PC.OK.ci ok81, PC.OK.ci ok83, PC.OK.ci ok84, PC.OK.ci ok85, trivial⟩ _) (by kernel_rfl) (by kernel_rfl) (by kernel_rfl) fun p hp => by
  obtain ⟨⟨n1, m1⟩, n2, m2⟩ := p
  obtain ⟨z1, e1, e2, h1, e3⟩ := mk_int hp.1
  obtain ⟨z2, f1, f2, h2, f3⟩ := mk_int hp.2
  refine (g46_eq n1 m1 n2 m2).mpr ?_
  simp only [pp1, eq_self, and_true, true_and, and_self]
  have a1 := absI_nonneg z1
  have a2 := absI_nonneg z2
  have l1 := len_ok a1 h1 (by decide)
  have l2 := len_ok a2 h2 (by decide)
  have c1 := lim_can cw2 a1
  have c2 := lim_can cw2 a2
  have v1 := val_lim cw2 a1
  have v2 := val_lim cw2 a2
  have hcmp := cmpN_sgn cw0 c1 c2
  have hs := add_lt_pow cw2 h1 h2
  have hz := fun (x : Int) (h0 : 0 ≤ x) (h : x ≤ absI z1 + absI z2) => len_ok h0 (Int.lt_of_le_of_lt h hs) (by decide)
  rw [e3, f3, e2, f2, v1, v2]
  rw [v1, v2] at hcmp
  have key1 : n1 = true ↔ z1 < 0 := by rw [e1]; simp
  have key2 : n2 = true ↔ z2 < 0 := by rw [f1]; simp
  refine ⟨fun h => ⟨⟨⟨c1.1, c2.1⟩, l1, l2⟩, Nat.le_trans (hz _ (by omega) (Int.le_refl _)) (by decide), ?_⟩, fun h => ⟨⟨by omega, by omega⟩, fun h3 => ⟨⟨⟨c1.1, c2.1⟩, ⟨l1, ?_⟩, ?_⟩, Nat.le_trans (hz _ ?_ (by omega)) (by decide), ?_⟩, fun h3 => ⟨⟨⟨c2.1, c1.1⟩, ⟨l2, ?_⟩, ?_⟩, Nat.le_trans (hz _ ?_ (by omega)) (by decide), ?_⟩⟩⟩
  · rw [int_made cw2 (by omega)]
    congr 1
    unfold absI
    by_cases q : n1 = true
    · rw [if_pos q, if_pos (key1.1 q), if_pos (key2.1 (h.symm.trans q))]; omega
    · rw [if_neg q, if_neg (fun w => q (key1.2 w)), if_neg (fun w => q (h.trans (key2.2 w)))]
  all_goals (rw [hcmp, sgn_nonneg] at h3)
  · rcases Nat.lt_or_ge (lim 4294967296 (absI z2)).length 1 with q | q
    · omega
    · exact len_of_le c1.1 c2 q (by rw [v1, v2]; omega)
  · omega
  · omega
  · rw [int_made cw2 (by omega)]
    congr 1
    unfold absI
    by_cases q1 : n1 = true <;> by_cases q2 : n2 = true
    · exact absurd (q1.trans q2.symm) h
    · rw [if_pos q1, if_pos (key1.1 q1), if_neg (fun w => q2 (key2.2 w))]; omega
    · rw [if_neg q1, if_neg (fun w => q1 (key1.2 w)), if_pos (key2.1 q2)]; omega
    · exact absurd ((Bool.eq_false_iff.2 q1).trans (Bool.eq_false_iff.2 q2).symm) h
  · rcases Nat.lt_or_ge (lim 4294967296 (absI z1)).length 1 with q | q
    · omega
    · exact len_of_le c2.1 c1 q (by rw [v1, v2]; omega)
  · omega
  · omega
  · rw [int_made cw2 (by omega)]
    congr 1
    unfold absI
    by_cases q1 : n1 = true <;> by_cases q2 : n2 = true
    · exact absurd (q1.trans q2.symm) h
    · rw [if_neg q2, if_pos (key1.1 q1), if_neg (fun w => q2 (key2.2 w))]; omega
    · rw [if_pos q2, if_neg (fun w => q1 (key1.2 w)), if_pos (key2.1 q2)]; omega
    · exact absurd ((Bool.eq_false_iff.2 q1).trans (Bool.eq_false_iff.2 q2).symm) h
theorem ok108 : p108.OK Tryz.prog := p108.ok (fn := Tryz.f108) (fun _ => cx [p46.ci, p86.ci] []) (fun _ => cx_ok (cs := [p46.ci, p86.ci]) ⟨PC.OK.ci ok46, PC.OK.ci ok86, trivial⟩ _) (by kernel_rfl) (by kernel_rfl) (by kernel_rfl) fun p hp => by
  obtain ⟨⟨n1, m1⟩, n2, m2⟩ := p
  obtain ⟨z2, f1, f2, h2, f3⟩ := mk_int hp.2
  refine (g108_eq n1 m1 n2 m2).mpr ?_
  refine ⟨hp.2, ⟨hp.1, _, rfl, ?_⟩, ?_⟩
  · rw [f3, abs_neg]; exact h2
  · rw [iN_vN, ← Int.sub_eq_add_neg]
theorem ok_le {k l : Nat} (h : k ≤ l) {p : Bool × List Int} (hp : OkN k p) : OkN l p := by
  obtain ⟨z, h1, h2⟩ := hp
  exact ⟨z, h1, pow_le_pow' cw2 h2 h⟩
theorem ok88 : p88.OK Tryz.prog := p88.ok (fn := Tryz.f88) (fun _ => cx [p109.ci, p108.ci] []) (fun _ => cx_ok (cs := [p109.ci, p108.ci]) ⟨PC.OK.ci ok109, PC.OK.ci ok108, trivial⟩ _) (by kernel_rfl) (by kernel_rfl) (by kernel_rfl) fun p hp => by
  obtain ⟨⟨n1, m1⟩, n2, m2⟩ := p
  obtain ⟨z1, e1, e2, h1, e3⟩ := mk_int hp.1
  obtain ⟨z2, f1, f2, h2, f3⟩ := mk_int hp.2
  refine (g88_eq n1 m1 n2 m2).mpr ?_
  refine ⟨⟨ok_le (by decide) hp.1, ok_le (by decide) hp.2⟩, ⟨_, rfl, ?_⟩, ?_⟩
  · rw [e3, f3]
    have := abs_add z1 (-z2)
    rw [abs_neg] at this
    rw [Int.sub_eq_add_neg]
    exact pow_le_pow' cw2 (Int.lt_of_le_of_lt this (add_lt_pow cw2 h1 h2)) (by decide)
  · rw [iN_vN]
theorem ok48 : p48.OK Tryz.prog := p48.ok (fn := Tryz.f48) (fun _ => cx [p81.ci, p90.ci] []) (fun _ => cx_ok (cs := [p81.ci, p90.ci]) ⟨PC.OK.ci ok81, PC.OK.ci ok90, trivial⟩ _) (by kernel_rfl) (by kernel_rfl) (by kernel_rfl) fun p hp => by
  obtain ⟨⟨n1, m1⟩, n2, m2⟩ := p
  obtain ⟨z1, e1, e2, h1, e3⟩ := mk_int hp.1
  obtain ⟨z2, f1, f2, h2, f3⟩ := mk_int hp.2
  refine (g48_eq n1 m1 n2 m2).mpr ?_
  have a1 := absI_nonneg z1
  have a2 := absI_nonneg z2
  have hm := mul_lt_pow cw2 a1 h1 a2 h2
  rw [e3, f3, e2, f2, val_lim cw2 a1, val_lim cw2 a2]
  have hl := len_ok (Int.mul_nonneg a1 a2) hm (by decide)
  refine ⟨⟨⟨(lim_can cw2 a1).1, (lim_can cw2 a2).1⟩, len_ok a1 h1 (by decide), len_ok a2 h2 (by decide)⟩, Nat.le_trans hl (by decide), ?_⟩
  have key1 : n1 = true ↔ z1 < 0 := by rw [e1]; simp
  have key2 : n2 = true ↔ z2 < 0 := by rw [f1]; simp
  rw [int_made cw2 (Int.mul_nonneg a1 a2)]
  congr 1
  unfold absI
  by_cases q1 : n1 = true <;> by_cases q2 : n2 = true
  · rw [if_neg (by rw [decide_eq_false (fun h => h (q1.trans q2.symm))]; exact Bool.false_ne_true), if_pos (key1.1 q1), if_pos (key2.1 q2), Int.neg_mul_neg]
  · rw [if_pos (by rw [decide_eq_true_iff]; exact fun h => q2 (h.symm.trans q1)), if_pos (key1.1 q1), if_neg (fun w => q2 (key2.2 w)), Int.neg_mul, Int.neg_neg]
  · rw [if_pos (by rw [decide_eq_true_iff]; exact fun h => q1 (h.trans q2)), if_neg (fun w => q1 (key1.2 w)), if_pos (key2.1 q2), Int.mul_neg, Int.neg_neg]
  · rw [if_neg (by rw [decide_eq_false (fun h => h ((Bool.eq_false_iff.2 q1).trans (Bool.eq_false_iff.2 q2).symm))]; exact Bool.false_ne_true), if_neg (fun w => q1 (key1.2 w)), if_neg (fun w => q2 (key2.2 w))]
theorem ok89 : p89.OK Tryz.prog := p89.ok (fn := Tryz.f89) (fun _ => cx [p107.ci, p81.ci, p108.ci, p43.ci, p46.ci] []) (fun _ => cx_ok (cs := [p107.ci, p81.ci, p108.ci, p43.ci, p46.ci]) ⟨PC.OK.ci ok107, PC.OK.ci ok81, PC.OK.ci ok108, PC.OK.ci ok43, PC.OK.ci ok46, trivial⟩ _) (by kernel_rfl) (by kernel_rfl) (by kernel_rfl) fun p hp => by
  obtain ⟨⟨n1, m1⟩, n2, m2⟩ := p
  obtain ⟨⟨hp1, hp2⟩, hp3, hp4⟩ := hp
  obtain ⟨z1, e1, e2, h1, e3⟩ := mk_int hp1
  obtain ⟨z2, f1, f2, h2, f3⟩ := mk_int hp2
  have hp3 : 0 ≤ vN (n1, m1) := hp3
  have hp4 : 0 < vN (n2, m2) := hp4
  rw [e3] at hp3
  rw [f3] at hp4
  refine (g89_eq n1 m1 n2 m2).mpr ?_
  rw [abs_pos hp3] at e2 h1
  rw [abs_pos (by omega)] at f2 h2
  have g1 : n1 = false := by rw [e1]; exact decide_eq_false (by omega)
  have g2 : n2 = false := by rw [f1]; exact decide_eq_false (by omega)
  have hd : 0 ≤ z1 / z2 := Int.ediv_nonneg hp3 (by omega)
  have hm : 0 ≤ z1 % z2 := Int.emod_nonneg _ (by omega)
  have hd' := Int.ediv_le_self z2 hp3
  have hm' := Int.emod_lt_of_pos z1 hp4
  have q1 := int_made (n := false) cw2 hd
  have q2 := int_made (n := false) cw2 hm
  simp only [Bool.false_eq_true, if_false] at q1 q2
  have c1 := lim_can cw2 hp3
  have c2 := lim_can cw2 (z := z2) (by omega)
  have l0 := (lim_pos cw2 (z := z2) (by omega)).2 hp4
  have d : decide (¬ n1 = n2) = false := decide_eq_false (fun h => h (g1.trans g2.symm))
  have ll1 := lim_len cw2 hp3 h1
  have ll2 := lim_len cw2 (show 0 ≤ z2 by omega) h2
  have ll3 := lim_len cw2 hd (Int.lt_of_le_of_lt hd' h1)
  have ll4 := lim_len cw2 hm (Int.lt_trans hm' h2)
  simp only [Qg89_1, Qg89_2, pp1, eq_self, and_true, true_and, and_self]
  rw [e3, f3, e2, f2, val_lim cw2 hp3, val_lim cw2 (show 0 ≤ z2 by omega), d, g1, g2]
  refine ⟨⟨⟨c1, c2⟩, ⟨Nat.le_trans ll1 (by decide), Nat.le_trans ll2 (by decide)⟩, l0⟩, Nat.le_trans ll3 (by decide), Nat.le_trans ll4 (by decide), fun h => ⟨fun hne => absurd rfl hne, fun _ => ?_⟩, fun h => ?_⟩
  · exact Prod.ext q1 q2
  · exact Prod.ext q1 q2
theorem vc87 {n1 n2 : Bool} {m1 m2 : List Int} (hp1 : OkN 500 (n1, m1)) (hp2 : OkN 500 (n2, m2)) (hp3 : 0 ≤ vN (n1, m1)) (hp4 : 0 ≤ vN (n2, m2)) : g87 n1 m1 n2 m2 := by
  obtain ⟨z1, e1, e2, h1, e3⟩ := mk_int hp1
  obtain ⟨z2, f1, f2, h2, f3⟩ := mk_int hp2
  refine (g87_eq n1 m1 n2 m2).mpr ?_
  simp only [pp1, eq_self, and_true, true_and, and_self]
  rw [e3] at hp3 ⊢
  rw [f3] at hp4 ⊢
  rw [abs_pos hp3] at e2 h1
  rw [abs_pos hp4] at f2 h2
  refine ⟨⟨(z1, z2), ⟨⟨hp3, hp4⟩, ⟨h1, h2⟩, rfl⟩, e2, f2⟩, fun x hx => ?_⟩
  obtain ⟨x, y⟩ := x
  obtain ⟨⟨x0, y0⟩, ⟨x1, y1⟩, hg⟩ := hx
  have x0 : 0 ≤ x := x0
  have y0 : 0 ≤ y := y0
  have x1 : x < 4294967296 ^ 500 := x1
  have y1 : y < 4294967296 ^ 500 := y1
  have hg : gcdI x y = gcdI z1 z2 := hg
  have hpy := lim_pos cw2 y0
  have lx := len_ok x0 x1 (by decide)
  have ly := lim_len cw2 y0 y1
  have lx' := lim_len cw2 x0 x1
  refine ⟨fun h => ⟨⟨⟨lim_can cw2 x0, lim_can cw2 y0⟩, ⟨Nat.le_trans lx' (by decide), Nat.le_trans ly (by decide)⟩, Int.ofNat_lt.1 h⟩, (y, x % y), ?_⟩, fun h => ⟨Nat.le_trans lx (by decide), ?_⟩⟩
  · have hy : 0 < y := hpy.1 (Int.ofNat_lt.1 h)
    have m0 : 0 ≤ x % y := Int.emod_nonneg _ (by omega)
    have m1 : x % y < y := Int.emod_lt_of_pos _ hy
    refine ⟨⟨⟨y0, m0⟩, ⟨y1, Int.lt_trans m1 y1⟩, (gcdI_step x0 hy).trans hg⟩, ?_, rfl, ?_⟩
    · show (x % y).toNat < y.toNat
      clear h1 h2 x1 y1 lx lx' ly
      omega
    · rw [val_lim cw2 x0, val_lim cw2 y0]
  · have h' : ¬ (0 : Int) < ((lim 4294967296 y).length : Int) := h
    have hy : y = 0 := by
      clear h1 h2 x1 y1 lx lx' ly
      omega
    rw [hy, gcdI_zero x x0] at hg
    rw [← hg, int_made cw2 x0]
    rfl
theorem ok87 : p87.OK Tryz.prog := p87.ok (fn := Tryz.f87) (fun p => cx [p107.ci, p81.ci] [(0, fun _ => A87 (vN p.1) (vN p.2))]) (fun _ => cx_ok (cs := [p107.ci, p81.ci]) ⟨PC.OK.ci ok107, PC.OK.ci ok81, trivial⟩ _) (by kernel_rfl) (by kernel_rfl) (by kernel_rfl) fun _ hp => vc87 hp.1.1 hp.1.2 hp.2.1 hp.2.2
end Go.SX.We.Nm
