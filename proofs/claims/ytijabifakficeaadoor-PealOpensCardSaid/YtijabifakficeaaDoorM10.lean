/- Parts of the proof, one after the other: Pe12 Pe12E Pe12Q. -/
import Derived.Test.YtijabifakficeaaDoorM9
/- Chapter 10: PealOpens, what is asked. -/
namespace Go.SX.Pe
open Go Go.Proofs
noncomputable section
@[reducible] def zBs : List (List Int) := List.replicate 32 zeroB
@[reducible] def selSpec (p : List SV → List Ent → Bool) (s1 s2 : Spec) : Spec := fun args H K => bif p args H then s1 args H K else s2 args H K
@[reducible] def selCI (p : List SV → List Ent → Bool) (c1 c2 : CI) : CI := ⟨c1.f, selSpec p c1.s c2.s, false, c1.z && c2.z⟩
def madeD : List SV → List Ent → Bool
  | [.c (.ptr i 0)], H => (match H[i]? with
    | some (.obj _ (.kb b :: _) _ _ _) => b
    | _ => false)
  | _, _ => false
@[reducible] def n18 : CI := inz 18 Tryd.f18 (cx [i51] [])
@[reducible] def i18c : CI := selCI madeD (caseCI pickD1 (fun d => d.down = true) (H18d.ci pickD1) (caseCI pickD1 (fun d => (syncF (upD d)).1 = 0) (H18.ci pick52) (H18e.ci pick52))) n18
def leftF (cuts : Int) : Nat → Int
  | 0 => max (cuts % 8) 0
  | 1 => max (cuts / 8 % 8) 0
  | _ => 0
@[reducible] def opD (bl : List (List Int)) (cuts : Int) (k : Nat) : Dk := ⟨false, leftF cuts k, k, k, bl, []⟩
@[reducible] def A4 (bl : List (List Int)) (cuts : Int) (d m : Nat) : Ann where
  τ := Nat
  pre := []
  preC := []
  keep := [0, 1, 10]
  slots k := [(11, .c (.int .i64 k)), (4, .c (.kb false))]
  ents k := [(d, dE (opD bl cuts k) m), (m, mE (opD bl cuts k))]
  ok k := k ≤ 2
  m k := 2 - k
  mvs := [.cell d 4101]
def with4 (cuts : Int) (st : St) : Ann := match findT 10 st.t with
  | .c (.ptr d 0) => (match st.h[d]? with
    | some (.obj _ _ (.arr 31 (.arr 127 (.int .u8))) bl [.tab m]) => A4 bl cuts d m
    | _ => noAnn)
  | _ => noAnn
structure X4 where
  g : Xg
  cuts : Int
  keep : Int
@[reducible] def H4 : HC where
  f := 4
  X := X4
  Hs x := [gE x.g.t x.g.u]
  ags x := [.c (.int .u8 x.cuts), .c (.int .i64 x.keep)]
  Pre x := 0 ≤ x.cuts ∧ x.cuts ≤ 255
  res _ := .c (.kb true)
  out x := [gE x.g.t x.g.u]
  fr _ := false
@[reducible] def C4 (x : X4) : Ctx := cb [i18c, i12 x.g.n, H19v.ci (pick19v x.g.n), n20, n21, H22.ci pickL, p23.ci, i24, i25, H14a.ci pickLs, H26w.ci pickL, H27.ci pickD] [(0, with4 x.cuts)] 1
def g4 (t : GT) (u : Value) (n : Nd) (cuts keep : Int) : Prop := HVC (C4 ⟨⟨t, u, n⟩, cuts, keep⟩) Tryd.f4 H4 ⟨⟨t, u, n⟩, cuts, keep⟩
end
end Go.SX.Pe

/- Printed by VC.lean: what the executor asks. -/
namespace Go.SX.Pe
open Go Go.Proofs
def g4_q1 (t : GT) (u : Value) (_n : Nd) (_cuts : Int) (_keep : Int) : Prop :=
 ¬(1 : Int) = (1 : Int) →
 ¬(1 : Int) = (1 : Int) ∧
 ¬(1 : Int) = (1 : Int) ∧ ¬(1 : Int) = (1 : Int) ∧ False ∧ Ent.gl (0 : Nat) t.fst (Value.iface t.snd u) = Ent.gl (0 : Nat) t.fst (Value.iface t.snd u) ∧ True
def g4_q2 (_t : GT) (_u : Value) (_n : Nd) (_cuts : Int) (_keep : Int) : Prop :=
 (True ∧ True ∧ (0 : Int) = (0 : Int) ∧ (0 : Int) = (0 : Int) ∧ (0 : Int) = (0 : Int) ∧ True) ∧
 (Value.map none = Value.map none ∧ True) ∧
 zBs =
 zBs
def g4_q3 (t : GT) (u : Value) (_n : Nd) (_cuts : Int) (_keep : Int) : Prop :=
 ¬true = true → ¬true = true ∧ ¬true = true ∧ ¬true = true ∧ False ∧ Ent.gl (0 : Nat) t.fst (Value.iface t.snd u) = Ent.gl (0 : Nat) t.fst (Value.iface t.snd u) ∧ True
def g4_q4 (t : GT) (u : Value) (_n : Nd) (_cuts : Int) (_keep : Int) : Prop :=
 ¬(8 : Int) = (8 : Int) ∧ ¬(8 : Int) = (8 : Int) ∧ False ∧ Ent.gl (0 : Nat) t.fst (Value.iface t.snd u) = Ent.gl (0 : Nat) t.fst (Value.iface t.snd u) ∧ True
def g4_q5 (t : GT) (u : Value) (n : Nd) (cuts : Int) (keep : Int) : Prop :=
 ¬(8 : Int) = (8 : Int) → ¬(8 : Int) = (8 : Int) ∧ g4_q4 t u n cuts keep
def g4_q6 (t : GT) (u : Value) (n : Nd) (cuts : Int) (keep : Int) : Prop :=
 ¬(8 : Int) = (8 : Int) → g4_q4 t u n cuts keep
def g4_q7 (t : GT) (u : Value) (_n : Nd) (_cuts : Int) (_keep : Int) : Prop :=
 ¬(0 : Int) = (0 : Int) →
 ¬(0 : Int) = (0 : Int) ∧
 ¬(0 : Int) = (0 : Int) ∧ ¬(0 : Int) = (0 : Int) ∧ False ∧ Ent.gl (0 : Nat) t.fst (Value.iface t.snd u) = Ent.gl (0 : Nat) t.fst (Value.iface t.snd u) ∧ True
theorem g4_eq (t : GT) (u : Value) (n : Nd) (cuts : Int) (keep : Int) : g4 t u n cuts keep = (
 g4_q1 t u n cuts keep ∧
 (¬¬(1 : Int) = (1 : Int) →
 ¬¬(1 : Int) = (1 : Int) ∧
 ¬¬(1 : Int) = (1 : Int) ∧
 ¬¬(1 : Int) = (1 : Int) ∧
 g4_q1 t u n cuts keep ∧
 (¬¬(1 : Int) = (1 : Int) →
 ¬¬(1 : Int) = (1 : Int) ∧
 ¬¬(1 : Int) = (1 : Int) ∧
 ¬¬(1 : Int) = (1 : Int) ∧
 True ∧
 (Ent.gl (0 : Nat) t.fst (Value.iface t.snd u) = Ent.gl (0 : Nat) t.fst (Value.iface t.snd u) ∧ True) ∧
 True ∧
 True ∧
 True ∧
 True ∧
 True ∧
 True ∧
 True ∧
 True ∧
 Fits IntKind.i64 cuts ∧
 ((0 : Int) ≤ cuts ∧ (0 : Int) < (8 : Int)) ∧
 (∃ (x0 : Nat),
 x0 ≤ (2 : Nat) ∧
 (Ent.gl (0 : Nat) t.fst (Value.iface t.snd u) = Ent.gl (0 : Nat) t.fst (Value.iface t.snd u) ∧
 g4_q2 t u n cuts keep ∧
 ((True ∧
 n.d.down = false ∧
 max (cuts % (8 : Int)) (0 : Int) = leftF cuts x0 ∧ n.d.turn = (↑x0 : Int) ∧ n.d.opened = (↑x0 : Int) ∧ True) ∧
 (True ∧ True) ∧ n.d.bl = n.d.bl) ∧
 n.d.sy = nilT (Int × List Int) ∧ True) ∧
 (0 : Int) = (↑x0 : Int) ∧ True ∧ True ∧ cuts = cuts ∧ keep = keep ∧ True) ∧
 ∀ (x : Nat),
 x ≤ (2 : Nat) →
 ((↑x : Int) < (3 : Int) →
 (↑x : Int) < (3 : Int) ∧
 (false = true →
 True ∧
 (((True ∧ false = false ∧ leftF cuts x = leftF cuts x ∧ (↑x : Int) = (↑x : Int) ∧ (↑x : Int) = (↑x : Int) ∧ True) ∧
 (True ∧ True) ∧ n.d.bl = n.d.bl) ∧
 nilT (Int × List Int) = nilT (Int × List Int) ∧ True) ∧
 (True ∧ True) ∧
 false = true ∧
 True ∧
 (¬false = true →
 ¬false = true ∧
 ¬false = true ∧
 False ∧
 Ent.gl (0 : Nat) t.fst (Value.iface t.snd u) = Ent.gl (0 : Nat) t.fst (Value.iface t.snd u) ∧
 True) ∧
 (¬¬false = true →
 ¬¬false = true ∧
 ¬¬false = true ∧
 g4_q3 t u n cuts keep ∧
 (¬¬true = true →
 ¬¬true = true ∧
 ¬¬true = true ∧
 ¬¬true = true ∧
 (¬(8 : Int) = (0 : Int) →
 ¬(8 : Int) = (0 : Int) ∧
 ¬(8 : Int) = (0 : Int) ∧
 g4_q5 t u n cuts keep ∧
 (¬¬(8 : Int) = (8 : Int) →
 ¬¬(8 : Int) = (8 : Int) ∧
 ¬¬(8 : Int) = (8 : Int) ∧
 ¬¬(8 : Int) = (8 : Int) ∧
 ((8 : Int) = (0 : Int) → (8 : Int) = (0 : Int) ∧ False) ∧
 (¬(8 : Int) = (0 : Int) →
 ¬(8 : Int) = (0 : Int) ∧
 (false = true →
 True ∧
 (((True ∧
 false = false ∧
 leftF cuts x = leftF cuts x ∧
 (↑x : Int) = (↑x : Int) ∧
 (↑x : Int) = (↑x : Int) ∧ True) ∧
 (True ∧ True) ∧ n.d.bl = n.d.bl) ∧
 nilT (Int × List Int) = nilT (Int × List Int) ∧ True) ∧
 (True ∧ True) ∧
 false = true ∧
 True ∧
 g4_q6 t u n cuts keep ∧
 (¬¬(8 : Int) = (8 : Int) →
 ¬¬(8 : Int) = (8 : Int) ∧
 ¬¬(8 : Int) = (8 : Int) ∧
 True ∧
 (((True ∧
 false = false ∧
 leftF cuts x = leftF cuts x ∧
 (↑x : Int) = (↑x : Int) ∧
 (↑x : Int) = (↑x : Int) ∧
 True) ∧
 (True ∧ True) ∧ n.d.bl = n.d.bl) ∧
 nilT (Int × List Int) =
 nilT (Int × List Int) ∧
 True) ∧
 (True ∧ keep = keep ∧ True) ∧
 (DkOK
 (Dk.mk false (leftF cuts x)
 (↑x : Int) (↑x : Int) n.d.bl
 []) ∧
 (0 : Int) ≤ (↑x : Int) ∧
 (↑x : Int) ≤ (1000000 : Int)) ∧
 True ∧
 ((↑x : Int) = (0 : Int) →
 (↑x : Int) = (0 : Int) ∧
 Fits IntKind.i64 cuts ∧
 ((0 : Int) ≤ cuts ∧
 (0 : Int) < (8 : Int)) ∧
 Fits IntKind.i64
 (cuts / (8 : Int)) ∧
 ((0 : Int) ≤
 cuts / (8 : Int) ∧
 (0 : Int) <
 (8 : Int)) ∧
 Fits IntKind.i64
 ((↑x : Int) +
 (1 : Int)) ∧
 ∃ (x' : Nat),
 x' ≤ (2 : Nat) ∧
 (2 : Nat) - x' <
 (2 : Nat) -
 x ∧
 (Ent.gl
 (0 :
 Nat)
 t.fst
 (Value.iface
 t.snd
 u) =
 Ent.gl
 (0 :
 Nat)
 t.fst
 (Value.iface
 t.snd
 u) ∧
 g4_q2 t u
 n cuts
 keep ∧
 ((True ∧
 false =
 false ∧
 max
 (cuts /
 (8 :
 Int) %
 (8 :
 Int))
 (0 :
 Int) =
 leftF
 cuts
 x' ∧
 (↑x :
 Int) +
 (1 :
 Int) =
 (↑x' :
 Int) ∧
 (↑x :
 Int) =
 (↑x' :
 Int) ∧
 True) ∧
 (True ∧
 True) ∧
 tearN
 keep
 (nilT
 (Int ×
 List
 Int))
 (keysF
 (nilT
 (Int ×
 List
 Int)))
 n.d.bl
 (keysF
 (nilT
 (Int ×
 List
 Int))).length =
 n.d.bl) ∧
 nilT
 (Int ×
 List
 Int) =
 nilT
 (Int ×
 List
 Int) ∧
 True) ∧
 (↑x : Int) +
 (1 :
 Int) =
 (↑x' :
 Int) ∧
 True ∧
 True ∧
 cuts =
 cuts ∧
 keep =
 keep ∧
 True) ∧
 (¬(↑x : Int) = (0 : Int) →
 ¬(↑x : Int) = (0 : Int) ∧
 Fits IntKind.i64
 ((↑x : Int) + (1 : Int)) ∧
 ∃ (x' : Nat),
 x' ≤ (2 : Nat) ∧
 (2 : Nat) - x' <
 (2 : Nat) - x ∧
 (Ent.gl (0 : Nat)
 t.fst
 (Value.iface
 t.snd u) =
 Ent.gl (0 : Nat)
 t.fst
 (Value.iface
 t.snd u) ∧
 g4_q2 t u n cuts
 keep ∧
 ((True ∧
 false =
 false ∧
 (0 :
 Int) =
 leftF
 cuts
 x' ∧
 (↑x :
 Int) +
 (1 :
 Int) =
 (↑x' :
 Int) ∧
 (↑x :
 Int) =
 (↑x' :
 Int) ∧
 True) ∧
 (True ∧
 True) ∧
 tearN keep
 (nilT
 (Int ×
 List
 Int))
 (keysF
 (nilT
 (Int ×
 List
 Int)))
 n.d.bl
 (keysF
 (nilT
 (Int ×
 List
 Int))).length =
 n.d.bl) ∧
 nilT
 (Int ×
 List
 Int) =
 nilT
 (Int ×
 List
 Int) ∧
 True) ∧
 (↑x : Int) +
 (1 : Int) =
 (↑x' : Int) ∧
 True ∧
 True ∧
 cuts = cuts ∧
 keep =
 keep ∧
 True))) ∧
 (¬false = true →
 ((syncF
 (upD
 (Dk.mk false (leftF cuts x) (↑x : Int) (↑x : Int)
 n.d.bl (nilT (Int × List Int))))).fst =
 (0 : Int) →
 ∃ (r : Rt),
 ∃ (c : Cn),
 True ∧
 (((True ∧
 false = false ∧
 leftF cuts x = leftF cuts x ∧
 (↑x : Int) = (↑x : Int) ∧
 (↑x : Int) = (↑x : Int) ∧ True) ∧
 (True ∧ True) ∧ n.d.bl = n.d.bl) ∧
 nilT (Int × List Int) = nilT (Int × List Int) ∧
 Ent.gl (0 : Nat) t.fst (Value.iface t.snd u) =
 Ent.gl (0 : Nat) t.fst
 (Value.iface t.snd u) ∧
 True) ∧
 (True ∧ True) ∧
 (DkOK
 (Dk.mk false (leftF cuts x) (↑x : Int)
 (↑x : Int) n.d.bl []) ∧
 NewP n.d.bl r c ∧
 false = false ∧
 (syncF
 (upD
 (Dk.mk false (leftF cuts x)
 (↑x : Int) (↑x : Int) n.d.bl
 (nilT
 (Int × List Int))))).fst =
 (0 : Int) ∧
 (0 : Int) ≤ (↑x : Int) ∧
 (↑x : Int) ≤ (1000000 : Int)) ∧
 True ∧
 False ∧
 Ent.gl (0 : Nat) t.fst
 (Value.iface t.snd u) =
 Ent.gl (0 : Nat) t.fst
 (Value.iface t.snd u) ∧
 True) ∧
 (¬(syncF
 (upD
 (Dk.mk false (leftF cuts x) (↑x : Int) (↑x : Int)
 n.d.bl (nilT (Int × List Int))))).fst =
 (0 : Int) →
 ∃ (r : Rt),
 ∃ (c : Cn),
 True ∧
 (((True ∧
 false = false ∧
 leftF cuts x = leftF cuts x ∧
 (↑x : Int) = (↑x : Int) ∧
 (↑x : Int) = (↑x : Int) ∧ True) ∧
 (True ∧ True) ∧ n.d.bl = n.d.bl) ∧
 nilT (Int × List Int) = nilT (Int × List Int) ∧
 Ent.gl (0 : Nat) t.fst (Value.iface t.snd u) =
 Ent.gl (0 : Nat) t.fst
 (Value.iface t.snd u) ∧
 True) ∧
 (True ∧ True) ∧
 (DkOK
 (Dk.mk false (leftF cuts x) (↑x : Int)
 (↑x : Int) n.d.bl []) ∧
 NewP n.d.bl r c ∧
 false = false ∧
 (syncF
 (upD
 (Dk.mk false (leftF cuts x)
 (↑x : Int) (↑x : Int) n.d.bl
 (nilT
 (Int × List Int))))).fst =
 (8 : Int) ∧
 (0 : Int) ≤ (↑x : Int) ∧
 (↑x : Int) ≤ (1000000 : Int)) ∧
 True ∧
 g4_q6 t u n cuts keep ∧
 (¬¬(8 : Int) = (8 : Int) →
 ¬¬(8 : Int) = (8 : Int) ∧
 ¬¬(8 : Int) = (8 : Int) ∧
 True ∧
 (((True ∧
 (openD
 (Dk.mk false
 (leftF cuts x)
 (↑x : Int)
 (↑x : Int) n.d.bl
 (nilT
 (Int ×
 List
 Int)))).down =
 (openD
 (Dk.mk false
 (leftF cuts x)
 (↑x : Int)
 (↑x : Int) n.d.bl
 (nilT
 (Int ×
 List
 Int)))).down ∧
 (openD
 (Dk.mk false
 (leftF cuts x)
 (↑x : Int)
 (↑x : Int)
 n.d.bl
 (nilT
 (Int ×
 List
 Int)))).left =
 (openD
 (Dk.mk false
 (leftF cuts x)
 (↑x : Int)
 (↑x : Int)
 n.d.bl
 (nilT
 (Int ×
 List
 Int)))).left ∧
 (openD
 (Dk.mk false
 (leftF cuts x)
 (↑x : Int)
 (↑x : Int)
 n.d.bl
 (nilT
 (Int ×
 List
 Int)))).turn =
 (openD
 (Dk.mk false
 (leftF cuts x)
 (↑x : Int)
 (↑x : Int)
 n.d.bl
 (nilT
 (Int ×
 List
 Int)))).turn ∧
 (openD
 (Dk.mk false
 (leftF cuts
 x)
 (↑x : Int)
 (↑x : Int)
 n.d.bl
 (nilT
 (Int ×
 List
 Int)))).opened =
 (openD
 (Dk.mk false
 (leftF cuts
 x)
 (↑x : Int)
 (↑x : Int)
 n.d.bl
 (nilT
 (Int ×
 List
 Int)))).opened ∧
 True) ∧
 (True ∧ True) ∧
 (openD
 (Dk.mk false
 (leftF cuts x)
 (↑x : Int)
 (↑x : Int) n.d.bl
 (nilT
 (Int ×
 List
 Int)))).bl =
 (openD
 (Dk.mk false
 (leftF cuts x)
 (↑x : Int)
 (↑x : Int) n.d.bl
 (nilT
 (Int ×
 List
 Int)))).bl) ∧
 (openD
 (Dk.mk false
 (leftF cuts x)
 (↑x : Int) (↑x : Int)
 n.d.bl
 (nilT
 (Int ×
 List Int)))).sy =
 (openD
 (Dk.mk false
 (leftF cuts x)
 (↑x : Int) (↑x : Int)
 n.d.bl
 (nilT
 (Int ×
 List Int)))).sy ∧
 True) ∧
 (True ∧ keep = keep ∧ True) ∧
 (DkOK
 (openD
 (Dk.mk false
 (leftF cuts x)
 (↑x : Int) (↑x : Int)
 n.d.bl [])) ∧
 (0 : Int) ≤
 (openD
 (Dk.mk false
 (leftF cuts x)
 (↑x : Int)
 (↑x : Int) n.d.bl
 [])).turn ∧
 (openD
 (Dk.mk false
 (leftF cuts x)
 (↑x : Int)
 (↑x : Int) n.d.bl
 [])).turn ≤
 (1000000 : Int)) ∧
 True ∧
 ((↑x : Int) = (0 : Int) →
 (↑x : Int) = (0 : Int) ∧
 Fits IntKind.i64
 cuts ∧
 ((0 : Int) ≤ cuts ∧
 (0 : Int) <
 (8 : Int)) ∧
 Fits IntKind.i64
 (cuts /
 (8 : Int)) ∧
 ((0 : Int) ≤
 cuts /
 (8 :
 Int) ∧
 (0 : Int) <
 (8 :
 Int)) ∧
 Fits
 IntKind.i64
 ((↑x :
 Int) +
 (1 :
 Int)) ∧
 ∃ (x' :
 Nat),
 x' ≤
 (2 :
 Nat) ∧
 (2 :
 Nat) -
 x' <
 (2 :
 Nat) -
 x ∧
 (Ent.gl
 (0 :
 Nat)
 t.fst
 (Value.iface
 t.snd
 u) =
 Ent.gl
 (0 :
 Nat)
 t.fst
 (Value.iface
 t.snd
 u) ∧
 g4_q2
 t
 u
 n
 cuts
 keep ∧
 ((True ∧
 false =
 false ∧
 max
 (cuts /
 (8 :
 Int) %
 (8 :
 Int))
 (0 :
 Int) =
 leftF
 cuts
 x' ∧
 (openD
 (Dk.mk
 false
 (leftF
 cuts
 x)
 (↑x :
 Int)
 (↑x :
 Int)
 n.d.bl
 (nilT
 (Int ×
 List
 Int)))).turn +
 (1 :
 Int) =
 (↑x' :
 Int) ∧
 (openD
 (Dk.mk
 false
 (leftF
 cuts
 x)
 (↑x :
 Int)
 (↑x :
 Int)
 n.d.bl
 (nilT
 (Int ×
 List
 Int)))).opened =
 (↑x' :
 Int) ∧
 True) ∧
 (True ∧
 True) ∧
 tearN
 keep
 (openD
 (Dk.mk
 false
 (leftF
 cuts
 x)
 (↑x :
 Int)
 (↑x :
 Int)
 n.d.bl
 (nilT
 (Int ×
 List
 Int)))).sy
 (keysF
 (openD
 (Dk.mk
 false
 (leftF
 cuts
 x)
 (↑x :
 Int)
 (↑x :
 Int)
 n.d.bl
 (nilT
 (Int ×
 List
 Int)))).sy)
 (openD
 (Dk.mk
 false
 (leftF
 cuts
 x)
 (↑x :
 Int)
 (↑x :
 Int)
 n.d.bl
 (nilT
 (Int ×
 List
 Int)))).bl
 (keysF
 (openD
 (Dk.mk
 false
 (leftF
 cuts
 x)
 (↑x :
 Int)
 (↑x :
 Int)
 n.d.bl
 (nilT
 (Int ×
 List
 Int)))).sy).length =
 n.d.bl) ∧
 nilT
 (Int ×
 List
 Int) =
 nilT
 (Int ×
 List
 Int) ∧
 True) ∧
 (↑x :
 Int) +
 (1 :
 Int) =
 (↑x' :
 Int) ∧
 True ∧
 True ∧
 cuts =
 cuts ∧
 keep =
 keep ∧
 True) ∧
 (¬(↑x : Int) = (0 : Int) →
 ¬(↑x : Int) =
 (0 : Int) ∧
 Fits IntKind.i64
 ((↑x : Int) +
 (1 : Int)) ∧
 ∃ (x' : Nat),
 x' ≤ (2 : Nat) ∧
 (2 : Nat) - x' <
 (2 : Nat) -
 x ∧
 (Ent.gl
 (0 :
 Nat)
 t.fst
 (Value.iface
 t.snd
 u) =
 Ent.gl
 (0 :
 Nat)
 t.fst
 (Value.iface
 t.snd
 u) ∧
 g4_q2 t u
 n cuts
 keep ∧
 ((True ∧
 false =
 false ∧
 (0 :
 Int) =
 leftF
 cuts
 x' ∧
 (openD
 (Dk.mk
 false
 (leftF
 cuts
 x)
 (↑x :
 Int)
 (↑x :
 Int)
 n.d.bl
 (nilT
 (Int ×
 List
 Int)))).turn +
 (1 :
 Int) =
 (↑x' :
 Int) ∧
 (openD
 (Dk.mk
 false
 (leftF
 cuts
 x)
 (↑x :
 Int)
 (↑x :
 Int)
 n.d.bl
 (nilT
 (Int ×
 List
 Int)))).opened =
 (↑x' :
 Int) ∧
 True) ∧
 (True ∧
 True) ∧
 tearN
 keep
 (openD
 (Dk.mk
 false
 (leftF
 cuts
 x)
 (↑x :
 Int)
 (↑x :
 Int)
 n.d.bl
 (nilT
 (Int ×
 List
 Int)))).sy
 (keysF
 (openD
 (Dk.mk
 false
 (leftF
 cuts
 x)
 (↑x :
 Int)
 (↑x :
 Int)
 n.d.bl
 (nilT
 (Int ×
 List
 Int)))).sy)
 (openD
 (Dk.mk
 false
 (leftF
 cuts
 x)
 (↑x :
 Int)
 (↑x :
 Int)
 n.d.bl
 (nilT
 (Int ×
 List
 Int)))).bl
 (keysF
 (openD
 (Dk.mk
 false
 (leftF
 cuts
 x)
 (↑x :
 Int)
 (↑x :
 Int)
 n.d.bl
 (nilT
 (Int ×
 List
 Int)))).sy).length =
 n.d.bl) ∧
 nilT
 (Int ×
 List
 Int) =
 nilT
 (Int ×
 List
 Int) ∧
 True) ∧
 (↑x : Int) +
 (1 :
 Int) =
 (↑x' :
 Int) ∧
 True ∧
 True ∧
 cuts =
 cuts ∧
 keep =
 keep ∧
 True))))))) ∧
 (¬¬(8 : Int) = (0 : Int) →
 ¬¬(8 : Int) = (0 : Int) ∧
 ¬¬(8 : Int) = (0 : Int) ∧
 ((8 : Int) = (0 : Int) → (8 : Int) = (0 : Int) ∧ False) ∧
 (¬(8 : Int) = (0 : Int) →
 ¬(8 : Int) = (0 : Int) ∧
 (false = true →
 True ∧
 (((True ∧
 false = false ∧
 leftF cuts x = leftF cuts x ∧
 (↑x : Int) = (↑x : Int) ∧ (↑x : Int) = (↑x : Int) ∧ True) ∧
 (True ∧ True) ∧ n.d.bl = n.d.bl) ∧
 nilT (Int × List Int) = nilT (Int × List Int) ∧ True) ∧
 (True ∧ True) ∧
 false = true ∧
 True ∧
 g4_q6 t u n cuts keep ∧
 (¬¬(8 : Int) = (8 : Int) →
 ¬¬(8 : Int) = (8 : Int) ∧
 ¬¬(8 : Int) = (8 : Int) ∧
 True ∧
 (((True ∧
 false = false ∧
 leftF cuts x = leftF cuts x ∧
 (↑x : Int) = (↑x : Int) ∧
 (↑x : Int) = (↑x : Int) ∧ True) ∧
 (True ∧ True) ∧ n.d.bl = n.d.bl) ∧
 nilT (Int × List Int) = nilT (Int × List Int) ∧
 True) ∧
 (True ∧ keep = keep ∧ True) ∧
 (DkOK
 (Dk.mk false (leftF cuts x) (↑x : Int)
 (↑x : Int) n.d.bl []) ∧
 (0 : Int) ≤ (↑x : Int) ∧
 (↑x : Int) ≤ (1000000 : Int)) ∧
 True ∧
 ((↑x : Int) = (0 : Int) →
 (↑x : Int) = (0 : Int) ∧
 Fits IntKind.i64 cuts ∧
 ((0 : Int) ≤ cuts ∧
 (0 : Int) < (8 : Int)) ∧
 Fits IntKind.i64
 (cuts / (8 : Int)) ∧
 ((0 : Int) ≤ cuts / (8 : Int) ∧
 (0 : Int) < (8 : Int)) ∧
 Fits IntKind.i64
 ((↑x : Int) + (1 : Int)) ∧
 ∃ (x' : Nat),
 x' ≤ (2 : Nat) ∧
 (2 : Nat) - x' <
 (2 : Nat) - x ∧
 (Ent.gl (0 : Nat) t.fst
 (Value.iface
 t.snd u) =
 Ent.gl (0 : Nat)
 t.fst
 (Value.iface
 t.snd u) ∧
 g4_q2 t u n cuts
 keep ∧
 ((True ∧
 false =
 false ∧
 max
 (cuts /
 (8 :
 Int) %
 (8 :
 Int))
 (0 :
 Int) =
 leftF
 cuts
 x' ∧
 (↑x :
 Int) +
 (1 :
 Int) =
 (↑x' :
 Int) ∧
 (↑x :
 Int) =
 (↑x' :
 Int) ∧
 True) ∧
 (True ∧
 True) ∧
 tearN keep
 (nilT
 (Int ×
 List
 Int))
 (keysF
 (nilT
 (Int ×
 List
 Int)))
 n.d.bl
 (keysF
 (nilT
 (Int ×
 List
 Int))).length =
 n.d.bl) ∧
 nilT
 (Int ×
 List
 Int) =
 nilT
 (Int ×
 List
 Int) ∧
 True) ∧
 (↑x : Int) +
 (1 : Int) =
 (↑x' : Int) ∧
 True ∧
 True ∧
 cuts = cuts ∧
 keep = keep ∧
 True) ∧
 (¬(↑x : Int) = (0 : Int) →
 ¬(↑x : Int) = (0 : Int) ∧
 Fits IntKind.i64
 ((↑x : Int) + (1 : Int)) ∧
 ∃ (x' : Nat),
 x' ≤ (2 : Nat) ∧
 (2 : Nat) - x' < (2 : Nat) - x ∧
 (Ent.gl (0 : Nat) t.fst
 (Value.iface t.snd u) =
 Ent.gl (0 : Nat) t.fst
 (Value.iface t.snd u) ∧
 g4_q2 t u n cuts keep ∧
 ((True ∧
 false = false ∧
 (0 : Int) =
 leftF cuts
 x' ∧
 (↑x : Int) +
 (1 :
 Int) =
 (↑x' :
 Int) ∧
 (↑x : Int) =
 (↑x' :
 Int) ∧
 True) ∧
 (True ∧ True) ∧
 tearN keep
 (nilT
 (Int ×
 List Int))
 (keysF
 (nilT
 (Int ×
 List
 Int)))
 n.d.bl
 (keysF
 (nilT
 (Int ×
 List
 Int))).length =
 n.d.bl) ∧
 nilT (Int × List Int) =
 nilT
 (Int × List Int) ∧
 True) ∧
 (↑x : Int) + (1 : Int) =
 (↑x' : Int) ∧
 True ∧
 True ∧
 cuts = cuts ∧
 keep = keep ∧
 True))) ∧
 (¬false = true →
 ((syncF
 (upD
 (Dk.mk false (leftF cuts x) (↑x : Int) (↑x : Int) n.d.bl
 (nilT (Int × List Int))))).fst =
 (0 : Int) →
 ∃ (r : Rt),
 ∃ (c : Cn),
 True ∧
 (((True ∧
 false = false ∧
 leftF cuts x = leftF cuts x ∧
 (↑x : Int) = (↑x : Int) ∧
 (↑x : Int) = (↑x : Int) ∧ True) ∧
 (True ∧ True) ∧ n.d.bl = n.d.bl) ∧
 nilT (Int × List Int) = nilT (Int × List Int) ∧
 Ent.gl (0 : Nat) t.fst (Value.iface t.snd u) =
 Ent.gl (0 : Nat) t.fst (Value.iface t.snd u) ∧
 True) ∧
 (True ∧ True) ∧
 (DkOK
 (Dk.mk false (leftF cuts x) (↑x : Int) (↑x : Int)
 n.d.bl []) ∧
 NewP n.d.bl r c ∧
 false = false ∧
 (syncF
 (upD
 (Dk.mk false (leftF cuts x) (↑x : Int)
 (↑x : Int) n.d.bl
 (nilT (Int × List Int))))).fst =
 (0 : Int) ∧
 (0 : Int) ≤ (↑x : Int) ∧
 (↑x : Int) ≤ (1000000 : Int)) ∧
 True ∧
 False ∧
 Ent.gl (0 : Nat) t.fst (Value.iface t.snd u) =
 Ent.gl (0 : Nat) t.fst (Value.iface t.snd u) ∧
 True) ∧
 (¬(syncF
 (upD
 (Dk.mk false (leftF cuts x) (↑x : Int) (↑x : Int) n.d.bl
 (nilT (Int × List Int))))).fst =
 (0 : Int) →
 ∃ (r : Rt),
 ∃ (c : Cn),
 True ∧
 (((True ∧
 false = false ∧
 leftF cuts x = leftF cuts x ∧
 (↑x : Int) = (↑x : Int) ∧
 (↑x : Int) = (↑x : Int) ∧ True) ∧
 (True ∧ True) ∧ n.d.bl = n.d.bl) ∧
 nilT (Int × List Int) = nilT (Int × List Int) ∧
 Ent.gl (0 : Nat) t.fst (Value.iface t.snd u) =
 Ent.gl (0 : Nat) t.fst (Value.iface t.snd u) ∧
 True) ∧
 (True ∧ True) ∧
 (DkOK
 (Dk.mk false (leftF cuts x) (↑x : Int) (↑x : Int)
 n.d.bl []) ∧
 NewP n.d.bl r c ∧
 false = false ∧
 (syncF
 (upD
 (Dk.mk false (leftF cuts x) (↑x : Int)
 (↑x : Int) n.d.bl
 (nilT (Int × List Int))))).fst =
 (8 : Int) ∧
 (0 : Int) ≤ (↑x : Int) ∧
 (↑x : Int) ≤ (1000000 : Int)) ∧
 True ∧
 g4_q6 t u n cuts keep ∧
 (¬¬(8 : Int) = (8 : Int) →
 ¬¬(8 : Int) = (8 : Int) ∧
 ¬¬(8 : Int) = (8 : Int) ∧
 True ∧
 (((True ∧
 (openD
 (Dk.mk false (leftF cuts x)
 (↑x : Int) (↑x : Int) n.d.bl
 (nilT
 (Int × List Int)))).down =
 (openD
 (Dk.mk false (leftF cuts x)
 (↑x : Int) (↑x : Int) n.d.bl
 (nilT
 (Int × List Int)))).down ∧
 (openD
 (Dk.mk false (leftF cuts x)
 (↑x : Int) (↑x : Int)
 n.d.bl
 (nilT
 (Int ×
 List Int)))).left =
 (openD
 (Dk.mk false (leftF cuts x)
 (↑x : Int) (↑x : Int)
 n.d.bl
 (nilT
 (Int ×
 List Int)))).left ∧
 (openD
 (Dk.mk false
 (leftF cuts x)
 (↑x : Int) (↑x : Int)
 n.d.bl
 (nilT
 (Int ×
 List Int)))).turn =
 (openD
 (Dk.mk false
 (leftF cuts x)
 (↑x : Int) (↑x : Int)
 n.d.bl
 (nilT
 (Int ×
 List Int)))).turn ∧
 (openD
 (Dk.mk false
 (leftF cuts x)
 (↑x : Int) (↑x : Int)
 n.d.bl
 (nilT
 (Int ×
 List
 Int)))).opened =
 (openD
 (Dk.mk false
 (leftF cuts x)
 (↑x : Int) (↑x : Int)
 n.d.bl
 (nilT
 (Int ×
 List
 Int)))).opened ∧
 True) ∧
 (True ∧ True) ∧
 (openD
 (Dk.mk false (leftF cuts x)
 (↑x : Int) (↑x : Int) n.d.bl
 (nilT (Int × List Int)))).bl =
 (openD
 (Dk.mk false (leftF cuts x)
 (↑x : Int) (↑x : Int) n.d.bl
 (nilT
 (Int × List Int)))).bl) ∧
 (openD
 (Dk.mk false (leftF cuts x)
 (↑x : Int) (↑x : Int) n.d.bl
 (nilT (Int × List Int)))).sy =
 (openD
 (Dk.mk false (leftF cuts x)
 (↑x : Int) (↑x : Int) n.d.bl
 (nilT (Int × List Int)))).sy ∧
 True) ∧
 (True ∧ keep = keep ∧ True) ∧
 (DkOK
 (openD
 (Dk.mk false (leftF cuts x)
 (↑x : Int) (↑x : Int) n.d.bl
 [])) ∧
 (0 : Int) ≤
 (openD
 (Dk.mk false (leftF cuts x)
 (↑x : Int) (↑x : Int) n.d.bl
 [])).turn ∧
 (openD
 (Dk.mk false (leftF cuts x)
 (↑x : Int) (↑x : Int) n.d.bl
 [])).turn ≤
 (1000000 : Int)) ∧
 True ∧
 ((↑x : Int) = (0 : Int) →
 (↑x : Int) = (0 : Int) ∧
 Fits IntKind.i64 cuts ∧
 ((0 : Int) ≤ cuts ∧
 (0 : Int) < (8 : Int)) ∧
 Fits IntKind.i64
 (cuts / (8 : Int)) ∧
 ((0 : Int) ≤
 cuts / (8 : Int) ∧
 (0 : Int) <
 (8 : Int)) ∧
 Fits IntKind.i64
 ((↑x : Int) +
 (1 : Int)) ∧
 ∃ (x' : Nat),
 x' ≤ (2 : Nat) ∧
 (2 : Nat) - x' <
 (2 : Nat) -
 x ∧
 (Ent.gl
 (0 :
 Nat)
 t.fst
 (Value.iface
 t.snd
 u) =
 Ent.gl
 (0 :
 Nat)
 t.fst
 (Value.iface
 t.snd
 u) ∧
 g4_q2 t u n
 cuts
 keep ∧
 ((True ∧
 false =
 false ∧
 max
 (cuts /
 (8 :
 Int) %
 (8 :
 Int))
 (0 :
 Int) =
 leftF
 cuts
 x' ∧
 (openD
 (Dk.mk
 false
 (leftF
 cuts
 x)
 (↑x :
 Int)
 (↑x :
 Int)
 n.d.bl
 (nilT
 (Int ×
 List
 Int)))).turn +
 (1 :
 Int) =
 (↑x' :
 Int) ∧
 (openD
 (Dk.mk
 false
 (leftF
 cuts
 x)
 (↑x :
 Int)
 (↑x :
 Int)
 n.d.bl
 (nilT
 (Int ×
 List
 Int)))).opened =
 (↑x' :
 Int) ∧
 True) ∧
 (True ∧
 True) ∧
 tearN
 keep
 (openD
 (Dk.mk
 false
 (leftF
 cuts
 x)
 (↑x :
 Int)
 (↑x :
 Int)
 n.d.bl
 (nilT
 (Int ×
 List
 Int)))).sy
 (keysF
 (openD
 (Dk.mk
 false
 (leftF
 cuts
 x)
 (↑x :
 Int)
 (↑x :
 Int)
 n.d.bl
 (nilT
 (Int ×
 List
 Int)))).sy)
 (openD
 (Dk.mk
 false
 (leftF
 cuts
 x)
 (↑x :
 Int)
 (↑x :
 Int)
 n.d.bl
 (nilT
 (Int ×
 List
 Int)))).bl
 (keysF
 (openD
 (Dk.mk
 false
 (leftF
 cuts
 x)
 (↑x :
 Int)
 (↑x :
 Int)
 n.d.bl
 (nilT
 (Int ×
 List
 Int)))).sy).length =
 n.d.bl) ∧
 nilT
 (Int ×
 List
 Int) =
 nilT
 (Int ×
 List
 Int) ∧
 True) ∧
 (↑x : Int) +
 (1 :
 Int) =
 (↑x' :
 Int) ∧
 True ∧
 True ∧
 cuts =
 cuts ∧
 keep =
 keep ∧
 True) ∧
 (¬(↑x : Int) = (0 : Int) →
 ¬(↑x : Int) = (0 : Int) ∧
 Fits IntKind.i64
 ((↑x : Int) + (1 : Int)) ∧
 ∃ (x' : Nat),
 x' ≤ (2 : Nat) ∧
 (2 : Nat) - x' <
 (2 : Nat) - x ∧
 (Ent.gl (0 : Nat) t.fst
 (Value.iface
 t.snd u) =
 Ent.gl (0 : Nat)
 t.fst
 (Value.iface
 t.snd u) ∧
 g4_q2 t u n cuts
 keep ∧
 ((True ∧
 false =
 false ∧
 (0 :
 Int) =
 leftF
 cuts
 x' ∧
 (openD
 (Dk.mk
 false
 (leftF
 cuts
 x)
 (↑x :
 Int)
 (↑x :
 Int)
 n.d.bl
 (nilT
 (Int ×
 List
 Int)))).turn +
 (1 :
 Int) =
 (↑x' :
 Int) ∧
 (openD
 (Dk.mk
 false
 (leftF
 cuts
 x)
 (↑x :
 Int)
 (↑x :
 Int)
 n.d.bl
 (nilT
 (Int ×
 List
 Int)))).opened =
 (↑x' :
 Int) ∧
 True) ∧
 (True ∧
 True) ∧
 tearN keep
 (openD
 (Dk.mk
 false
 (leftF
 cuts
 x)
 (↑x :
 Int)
 (↑x :
 Int)
 n.d.bl
 (nilT
 (Int ×
 List
 Int)))).sy
 (keysF
 (openD
 (Dk.mk
 false
 (leftF
 cuts
 x)
 (↑x :
 Int)
 (↑x :
 Int)
 n.d.bl
 (nilT
 (Int ×
 List
 Int)))).sy)
 (openD
 (Dk.mk
 false
 (leftF
 cuts
 x)
 (↑x :
 Int)
 (↑x :
 Int)
 n.d.bl
 (nilT
 (Int ×
 List
 Int)))).bl
 (keysF
 (openD
 (Dk.mk
 false
 (leftF
 cuts
 x)
 (↑x :
 Int)
 (↑x :
 Int)
 n.d.bl
 (nilT
 (Int ×
 List
 Int)))).sy).length =
 n.d.bl) ∧
 nilT
 (Int ×
 List
 Int) =
 nilT
 (Int ×
 List
 Int) ∧
 True) ∧
 (↑x : Int) +
 (1 : Int) =
 (↑x' : Int) ∧
 True ∧
 True ∧
 cuts = cuts ∧
 keep = keep ∧
 True))))))))) ∧
 (¬false = true →
 ((syncF (upD (Dk.mk false (leftF cuts x) (↑x : Int) (↑x : Int) n.d.bl (nilT (Int × List Int))))).fst = (0 : Int) →
 ∃ (r : Rt),
 ∃ (c : Cn),
 True ∧
 (((True ∧
 false = false ∧
 leftF cuts x = leftF cuts x ∧ (↑x : Int) = (↑x : Int) ∧ (↑x : Int) = (↑x : Int) ∧ True) ∧
 (True ∧ True) ∧ n.d.bl = n.d.bl) ∧
 nilT (Int × List Int) = nilT (Int × List Int) ∧
 Ent.gl (0 : Nat) t.fst (Value.iface t.snd u) = Ent.gl (0 : Nat) t.fst (Value.iface t.snd u) ∧ True) ∧
 (True ∧ True) ∧
 (DkOK (Dk.mk false (leftF cuts x) (↑x : Int) (↑x : Int) n.d.bl []) ∧
 NewP n.d.bl r c ∧
 false = false ∧
 (syncF
 (upD
 (Dk.mk false (leftF cuts x) (↑x : Int) (↑x : Int) n.d.bl
 (nilT (Int × List Int))))).fst =
 (0 : Int) ∧
 (0 : Int) ≤ (↑x : Int) ∧ (↑x : Int) ≤ (1000000 : Int)) ∧
 True ∧
 (¬(openD (Dk.mk false (leftF cuts x) (↑x : Int) (↑x : Int) n.d.bl (nilT (Int × List Int)))).down =
 decide ((0 : Int) = (8 : Int)) →
 ¬(openD (Dk.mk false (leftF cuts x) (↑x : Int) (↑x : Int) n.d.bl (nilT (Int × List Int)))).down =
 decide ((0 : Int) = (8 : Int)) ∧
 ¬(openD
 (Dk.mk false (leftF cuts x) (↑x : Int) (↑x : Int) n.d.bl
 (nilT (Int × List Int)))).down =
 decide ((0 : Int) = (8 : Int)) ∧
 False ∧
 Ent.gl (0 : Nat) t.fst (Value.iface t.snd u) =
 Ent.gl (0 : Nat) t.fst (Value.iface t.snd u) ∧
 True) ∧
 (¬¬(openD (Dk.mk false (leftF cuts x) (↑x : Int) (↑x : Int) n.d.bl (nilT (Int × List Int)))).down =
 decide ((0 : Int) = (8 : Int)) →
 ¬¬(openD (Dk.mk false (leftF cuts x) (↑x : Int) (↑x : Int) n.d.bl (nilT (Int × List Int)))).down =
 decide ((0 : Int) = (8 : Int)) ∧
 ¬¬(openD
 (Dk.mk false (leftF cuts x) (↑x : Int) (↑x : Int) n.d.bl
 (nilT (Int × List Int)))).down =
 decide ((0 : Int) = (8 : Int)) ∧
 (¬false = false →
 ¬false = false ∧
 ¬false = false ∧
 ¬false = false ∧
 False ∧
 Ent.gl (0 : Nat) t.fst (Value.iface t.snd u) =
 Ent.gl (0 : Nat) t.fst (Value.iface t.snd u) ∧
 True) ∧
 (¬¬false = false →
 ¬¬false = false ∧
 ¬¬false = false ∧
 ¬¬false = false ∧
 (¬(0 : Int) = (0 : Int) →
 ¬(0 : Int) = (0 : Int) ∧
 ¬(0 : Int) = (0 : Int) ∧
 (¬(0 : Int) = (8 : Int) →
 ¬(0 : Int) = (8 : Int) ∧
 ¬(0 : Int) = (8 : Int) ∧
 ¬(0 : Int) = (8 : Int) ∧
 False ∧
 Ent.gl (0 : Nat) t.fst (Value.iface t.snd u) =
 Ent.gl (0 : Nat) t.fst (Value.iface t.snd u) ∧
 True) ∧
 (¬¬(0 : Int) = (8 : Int) →
 ¬¬(0 : Int) = (8 : Int) ∧
 ¬¬(0 : Int) = (8 : Int) ∧
 ¬¬(0 : Int) = (8 : Int) ∧
 ((0 : Int) = (0 : Int) →
 (0 : Int) = (0 : Int) ∧
 True ∧
 (((True ∧
 (openD
 (Dk.mk false (leftF cuts x) (↑x : Int)
 (↑x : Int) n.d.bl
 (nilT (Int × List Int)))).down =
 (openD
 (Dk.mk false (leftF cuts x) (↑x : Int)
 (↑x : Int) n.d.bl
 (nilT (Int × List Int)))).down ∧
 max (0 : Int) (0 : Int) =
 max (0 : Int) (0 : Int) ∧
 (openD
 (Dk.mk false (leftF cuts x) (↑x : Int)
 (↑x : Int) n.d.bl
 (nilT (Int × List Int)))).turn =
 (openD
 (Dk.mk false (leftF cuts x) (↑x : Int)
 (↑x : Int) n.d.bl
 (nilT (Int × List Int)))).turn ∧
 (openD
 (Dk.mk false (leftF cuts x)
 (↑x : Int) (↑x : Int) n.d.bl
 (nilT (Int × List Int)))).opened =
 (openD
 (Dk.mk false (leftF cuts x)
 (↑x : Int) (↑x : Int) n.d.bl
 (nilT (Int × List Int)))).opened ∧
 True) ∧
 (True ∧ True) ∧
 (openD
 (Dk.mk false (leftF cuts x) (↑x : Int)
 (↑x : Int) n.d.bl
 (nilT (Int × List Int)))).bl =
 (openD
 (Dk.mk false (leftF cuts x) (↑x : Int)
 (↑x : Int) n.d.bl
 (nilT (Int × List Int)))).bl) ∧
 (openD
 (Dk.mk false (leftF cuts x) (↑x : Int)
 (↑x : Int) n.d.bl
 (nilT (Int × List Int)))).sy =
 (openD
 (Dk.mk false (leftF cuts x) (↑x : Int)
 (↑x : Int) n.d.bl
 (nilT (Int × List Int)))).sy ∧
 (True ∧
 false = false ∧
 True ∧
 (openD
 (Dk.mk false (leftF cuts x)
 (↑x : Int) (↑x : Int) n.d.bl
 (nilT (Int × List Int)))).turn =
 (openD
 (Dk.mk false (leftF cuts x)
 (↑x : Int) (↑x : Int) n.d.bl
 (nilT (Int × List Int)))).turn ∧
 (openD
 (Dk.mk false (leftF cuts x)
 (↑x : Int) (↑x : Int) n.d.bl
 (nilT
 (Int × List Int)))).opened =
 (openD
 (Dk.mk false (leftF cuts x)
 (↑x : Int) (↑x : Int) n.d.bl
 (nilT
 (Int × List Int)))).opened ∧
 r.fst = r.fst ∧
 r.snd.fst = r.snd.fst ∧
 r.snd.snd = r.snd.snd ∧
 false = false ∧
 c.fst = c.fst ∧
 c.snd.fst = c.snd.fst ∧
 True ∧ True) ∧
 c.snd.snd = c.snd.snd ∧ True) ∧
 (True ∧ True) ∧
 (c.snd.snd.length ≤ (40 : Nat) ∧
 (↑c.snd.snd.length : Int) ≤ c.fst ∧
 c.fst ≤ (1000000000 : Int)) ∧
 True ∧
 True ∧
 (((True ∧
 (openD
 (Dk.mk false (leftF cuts x)
 (↑x : Int) (↑x : Int) n.d.bl
 (nilT
 (Int × List Int)))).down =
 (openD
 (Dk.mk false (leftF cuts x)
 (↑x : Int) (↑x : Int) n.d.bl
 (nilT
 (Int × List Int)))).down ∧
 max (0 : Int) (0 : Int) =
 max (0 : Int) (0 : Int) ∧
 (openD
 (Dk.mk false (leftF cuts x)
 (↑x : Int) (↑x : Int)
 n.d.bl
 (nilT
 (Int ×
 List Int)))).turn =
 (openD
 (Dk.mk false (leftF cuts x)
 (↑x : Int) (↑x : Int)
 n.d.bl
 (nilT
 (Int ×
 List Int)))).turn ∧
 (openD
 (Dk.mk false
 (leftF cuts x)
 (↑x : Int) (↑x : Int)
 n.d.bl
 (nilT
 (Int ×
 List
 Int)))).opened =
 (openD
 (Dk.mk false
 (leftF cuts x)
 (↑x : Int) (↑x : Int)
 n.d.bl
 (nilT
 (Int ×
 List
 Int)))).opened ∧
 True) ∧
 (True ∧ True) ∧
 (openD
 (Dk.mk false (leftF cuts x)
 (↑x : Int) (↑x : Int) n.d.bl
 (nilT (Int × List Int)))).bl =
 (openD
 (Dk.mk false (leftF cuts x)
 (↑x : Int) (↑x : Int) n.d.bl
 (nilT (Int × List Int)))).bl) ∧
 (openD
 (Dk.mk false (leftF cuts x)
 (↑x : Int) (↑x : Int) n.d.bl
 (nilT (Int × List Int)))).sy =
 (openD
 (Dk.mk false (leftF cuts x)
 (↑x : Int) (↑x : Int) n.d.bl
 (nilT (Int × List Int)))).sy ∧
 (True ∧
 false = false ∧
 True ∧
 (openD
 (Dk.mk false
 (leftF cuts x)
 (↑x : Int) (↑x : Int)
 n.d.bl
 (nilT
 (Int ×
 List Int)))).turn =
 (openD
 (Dk.mk false
 (leftF cuts x)
 (↑x : Int) (↑x : Int)
 n.d.bl
 (nilT
 (Int ×
 List Int)))).turn ∧
 (openD
 (Dk.mk false
 (leftF cuts x)
 (↑x : Int) (↑x : Int)
 n.d.bl
 (nilT
 (Int ×
 List
 Int)))).opened =
 (openD
 (Dk.mk false
 (leftF cuts x)
 (↑x : Int) (↑x : Int)
 n.d.bl
 (nilT
 (Int ×
 List
 Int)))).opened ∧
 r.fst = r.fst ∧
 r.snd.fst = r.snd.fst ∧
 r.snd.snd = r.snd.snd ∧
 false = false ∧
 c.fst = c.fst ∧
 c.snd.fst =
 c.snd.fst ∧
 True ∧ True) ∧
 c.snd.snd = c.snd.snd ∧ True) ∧
 (True ∧
 ByteArray.mk #[(107 : UInt8)] =
 ByteArray.mk #[(107 : UInt8)] ∧
 True) ∧
 ((false = false ∧
 (openD
 (Dk.mk false (leftF cuts x)
 (↑x : Int) (↑x : Int) n.d.bl
 (nilT
 (Int × List Int)))).turn =
 (openD
 (Dk.mk false (leftF cuts x)
 (↑x : Int) (↑x : Int) n.d.bl
 (nilT
 (Int × List Int)))).turn ∧
 (openD
 (Dk.mk false (leftF cuts x)
 (↑x : Int) (↑x : Int) n.d.bl
 (nilT
 (Int ×
 List Int)))).opened =
 (openD
 (Dk.mk false (leftF cuts x)
 (↑x : Int) (↑x : Int) n.d.bl
 (nilT
 (Int ×
 List Int)))).opened) ∧
 (ByteArray.mk #[(107 : UInt8)]).size ≤
 (24 : Nat) ∧
 c.snd.snd.length < (40 : Nat) ∧
 (0 : Int) ≤ c.fst ∧
 c.fst ≤ (1000000 : Int)) ∧
 True ∧
 c.snd.snd.length ≤ (1000000 : Nat) ∧
 (decide
 ((c.fst, c.snd.snd,
 c.snd.fst) =
 ((0 : Int), nilT ByteArray,
 (0 : Int))) =
 true →
 decide
 ((c.fst, c.snd.snd,
 c.snd.fst) =
 ((0 : Int),
 nilT ByteArray,
 (0 : Int))) =
 true ∧
 decide
 ((c.fst, c.snd.snd,
 c.snd.fst) =
 ((0 : Int),
 nilT ByteArray,
 (0 : Int))) =
 true ∧
 decide
 ((c.fst, c.snd.snd,
 c.snd.fst) =
 ((0 : Int),
 nilT ByteArray,
 (0 : Int))) =
 true ∧
 (true = true →
 true = true ∧
 true = true ∧
 true = true ∧
 (c.fst +
 (1 :
 Int) =
 (1 : Int) →
 c.fst +
 (1 :
 Int) =
 (1 :
 Int) ∧
 c.fst +
 (1 :
 Int) =
 (1 :
 Int) ∧
 c.fst +
 (1 :
 Int) =
 (1 :
 Int) ∧
 ((0 :
 Int) =
 (0 :
 Int) →
 (0 :
 Int) =
 (0 :
 Int) ∧
 (0 :
 Int) =
 (0 :
 Int) ∧
 (0 :
 Int) =
 (0 :
 Int) ∧
 True ∧
 (((True ∧
 (openD
 (Dk.mk
 false
 (leftF
 cuts
 x)
 (↑x :
 Int)
 (↑x :
 Int)
 n.d.bl
 (nilT
 (Int ×
 List
 Int)))).down =
 (openD
 (Dk.mk
 false
 (leftF
 cuts
 x)
 (↑x :
 Int)
 (↑x :
 Int)
 n.d.bl
 (nilT
 (Int ×
 List
 Int)))).down ∧
 max
 (0 :
 Int)
 (0 :
 Int) =
 max
 (0 :
 Int)
 (0 :
 Int) ∧
 (openD
 (Dk.mk
 false
 (leftF
 cuts
 x)
 (↑x :
 Int)
 (↑x :
 Int)
 n.d.bl
 (nilT
 (Int ×
 List
 Int)))).turn =
 (openD
 (Dk.mk
 false
 (leftF
 cuts
 x)
 (↑x :
 Int)
 (↑x :
 Int)
 n.d.bl
 (nilT
 (Int ×
 List
 Int)))).turn ∧
 (openD
 (Dk.mk
 false
 (leftF
 cuts
 x)
 (↑x :
 Int)
 (↑x :
 Int)
 n.d.bl
 (nilT
 (Int ×
 List
 Int)))).opened =
 (openD
 (Dk.mk
 false
 (leftF
 cuts
 x)
 (↑x :
 Int)
 (↑x :
 Int)
 n.d.bl
 (nilT
 (Int ×
 List
 Int)))).opened ∧
 True) ∧
 (True ∧
 True) ∧
 (openD
 (Dk.mk
 false
 (leftF
 cuts
 x)
 (↑x :
 Int)
 (↑x :
 Int)
 n.d.bl
 (nilT
 (Int ×
 List
 Int)))).bl =
 (openD
 (Dk.mk
 false
 (leftF
 cuts
 x)
 (↑x :
 Int)
 (↑x :
 Int)
 n.d.bl
 (nilT
 (Int ×
 List
 Int)))).bl) ∧
 (openD
 (Dk.mk
 false
 (leftF
 cuts
 x)
 (↑x :
 Int)
 (↑x :
 Int)
 n.d.bl
 (nilT
 (Int ×
 List
 Int)))).sy =
 (openD
 (Dk.mk
 false
 (leftF
 cuts
 x)
 (↑x :
 Int)
 (↑x :
 Int)
 n.d.bl
 (nilT
 (Int ×
 List
 Int)))).sy ∧
 (True ∧
 false =
 false ∧
 True ∧
 (openD
 (Dk.mk
 false
 (leftF
 cuts
 x)
 (↑x :
 Int)
 (↑x :
 Int)
 n.d.bl
 (nilT
 (Int ×
 List
 Int)))).turn =
 (openD
 (Dk.mk
 false
 (leftF
 cuts
 x)
 (↑x :
 Int)
 (↑x :
 Int)
 n.d.bl
 (nilT
 (Int ×
 List
 Int)))).turn ∧
 (openD
 (Dk.mk
 false
 (leftF
 cuts
 x)
 (↑x :
 Int)
 (↑x :
 Int)
 n.d.bl
 (nilT
 (Int ×
 List
 Int)))).opened =
 (openD
 (Dk.mk
 false
 (leftF
 cuts
 x)
 (↑x :
 Int)
 (↑x :
 Int)
 n.d.bl
 (nilT
 (Int ×
 List
 Int)))).opened ∧
 r.fst =
 r.fst ∧
 r.snd.fst =
 r.snd.fst ∧
 r.snd.snd =
 r.snd.snd ∧
 true =
 true ∧
 c.fst +
 (1 :
 Int) =
 c.fst +
 (1 :
 Int) ∧
 c.snd.fst =
 c.snd.fst ∧
 True ∧
 True) ∧
 addC
 c.snd.snd
 (ByteArray.mk
 #[(107 :
 UInt8)]) =
 addC
 c.snd.snd
 (ByteArray.mk
 #[(107 :
 UInt8)]) ∧
 True) ∧
 (True ∧
 True) ∧
 ((DkOK
 (Dk.mk
 (openD
 (Dk.mk
 false
 (leftF
 cuts
 x)
 (↑x :
 Int)
 (↑x :
 Int)
 n.d.bl
 [])).down
 (max
 (0 :
 Int)
 (0 :
 Int))
 (openD
 (Dk.mk
 false
 (leftF
 cuts
 x)
 (↑x :
 Int)
 (↑x :
 Int)
 n.d.bl
 [])).turn
 (openD
 (Dk.mk
 false
 (leftF
 cuts
 x)
 (↑x :
 Int)
 (↑x :
 Int)
 n.d.bl
 [])).opened
 (openD
 (Dk.mk
 false
 (leftF
 cuts
 x)
 (↑x :
 Int)
 (↑x :
 Int)
 n.d.bl
 [])).bl
 (openD
 (Dk.mk
 false
 (leftF
 cuts
 x)
 (↑x :
 Int)
 (↑x :
 Int)
 n.d.bl
 [])).sy) ∧
 (((0 :
 Int) ≤
 c.fst +
 (1 :
 Int) ∧
 c.fst +
 (1 :
 Int) <
 (281474976710656 :
 Int)) ∧
 ((0 :
 Int) ≤
 c.snd.fst ∧
 c.snd.fst <
 (281474976710656 :
 Int)) ∧
 (addC
 c.snd.snd
 (ByteArray.mk
 #[(107 :
 UInt8)])).length ≤
 (40 :
 Nat) ∧
 ∀
 (s :
 ByteArray),
 s ∈
 addC
 c.snd.snd
 (ByteArray.mk
 #[(107 :
 UInt8)]) →
 s.size ≤
 (24 :
 Nat)) ∧
 (0 :
 Int) ≤
 r.fst ∧
 r.fst ≤
 (1000000 :
 Int)) ∧
 (false =
 false ∧
 (openD
 (Dk.mk
 false
 (leftF
 cuts
 x)
 (↑x :
 Int)
 (↑x :
 Int)
 n.d.bl
 (nilT
 (Int ×
 List
 Int)))).turn =
 (openD
 (Dk.mk
 false
 (leftF
 cuts
 x)
 (↑x :
 Int)
 (↑x :
 Int)
 n.d.bl
 (nilT
 (Int ×
 List
 Int)))).turn ∧
 (openD
 (Dk.mk
 false
 (leftF
 cuts
 x)
 (↑x :
 Int)
 (↑x :
 Int)
 n.d.bl
 (nilT
 (Int ×
 List
 Int)))).opened =
 (openD
 (Dk.mk
 false
 (leftF
 cuts
 x)
 (↑x :
 Int)
 (↑x :
 Int)
 n.d.bl
 (nilT
 (Int ×
 List
 Int)))).opened) ∧
 true =
 true ∧
 (writeL
 (Dk.mk
 (openD
 (Dk.mk
 false
 (leftF
 cuts
 x)
 (↑x :
 Int)
 (↑x :
 Int)
 n.d.bl
 (nilT
 (Int ×
 List
 Int)))).down
 (max
 (0 :
 Int)
 (0 :
 Int))
 (openD
 (Dk.mk
 false
 (leftF
 cuts
 x)
 (↑x :
 Int)
 (↑x :
 Int)
 n.d.bl
 (nilT
 (Int ×
 List
 Int)))).turn
 (openD
 (Dk.mk
 false
 (leftF
 cuts
 x)
 (↑x :
 Int)
 (↑x :
 Int)
 n.d.bl
 (nilT
 (Int ×
 List
 Int)))).opened
 (openD
 (Dk.mk
 false
 (leftF
 cuts
 x)
 (↑x :
 Int)
 (↑x :
 Int)
 n.d.bl
 (nilT
 (Int ×
 List
 Int)))).bl
 (openD
 (Dk.mk
 false
 (leftF
 cuts
 x)
 (↑x :
 Int)
 (↑x :
 Int)
 n.d.bl
 (nilT
 (Int ×
 List
 Int)))).sy)
 (Ls.mk
 false
 (openD
 (Dk.mk
 false
 (leftF
 cuts
 x)
 (↑x :
 Int)
 (↑x :
 Int)
 n.d.bl
 (nilT
 (Int ×
 List
 Int)))).turn
 (openD
 (Dk.mk
 false
 (leftF
 cuts
 x)
 (↑x :
 Int)
 (↑x :
 Int)
 n.d.bl
 (nilT
 (Int ×
 List
 Int)))).opened
 r
 true
 (c.fst +
 (1 :
 Int),
 c.snd.fst,
 addC
 c.snd.snd
 (ByteArray.mk
 #[(107 :
 UInt8)])))).fst =
 (0 :
 Int)) ∧
 True ∧
 (0 :
 Int) =
 (0 :
 Int) ∧
 Ent.gl
 (0 :
 Nat)
 t.fst
 (Value.iface
 t.snd
 u) =
 Ent.gl
 (0 :
 Nat)
 t.fst
 (Value.iface
 t.snd
 u) ∧
 True) ∧
 g4_q7
 t u
 n
 cuts
 keep) ∧
 (¬c.fst +
 (1 :
 Int) =
 (1 :
 Int) →
 ¬c.fst +
 (1 :
 Int) =
 (1 :
 Int) ∧
 ¬c.fst +
 (1 :
 Int) =
 (1 :
 Int) ∧
 ¬c.fst +
 (1 :
 Int) =
 (1 :
 Int) ∧
 False ∧
 Ent.gl
 (0 :
 Nat)
 t.fst
 (Value.iface
 t.snd
 u) =
 Ent.gl
 (0 :
 Nat)
 t.fst
 (Value.iface
 t.snd
 u) ∧
 True)) ∧
 (true = false →
 true = false ∧
 true = false ∧
 true = false ∧
 False ∧
 Ent.gl (0 : Nat)
 t.fst
 (Value.iface
 t.snd
 u) =
 Ent.gl
 (0 : Nat)
 t.fst
 (Value.iface
 t.snd
 u) ∧
 True)) ∧
 (decide
 ((c.fst, c.snd.snd,
 c.snd.fst) =
 ((0 : Int), nilT ByteArray,
 (0 : Int))) =
 false →
 decide
 ((c.fst, c.snd.snd,
 c.snd.fst) =
 ((0 : Int),
 nilT ByteArray,
 (0 : Int))) =
 false ∧
 decide
 ((c.fst, c.snd.snd,
 c.snd.fst) =
 ((0 : Int),
 nilT ByteArray,
 (0 : Int))) =
 false ∧
 decide
 ((c.fst, c.snd.snd,
 c.snd.fst) =
 ((0 : Int),
 nilT ByteArray,
 (0 : Int))) =
 false ∧
 False ∧
 Ent.gl (0 : Nat) t.fst
 (Value.iface t.snd
 u) =
 Ent.gl (0 : Nat) t.fst
 (Value.iface t.snd
 u) ∧
 True)) ∧
 (¬(0 : Int) = (0 : Int) →
 ¬(0 : Int) = (0 : Int) ∧
 ((openD
 (Dk.mk false (leftF cuts x) (↑x : Int) (↑x : Int)
 n.d.bl (nilT (Int × List Int)))).down =
 true →
 True ∧
 (((True ∧
 (openD
 (Dk.mk false (leftF cuts x) (↑x : Int)
 (↑x : Int) n.d.bl
 (nilT (Int × List Int)))).down =
 (openD
 (Dk.mk false (leftF cuts x) (↑x : Int)
 (↑x : Int) n.d.bl
 (nilT (Int × List Int)))).down ∧
 (openD
 (Dk.mk false (leftF cuts x)
 (↑x : Int) (↑x : Int) n.d.bl
 (nilT (Int × List Int)))).left =
 (openD
 (Dk.mk false (leftF cuts x)
 (↑x : Int) (↑x : Int) n.d.bl
 (nilT (Int × List Int)))).left ∧
 (openD
 (Dk.mk false (leftF cuts x)
 (↑x : Int) (↑x : Int) n.d.bl
 (nilT (Int × List Int)))).turn =
 (openD
 (Dk.mk false (leftF cuts x)
 (↑x : Int) (↑x : Int) n.d.bl
 (nilT (Int × List Int)))).turn ∧
 (openD
 (Dk.mk false (leftF cuts x)
 (↑x : Int) (↑x : Int) n.d.bl
 (nilT
 (Int × List Int)))).opened =
 (openD
 (Dk.mk false (leftF cuts x)
 (↑x : Int) (↑x : Int) n.d.bl
 (nilT
 (Int × List Int)))).opened ∧
 True) ∧
 (True ∧ True) ∧
 (openD
 (Dk.mk false (leftF cuts x) (↑x : Int)
 (↑x : Int) n.d.bl
 (nilT (Int × List Int)))).bl =
 (openD
 (Dk.mk false (leftF cuts x) (↑x : Int)
 (↑x : Int) n.d.bl
 (nilT (Int × List Int)))).bl) ∧
 (openD
 (Dk.mk false (leftF cuts x) (↑x : Int)
 (↑x : Int) n.d.bl
 (nilT (Int × List Int)))).sy =
 (openD
 (Dk.mk false (leftF cuts x) (↑x : Int)
 (↑x : Int) n.d.bl
 (nilT (Int × List Int)))).sy ∧
 True) ∧
 (True ∧ True) ∧
 (openD
 (Dk.mk false (leftF cuts x) (↑x : Int)
 (↑x : Int) n.d.bl
 (nilT (Int × List Int)))).down =
 true ∧
 True ∧
 g4_q6 t u n cuts keep ∧
 (¬¬(8 : Int) = (8 : Int) →
 ¬¬(8 : Int) = (8 : Int) ∧
 ¬¬(8 : Int) = (8 : Int) ∧
 True ∧
 (((True ∧
 (openD
 (Dk.mk false
 (leftF cuts x)
 (↑x : Int)
 (↑x : Int) n.d.bl
 (nilT
 (Int ×
 List
 Int)))).down =
 (openD
 (Dk.mk false
 (leftF cuts x)
 (↑x : Int)
 (↑x : Int) n.d.bl
 (nilT
 (Int ×
 List
 Int)))).down ∧
 (openD
 (Dk.mk false
 (leftF cuts x)
 (↑x : Int)
 (↑x : Int)
 n.d.bl
 (nilT
 (Int ×
 List
 Int)))).left =
 (openD
 (Dk.mk false
 (leftF cuts x)
 (↑x : Int)
 (↑x : Int)
 n.d.bl
 (nilT
 (Int ×
 List
 Int)))).left ∧
 (openD
 (Dk.mk false
 (leftF cuts x)
 (↑x : Int)
 (↑x : Int)
 n.d.bl
 (nilT
 (Int ×
 List
 Int)))).turn =
 (openD
 (Dk.mk false
 (leftF cuts x)
 (↑x : Int)
 (↑x : Int)
 n.d.bl
 (nilT
 (Int ×
 List
 Int)))).turn ∧
 (openD
 (Dk.mk false
 (leftF cuts
 x)
 (↑x : Int)
 (↑x : Int)
 n.d.bl
 (nilT
 (Int ×
 List
 Int)))).opened =
 (openD
 (Dk.mk false
 (leftF cuts
 x)
 (↑x : Int)
 (↑x : Int)
 n.d.bl
 (nilT
 (Int ×
 List
 Int)))).opened ∧
 True) ∧
 (True ∧ True) ∧
 (openD
 (Dk.mk false
 (leftF cuts x)
 (↑x : Int)
 (↑x : Int) n.d.bl
 (nilT
 (Int ×
 List
 Int)))).bl =
 (openD
 (Dk.mk false
 (leftF cuts x)
 (↑x : Int)
 (↑x : Int) n.d.bl
 (nilT
 (Int ×
 List
 Int)))).bl) ∧
 (openD
 (Dk.mk false
 (leftF cuts x)
 (↑x : Int) (↑x : Int)
 n.d.bl
 (nilT
 (Int ×
 List Int)))).sy =
 (openD
 (Dk.mk false
 (leftF cuts x)
 (↑x : Int) (↑x : Int)
 n.d.bl
 (nilT
 (Int ×
 List Int)))).sy ∧
 True) ∧
 (True ∧ keep = keep ∧ True) ∧
 (DkOK
 (openD
 (Dk.mk false
 (leftF cuts x)
 (↑x : Int) (↑x : Int)
 n.d.bl [])) ∧
 (0 : Int) ≤
 (openD
 (Dk.mk false
 (leftF cuts x)
 (↑x : Int)
 (↑x : Int) n.d.bl
 [])).turn ∧
 (openD
 (Dk.mk false
 (leftF cuts x)
 (↑x : Int)
 (↑x : Int) n.d.bl
 [])).turn ≤
 (1000000 : Int)) ∧
 True ∧
 ((↑x : Int) = (0 : Int) →
 (↑x : Int) = (0 : Int) ∧
 Fits IntKind.i64
 cuts ∧
 ((0 : Int) ≤ cuts ∧
 (0 : Int) <
 (8 : Int)) ∧
 Fits IntKind.i64
 (cuts /
 (8 : Int)) ∧
 ((0 : Int) ≤
 cuts /
 (8 :
 Int) ∧
 (0 : Int) <
 (8 :
 Int)) ∧
 Fits
 IntKind.i64
 ((↑x :
 Int) +
 (1 :
 Int)) ∧
 ∃ (x' :
 Nat),
 x' ≤
 (2 :
 Nat) ∧
 (2 :
 Nat) -
 x' <
 (2 :
 Nat) -
 x ∧
 (Ent.gl
 (0 :
 Nat)
 t.fst
 (Value.iface
 t.snd
 u) =
 Ent.gl
 (0 :
 Nat)
 t.fst
 (Value.iface
 t.snd
 u) ∧
 g4_q2
 t
 u
 n
 cuts
 keep ∧
 ((True ∧
 false =
 false ∧
 max
 (cuts /
 (8 :
 Int) %
 (8 :
 Int))
 (0 :
 Int) =
 leftF
 cuts
 x' ∧
 (openD
 (Dk.mk
 false
 (leftF
 cuts
 x)
 (↑x :
 Int)
 (↑x :
 Int)
 n.d.bl
 (nilT
 (Int ×
 List
 Int)))).turn +
 (1 :
 Int) =
 (↑x' :
 Int) ∧
 (openD
 (Dk.mk
 false
 (leftF
 cuts
 x)
 (↑x :
 Int)
 (↑x :
 Int)
 n.d.bl
 (nilT
 (Int ×
 List
 Int)))).opened =
 (↑x' :
 Int) ∧
 True) ∧
 (True ∧
 True) ∧
 tearN
 keep
 (openD
 (Dk.mk
 false
 (leftF
 cuts
 x)
 (↑x :
 Int)
 (↑x :
 Int)
 n.d.bl
 (nilT
 (Int ×
 List
 Int)))).sy
 (keysF
 (openD
 (Dk.mk
 false
 (leftF
 cuts
 x)
 (↑x :
 Int)
 (↑x :
 Int)
 n.d.bl
 (nilT
 (Int ×
 List
 Int)))).sy)
 (openD
 (Dk.mk
 false
 (leftF
 cuts
 x)
 (↑x :
 Int)
 (↑x :
 Int)
 n.d.bl
 (nilT
 (Int ×
 List
 Int)))).bl
 (keysF
 (openD
 (Dk.mk
 false
 (leftF
 cuts
 x)
 (↑x :
 Int)
 (↑x :
 Int)
 n.d.bl
 (nilT
 (Int ×
 List
 Int)))).sy).length =
 n.d.bl) ∧
 nilT
 (Int ×
 List
 Int) =
 nilT
 (Int ×
 List
 Int) ∧
 True) ∧
 (↑x :
 Int) +
 (1 :
 Int) =
 (↑x' :
 Int) ∧
 True ∧
 True ∧
 cuts =
 cuts ∧
 keep =
 keep ∧
 True) ∧
 (¬(↑x : Int) = (0 : Int) →
 ¬(↑x : Int) =
 (0 : Int) ∧
 Fits IntKind.i64
 ((↑x : Int) +
 (1 : Int)) ∧
 ∃ (x' : Nat),
 x' ≤ (2 : Nat) ∧
 (2 : Nat) - x' <
 (2 : Nat) -
 x ∧
 (Ent.gl
 (0 :
 Nat)
 t.fst
 (Value.iface
 t.snd
 u) =
 Ent.gl
 (0 :
 Nat)
 t.fst
 (Value.iface
 t.snd
 u) ∧
 g4_q2 t u
 n cuts
 keep ∧
 ((True ∧
 false =
 false ∧
 (0 :
 Int) =
 leftF
 cuts
 x' ∧
 (openD
 (Dk.mk
 false
 (leftF
 cuts
 x)
 (↑x :
 Int)
 (↑x :
 Int)
 n.d.bl
 (nilT
 (Int ×
 List
 Int)))).turn +
 (1 :
 Int) =
 (↑x' :
 Int) ∧
 (openD
 (Dk.mk
 false
 (leftF
 cuts
 x)
 (↑x :
 Int)
 (↑x :
 Int)
 n.d.bl
 (nilT
 (Int ×
 List
 Int)))).opened =
 (↑x' :
 Int) ∧
 True) ∧
 (True ∧
 True) ∧
 tearN
 keep
 (openD
 (Dk.mk
 false
 (leftF
 cuts
 x)
 (↑x :
 Int)
 (↑x :
 Int)
 n.d.bl
 (nilT
 (Int ×
 List
 Int)))).sy
 (keysF
 (openD
 (Dk.mk
 false
 (leftF
 cuts
 x)
 (↑x :
 Int)
 (↑x :
 Int)
 n.d.bl
 (nilT
 (Int ×
 List
 Int)))).sy)
 (openD
 (Dk.mk
 false
 (leftF
 cuts
 x)
 (↑x :
 Int)
 (↑x :
 Int)
 n.d.bl
 (nilT
 (Int ×
 List
 Int)))).bl
 (keysF
 (openD
 (Dk.mk
 false
 (leftF
 cuts
 x)
 (↑x :
 Int)
 (↑x :
 Int)
 n.d.bl
 (nilT
 (Int ×
 List
 Int)))).sy).length =
 n.d.bl) ∧
 nilT
 (Int ×
 List
 Int) =
 nilT
 (Int ×
 List
 Int) ∧
 True) ∧
 (↑x : Int) +
 (1 :
 Int) =
 (↑x' :
 Int) ∧
 True ∧
 True ∧
 cuts =
 cuts ∧
 keep =
 keep ∧
 True))) ∧
 (¬(openD
 (Dk.mk false (leftF cuts x) (↑x : Int)
 (↑x : Int) n.d.bl
 (nilT (Int × List Int)))).down =
 true →
 ((syncF
 (upD
 (openD
 (Dk.mk false (leftF cuts x) (↑x : Int)
 (↑x : Int) n.d.bl
 (nilT (Int × List Int)))))).fst =
 (0 : Int) →
 ∃ (r : Rt),
 ∃ (c : Cn),
 True ∧
 (((True ∧
 (openD
 (Dk.mk false (leftF cuts x)
 (↑x : Int) (↑x : Int) n.d.bl
 (nilT
 (Int × List Int)))).down =
 (openD
 (Dk.mk false (leftF cuts x)
 (↑x : Int) (↑x : Int) n.d.bl
 (nilT
 (Int × List Int)))).down ∧
 (openD
 (Dk.mk false (leftF cuts x)
 (↑x : Int) (↑x : Int)
 n.d.bl
 (nilT
 (Int ×
 List Int)))).left =
 (openD
 (Dk.mk false (leftF cuts x)
 (↑x : Int) (↑x : Int)
 n.d.bl
 (nilT
 (Int ×
 List Int)))).left ∧
 (openD
 (Dk.mk false
 (leftF cuts x)
 (↑x : Int) (↑x : Int)
 n.d.bl
 (nilT
 (Int ×
 List Int)))).turn =
 (openD
 (Dk.mk false
 (leftF cuts x)
 (↑x : Int) (↑x : Int)
 n.d.bl
 (nilT
 (Int ×
 List Int)))).turn ∧
 (openD
 (Dk.mk false
 (leftF cuts x)
 (↑x : Int) (↑x : Int)
 n.d.bl
 (nilT
 (Int ×
 List
 Int)))).opened =
 (openD
 (Dk.mk false
 (leftF cuts x)
 (↑x : Int) (↑x : Int)
 n.d.bl
 (nilT
 (Int ×
 List
 Int)))).opened ∧
 True) ∧
 (True ∧ True) ∧
 (openD
 (Dk.mk false (leftF cuts x)
 (↑x : Int) (↑x : Int) n.d.bl
 (nilT (Int × List Int)))).bl =
 (openD
 (Dk.mk false (leftF cuts x)
 (↑x : Int) (↑x : Int) n.d.bl
 (nilT
 (Int × List Int)))).bl) ∧
 (openD
 (Dk.mk false (leftF cuts x)
 (↑x : Int) (↑x : Int) n.d.bl
 (nilT (Int × List Int)))).sy =
 (openD
 (Dk.mk false (leftF cuts x)
 (↑x : Int) (↑x : Int) n.d.bl
 (nilT (Int × List Int)))).sy ∧
 Ent.gl (0 : Nat) t.fst
 (Value.iface t.snd u) =
 Ent.gl (0 : Nat) t.fst
 (Value.iface t.snd u) ∧
 True) ∧
 (True ∧ True) ∧
 (DkOK
 (openD
 (Dk.mk false (leftF cuts x)
 (↑x : Int) (↑x : Int) n.d.bl
 [])) ∧
 NewP
 (openD
 (Dk.mk false (leftF cuts x)
 (↑x : Int) (↑x : Int) n.d.bl
 [])).bl
 r c ∧
 (openD
 (Dk.mk false (leftF cuts x)
 (↑x : Int) (↑x : Int)
 n.d.bl
 (nilT
 (Int ×
 List Int)))).down =
 false ∧
 (syncF
 (upD
 (openD
 (Dk.mk false
 (leftF cuts x)
 (↑x : Int)
 (↑x : Int) n.d.bl
 (nilT
 (Int ×
 List
 Int)))))).fst =
 (0 : Int) ∧
 (0 : Int) ≤
 (openD
 (Dk.mk false
 (leftF cuts x)
 (↑x : Int) (↑x : Int)
 n.d.bl [])).opened ∧
 (openD
 (Dk.mk false
 (leftF cuts x)
 (↑x : Int) (↑x : Int)
 n.d.bl [])).opened ≤
 (1000000 : Int)) ∧
 True ∧
 False ∧
 Ent.gl (0 : Nat) t.fst
 (Value.iface t.snd u) =
 Ent.gl (0 : Nat) t.fst
 (Value.iface t.snd u) ∧
 True) ∧
 (¬(syncF
 (upD
 (openD
 (Dk.mk false (leftF cuts x) (↑x : Int)
 (↑x : Int) n.d.bl
 (nilT (Int × List Int)))))).fst =
 (0 : Int) →
 ∃ (r : Rt),
 ∃ (c : Cn),
 True ∧
 (((True ∧
 (openD
 (Dk.mk false (leftF cuts x)
 (↑x : Int) (↑x : Int) n.d.bl
 (nilT
 (Int × List Int)))).down =
 (openD
 (Dk.mk false (leftF cuts x)
 (↑x : Int) (↑x : Int) n.d.bl
 (nilT
 (Int × List Int)))).down ∧
 (openD
 (Dk.mk false (leftF cuts x)
 (↑x : Int) (↑x : Int)
 n.d.bl
 (nilT
 (Int ×
 List Int)))).left =
 (openD
 (Dk.mk false (leftF cuts x)
 (↑x : Int) (↑x : Int)
 n.d.bl
 (nilT
 (Int ×
 List Int)))).left ∧
 (openD
 (Dk.mk false
 (leftF cuts x)
 (↑x : Int) (↑x : Int)
 n.d.bl
 (nilT
 (Int ×
 List Int)))).turn =
 (openD
 (Dk.mk false
 (leftF cuts x)
 (↑x : Int) (↑x : Int)
 n.d.bl
 (nilT
 (Int ×
 List Int)))).turn ∧
 (openD
 (Dk.mk false
 (leftF cuts x)
 (↑x : Int) (↑x : Int)
 n.d.bl
 (nilT
 (Int ×
 List
 Int)))).opened =
 (openD
 (Dk.mk false
 (leftF cuts x)
 (↑x : Int) (↑x : Int)
 n.d.bl
 (nilT
 (Int ×
 List
 Int)))).opened ∧
 True) ∧
 (True ∧ True) ∧
 (openD
 (Dk.mk false (leftF cuts x)
 (↑x : Int) (↑x : Int) n.d.bl
 (nilT (Int × List Int)))).bl =
 (openD
 (Dk.mk false (leftF cuts x)
 (↑x : Int) (↑x : Int) n.d.bl
 (nilT
 (Int × List Int)))).bl) ∧
 (openD
 (Dk.mk false (leftF cuts x)
 (↑x : Int) (↑x : Int) n.d.bl
 (nilT (Int × List Int)))).sy =
 (openD
 (Dk.mk false (leftF cuts x)
 (↑x : Int) (↑x : Int) n.d.bl
 (nilT (Int × List Int)))).sy ∧
 Ent.gl (0 : Nat) t.fst
 (Value.iface t.snd u) =
 Ent.gl (0 : Nat) t.fst
 (Value.iface t.snd u) ∧
 True) ∧
 (True ∧ True) ∧
 (DkOK
 (openD
 (Dk.mk false (leftF cuts x)
 (↑x : Int) (↑x : Int) n.d.bl
 [])) ∧
 NewP
 (openD
 (Dk.mk false (leftF cuts x)
 (↑x : Int) (↑x : Int) n.d.bl
 [])).bl
 r c ∧
 (openD
 (Dk.mk false (leftF cuts x)
 (↑x : Int) (↑x : Int)
 n.d.bl
 (nilT
 (Int ×
 List Int)))).down =
 false ∧
 (syncF
 (upD
 (openD
 (Dk.mk false
 (leftF cuts x)
 (↑x : Int)
 (↑x : Int) n.d.bl
 (nilT
 (Int ×
 List
 Int)))))).fst =
 (8 : Int) ∧
 (0 : Int) ≤
 (openD
 (Dk.mk false
 (leftF cuts x)
 (↑x : Int) (↑x : Int)
 n.d.bl [])).opened ∧
 (openD
 (Dk.mk false
 (leftF cuts x)
 (↑x : Int) (↑x : Int)
 n.d.bl [])).opened ≤
 (1000000 : Int)) ∧
 True ∧
 g4_q6 t u n cuts keep ∧
 (¬¬(8 : Int) = (8 : Int) →
 ¬¬(8 : Int) = (8 : Int) ∧
 ¬¬(8 : Int) = (8 : Int) ∧
 True ∧
 (((True ∧
 (openD
 (openD
 (Dk.mk
 false
 (leftF
 cuts
 x)
 (↑x :
 Int)
 (↑x :
 Int)
 n.d.bl
 (nilT
 (Int ×
 List
 Int))))).down =
 (openD
 (openD
 (Dk.mk
 false
 (leftF
 cuts
 x)
 (↑x :
 Int)
 (↑x :
 Int)
 n.d.bl
 (nilT
 (Int ×
 List
 Int))))).down ∧
 (openD
 (openD
 (Dk.mk
 false
 (leftF
 cuts
 x)
 (↑x :
 Int)
 (↑x :
 Int)
 n.d.bl
 (nilT
 (Int ×
 List
 Int))))).left =
 (openD
 (openD
 (Dk.mk
 false
 (leftF
 cuts
 x)
 (↑x :
 Int)
 (↑x :
 Int)
 n.d.bl
 (nilT
 (Int ×
 List
 Int))))).left ∧
 (openD
 (openD
 (Dk.mk
 false
 (leftF
 cuts
 x)
 (↑x :
 Int)
 (↑x :
 Int)
 n.d.bl
 (nilT
 (Int ×
 List
 Int))))).turn =
 (openD
 (openD
 (Dk.mk
 false
 (leftF
 cuts
 x)
 (↑x :
 Int)
 (↑x :
 Int)
 n.d.bl
 (nilT
 (Int ×
 List
 Int))))).turn ∧
 (openD
 (openD
 (Dk.mk
 false
 (leftF
 cuts
 x)
 (↑x :
 Int)
 (↑x :
 Int)
 n.d.bl
 (nilT
 (Int ×
 List
 Int))))).opened =
 (openD
 (openD
 (Dk.mk
 false
 (leftF
 cuts
 x)
 (↑x :
 Int)
 (↑x :
 Int)
 n.d.bl
 (nilT
 (Int ×
 List
 Int))))).opened ∧
 True) ∧
 (True ∧ True) ∧
 (openD
 (openD
 (Dk.mk false
 (leftF
 cuts x)
 (↑x : Int)
 (↑x : Int)
 n.d.bl
 (nilT
 (Int ×
 List
 Int))))).bl =
 (openD
 (openD
 (Dk.mk false
 (leftF
 cuts x)
 (↑x : Int)
 (↑x : Int)
 n.d.bl
 (nilT
 (Int ×
 List
 Int))))).bl) ∧
 (openD
 (openD
 (Dk.mk false
 (leftF cuts
 x)
 (↑x : Int)
 (↑x : Int)
 n.d.bl
 (nilT
 (Int ×
 List
 Int))))).sy =
 (openD
 (openD
 (Dk.mk false
 (leftF cuts
 x)
 (↑x : Int)
 (↑x : Int)
 n.d.bl
 (nilT
 (Int ×
 List
 Int))))).sy ∧
 True) ∧
 (True ∧
 keep = keep ∧ True) ∧
 (DkOK
 (openD
 (openD
 (Dk.mk false
 (leftF cuts
 x)
 (↑x : Int)
 (↑x : Int)
 n.d.bl
 []))) ∧
 (0 : Int) ≤
 (openD
 (openD
 (Dk.mk
 false
 (leftF
 cuts
 x)
 (↑x :
 Int)
 (↑x :
 Int)
 n.d.bl
 []))).turn ∧
 (openD
 (openD
 (Dk.mk
 false
 (leftF
 cuts
 x)
 (↑x :
 Int)
 (↑x :
 Int)
 n.d.bl
 []))).turn ≤
 (1000000 :
 Int)) ∧
 True ∧
 ((↑x : Int) =
 (0 : Int) →
 (↑x : Int) =
 (0 : Int) ∧
 Fits
 IntKind.i64
 cuts ∧
 ((0 : Int) ≤
 cuts ∧
 (0 :
 Int) <
 (8 :
 Int)) ∧
 Fits
 IntKind.i64
 (cuts /
 (8 :
 Int)) ∧
 ((0 :
 Int) ≤
 cuts /
 (8 :
 Int) ∧
 (0 :
 Int) <
 (8 :
 Int)) ∧
 Fits
 IntKind.i64
 ((↑x :
 Int) +
 (1 :
 Int)) ∧
 ∃
 (x'
 :
 Nat),
 x' ≤
 (2 :
 Nat) ∧
 (2 :
 Nat) -
 x' <
 (2 :
 Nat) -
 x ∧
 (Ent.gl
 (0 :
 Nat)
 t.fst
 (Value.iface
 t.snd
 u) =
 Ent.gl
 (0 :
 Nat)
 t.fst
 (Value.iface
 t.snd
 u) ∧
 g4_q2
 t
 u
 n
 cuts
 keep ∧
 ((True ∧
 false =
 false ∧
 max
 (cuts /
 (8 :
 Int) %
 (8 :
 Int))
 (0 :
 Int) =
 leftF
 cuts
 x' ∧
 (openD
 (openD
 (Dk.mk
 false
 (leftF
 cuts
 x)
 (↑x :
 Int)
 (↑x :
 Int)
 n.d.bl
 (nilT
 (Int ×
 List
 Int))))).turn +
 (1 :
 Int) =
 (↑x' :
 Int) ∧
 (openD
 (openD
 (Dk.mk
 false
 (leftF
 cuts
 x)
 (↑x :
 Int)
 (↑x :
 Int)
 n.d.bl
 (nilT
 (Int ×
 List
 Int))))).opened =
 (↑x' :
 Int) ∧
 True) ∧
 (True ∧
 True) ∧
 tearN
 keep
 (openD
 (openD
 (Dk.mk
 false
 (leftF
 cuts
 x)
 (↑x :
 Int)
 (↑x :
 Int)
 n.d.bl
 (nilT
 (Int ×
 List
 Int))))).sy
 (keysF
 (openD
 (openD
 (Dk.mk
 false
 (leftF
 cuts
 x)
 (↑x :
 Int)
 (↑x :
 Int)
 n.d.bl
 (nilT
 (Int ×
 List
 Int))))).sy)
 (openD
 (openD
 (Dk.mk
 false
 (leftF
 cuts
 x)
 (↑x :
 Int)
 (↑x :
 Int)
 n.d.bl
 (nilT
 (Int ×
 List
 Int))))).bl
 (keysF
 (openD
 (openD
 (Dk.mk
 false
 (leftF
 cuts
 x)
 (↑x :
 Int)
 (↑x :
 Int)
 n.d.bl
 (nilT
 (Int ×
 List
 Int))))).sy).length =
 n.d.bl) ∧
 nilT
 (Int ×
 List
 Int) =
 nilT
 (Int ×
 List
 Int) ∧
 True) ∧
 (↑x :
 Int) +
 (1 :
 Int) =
 (↑x' :
 Int) ∧
 True ∧
 True ∧
 cuts =
 cuts ∧
 keep =
 keep ∧
 True) ∧
 (¬(↑x : Int) =
 (0 : Int) →
 ¬(↑x : Int) =
 (0 :
 Int) ∧
 Fits
 IntKind.i64
 ((↑x :
 Int) +
 (1 :
 Int)) ∧
 ∃ (x' :
 Nat),
 x' ≤
 (2 :
 Nat) ∧
 (2 :
 Nat) -
 x' <
 (2 :
 Nat) -
 x ∧
 (Ent.gl
 (0 :
 Nat)
 t.fst
 (Value.iface
 t.snd
 u) =
 Ent.gl
 (0 :
 Nat)
 t.fst
 (Value.iface
 t.snd
 u) ∧
 g4_q2
 t
 u
 n
 cuts
 keep ∧
 ((True ∧
 false =
 false ∧
 (0 :
 Int) =
 leftF
 cuts
 x' ∧
 (openD
 (openD
 (Dk.mk
 false
 (leftF
 cuts
 x)
 (↑x :
 Int)
 (↑x :
 Int)
 n.d.bl
 (nilT
 (Int ×
 List
 Int))))).turn +
 (1 :
 Int) =
 (↑x' :
 Int) ∧
 (openD
 (openD
 (Dk.mk
 false
 (leftF
 cuts
 x)
 (↑x :
 Int)
 (↑x :
 Int)
 n.d.bl
 (nilT
 (Int ×
 List
 Int))))).opened =
 (↑x' :
 Int) ∧
 True) ∧
 (True ∧
 True) ∧
 tearN
 keep
 (openD
 (openD
 (Dk.mk
 false
 (leftF
 cuts
 x)
 (↑x :
 Int)
 (↑x :
 Int)
 n.d.bl
 (nilT
 (Int ×
 List
 Int))))).sy
 (keysF
 (openD
 (openD
 (Dk.mk
 false
 (leftF
 cuts
 x)
 (↑x :
 Int)
 (↑x :
 Int)
 n.d.bl
 (nilT
 (Int ×
 List
 Int))))).sy)
 (openD
 (openD
 (Dk.mk
 false
 (leftF
 cuts
 x)
 (↑x :
 Int)
 (↑x :
 Int)
 n.d.bl
 (nilT
 (Int ×
 List
 Int))))).bl
 (keysF
 (openD
 (openD
 (Dk.mk
 false
 (leftF
 cuts
 x)
 (↑x :
 Int)
 (↑x :
 Int)
 n.d.bl
 (nilT
 (Int ×
 List
 Int))))).sy).length =
 n.d.bl) ∧
 nilT
 (Int ×
 List
 Int) =
 nilT
 (Int ×
 List
 Int) ∧
 True) ∧
 (↑x :
 Int) +
 (1 :
 Int) =
 (↑x' :
 Int) ∧
 True ∧
 True ∧
 cuts =
 cuts ∧
 keep =
 keep ∧
 True))))))) ∧
 (¬¬(0 : Int) = (0 : Int) →
 ¬¬(0 : Int) = (0 : Int) ∧
 ¬¬(0 : Int) = (0 : Int) ∧
 ((0 : Int) = (0 : Int) →
 (0 : Int) = (0 : Int) ∧
 True ∧
 (((True ∧
 (openD
 (Dk.mk false (leftF cuts x) (↑x : Int) (↑x : Int)
 n.d.bl (nilT (Int × List Int)))).down =
 (openD
 (Dk.mk false (leftF cuts x) (↑x : Int) (↑x : Int)
 n.d.bl (nilT (Int × List Int)))).down ∧
 max (0 : Int) (0 : Int) = max (0 : Int) (0 : Int) ∧
 (openD
 (Dk.mk false (leftF cuts x) (↑x : Int)
 (↑x : Int) n.d.bl
 (nilT (Int × List Int)))).turn =
 (openD
 (Dk.mk false (leftF cuts x) (↑x : Int)
 (↑x : Int) n.d.bl
 (nilT (Int × List Int)))).turn ∧
 (openD
 (Dk.mk false (leftF cuts x) (↑x : Int)
 (↑x : Int) n.d.bl
 (nilT (Int × List Int)))).opened =
 (openD
 (Dk.mk false (leftF cuts x) (↑x : Int)
 (↑x : Int) n.d.bl
 (nilT (Int × List Int)))).opened ∧
 True) ∧
 (True ∧ True) ∧
 (openD
 (Dk.mk false (leftF cuts x) (↑x : Int) (↑x : Int)
 n.d.bl (nilT (Int × List Int)))).bl =
 (openD
 (Dk.mk false (leftF cuts x) (↑x : Int) (↑x : Int)
 n.d.bl (nilT (Int × List Int)))).bl) ∧
 (openD
 (Dk.mk false (leftF cuts x) (↑x : Int) (↑x : Int) n.d.bl
 (nilT (Int × List Int)))).sy =
 (openD
 (Dk.mk false (leftF cuts x) (↑x : Int) (↑x : Int) n.d.bl
 (nilT (Int × List Int)))).sy ∧
 (True ∧
 false = false ∧
 True ∧
 (openD
 (Dk.mk false (leftF cuts x) (↑x : Int)
 (↑x : Int) n.d.bl
 (nilT (Int × List Int)))).turn =
 (openD
 (Dk.mk false (leftF cuts x) (↑x : Int)
 (↑x : Int) n.d.bl
 (nilT (Int × List Int)))).turn ∧
 (openD
 (Dk.mk false (leftF cuts x) (↑x : Int)
 (↑x : Int) n.d.bl
 (nilT (Int × List Int)))).opened =
 (openD
 (Dk.mk false (leftF cuts x) (↑x : Int)
 (↑x : Int) n.d.bl
 (nilT (Int × List Int)))).opened ∧
 r.fst = r.fst ∧
 r.snd.fst = r.snd.fst ∧
 r.snd.snd = r.snd.snd ∧
 false = false ∧
 c.fst = c.fst ∧
 c.snd.fst = c.snd.fst ∧ True ∧ True) ∧
 c.snd.snd = c.snd.snd ∧ True) ∧
 (True ∧ True) ∧
 (c.snd.snd.length ≤ (40 : Nat) ∧
 (↑c.snd.snd.length : Int) ≤ c.fst ∧
 c.fst ≤ (1000000000 : Int)) ∧
 True ∧
 True ∧
 (((True ∧
 (openD
 (Dk.mk false (leftF cuts x) (↑x : Int)
 (↑x : Int) n.d.bl
 (nilT (Int × List Int)))).down =
 (openD
 (Dk.mk false (leftF cuts x) (↑x : Int)
 (↑x : Int) n.d.bl
 (nilT (Int × List Int)))).down ∧
 max (0 : Int) (0 : Int) =
 max (0 : Int) (0 : Int) ∧
 (openD
 (Dk.mk false (leftF cuts x) (↑x : Int)
 (↑x : Int) n.d.bl
 (nilT (Int × List Int)))).turn =
 (openD
 (Dk.mk false (leftF cuts x) (↑x : Int)
 (↑x : Int) n.d.bl
 (nilT (Int × List Int)))).turn ∧
 (openD
 (Dk.mk false (leftF cuts x)
 (↑x : Int) (↑x : Int) n.d.bl
 (nilT (Int × List Int)))).opened =
 (openD
 (Dk.mk false (leftF cuts x)
 (↑x : Int) (↑x : Int) n.d.bl
 (nilT (Int × List Int)))).opened ∧
 True) ∧
 (True ∧ True) ∧
 (openD
 (Dk.mk false (leftF cuts x) (↑x : Int)
 (↑x : Int) n.d.bl
 (nilT (Int × List Int)))).bl =
 (openD
 (Dk.mk false (leftF cuts x) (↑x : Int)
 (↑x : Int) n.d.bl
 (nilT (Int × List Int)))).bl) ∧
 (openD
 (Dk.mk false (leftF cuts x) (↑x : Int)
 (↑x : Int) n.d.bl
 (nilT (Int × List Int)))).sy =
 (openD
 (Dk.mk false (leftF cuts x) (↑x : Int)
 (↑x : Int) n.d.bl
 (nilT (Int × List Int)))).sy ∧
 (True ∧
 false = false ∧
 True ∧
 (openD
 (Dk.mk false (leftF cuts x)
 (↑x : Int) (↑x : Int) n.d.bl
 (nilT (Int × List Int)))).turn =
 (openD
 (Dk.mk false (leftF cuts x)
 (↑x : Int) (↑x : Int) n.d.bl
 (nilT (Int × List Int)))).turn ∧
 (openD
 (Dk.mk false (leftF cuts x)
 (↑x : Int) (↑x : Int) n.d.bl
 (nilT
 (Int × List Int)))).opened =
 (openD
 (Dk.mk false (leftF cuts x)
 (↑x : Int) (↑x : Int) n.d.bl
 (nilT
 (Int × List Int)))).opened ∧
 r.fst = r.fst ∧
 r.snd.fst = r.snd.fst ∧
 r.snd.snd = r.snd.snd ∧
 false = false ∧
 c.fst = c.fst ∧
 c.snd.fst = c.snd.fst ∧
 True ∧ True) ∧
 c.snd.snd = c.snd.snd ∧ True) ∧
 (True ∧
 ByteArray.mk #[(107 : UInt8)] =
 ByteArray.mk #[(107 : UInt8)] ∧
 True) ∧
 ((false = false ∧
 (openD
 (Dk.mk false (leftF cuts x) (↑x : Int)
 (↑x : Int) n.d.bl
 (nilT (Int × List Int)))).turn =
 (openD
 (Dk.mk false (leftF cuts x) (↑x : Int)
 (↑x : Int) n.d.bl
 (nilT (Int × List Int)))).turn ∧
 (openD
 (Dk.mk false (leftF cuts x) (↑x : Int)
 (↑x : Int) n.d.bl
 (nilT (Int × List Int)))).opened =
 (openD
 (Dk.mk false (leftF cuts x) (↑x : Int)
 (↑x : Int) n.d.bl
 (nilT (Int × List Int)))).opened) ∧
 (ByteArray.mk #[(107 : UInt8)]).size ≤
 (24 : Nat) ∧
 c.snd.snd.length < (40 : Nat) ∧
 (0 : Int) ≤ c.fst ∧ c.fst ≤ (1000000 : Int)) ∧
 True ∧
 c.snd.snd.length ≤ (1000000 : Nat) ∧
 (decide
 ((c.fst, c.snd.snd, c.snd.fst) =
 ((0 : Int), nilT ByteArray,
 (0 : Int))) =
 true →
 decide
 ((c.fst, c.snd.snd, c.snd.fst) =
 ((0 : Int), nilT ByteArray,
 (0 : Int))) =
 true ∧
 decide
 ((c.fst, c.snd.snd, c.snd.fst) =
 ((0 : Int), nilT ByteArray,
 (0 : Int))) =
 true ∧
 decide
 ((c.fst, c.snd.snd, c.snd.fst) =
 ((0 : Int), nilT ByteArray,
 (0 : Int))) =
 true ∧
 (true = true →
 true = true ∧
 true = true ∧
 true = true ∧
 (c.fst + (1 : Int) =
 (1 : Int) →
 c.fst + (1 : Int) =
 (1 : Int) ∧
 c.fst + (1 : Int) =
 (1 : Int) ∧
 c.fst + (1 : Int) =
 (1 : Int) ∧
 ((0 : Int) =
 (0 : Int) →
 (0 : Int) =
 (0 :
 Int) ∧
 (0 : Int) =
 (0 :
 Int) ∧
 (0 :
 Int) =
 (0 :
 Int) ∧
 True ∧
 (((True ∧
 (openD
 (Dk.mk
 false
 (leftF
 cuts
 x)
 (↑x :
 Int)
 (↑x :
 Int)
 n.d.bl
 (nilT
 (Int ×
 List
 Int)))).down =
 (openD
 (Dk.mk
 false
 (leftF
 cuts
 x)
 (↑x :
 Int)
 (↑x :
 Int)
 n.d.bl
 (nilT
 (Int ×
 List
 Int)))).down ∧
 max
 (0 :
 Int)
 (0 :
 Int) =
 max
 (0 :
 Int)
 (0 :
 Int) ∧
 (openD
 (Dk.mk
 false
 (leftF
 cuts
 x)
 (↑x :
 Int)
 (↑x :
 Int)
 n.d.bl
 (nilT
 (Int ×
 List
 Int)))).turn =
 (openD
 (Dk.mk
 false
 (leftF
 cuts
 x)
 (↑x :
 Int)
 (↑x :
 Int)
 n.d.bl
 (nilT
 (Int ×
 List
 Int)))).turn ∧
 (openD
 (Dk.mk
 false
 (leftF
 cuts
 x)
 (↑x :
 Int)
 (↑x :
 Int)
 n.d.bl
 (nilT
 (Int ×
 List
 Int)))).opened =
 (openD
 (Dk.mk
 false
 (leftF
 cuts
 x)
 (↑x :
 Int)
 (↑x :
 Int)
 n.d.bl
 (nilT
 (Int ×
 List
 Int)))).opened ∧
 True) ∧
 (True ∧
 True) ∧
 (openD
 (Dk.mk
 false
 (leftF
 cuts
 x)
 (↑x :
 Int)
 (↑x :
 Int)
 n.d.bl
 (nilT
 (Int ×
 List
 Int)))).bl =
 (openD
 (Dk.mk
 false
 (leftF
 cuts
 x)
 (↑x :
 Int)
 (↑x :
 Int)
 n.d.bl
 (nilT
 (Int ×
 List
 Int)))).bl) ∧
 (openD
 (Dk.mk
 false
 (leftF
 cuts
 x)
 (↑x :
 Int)
 (↑x :
 Int)
 n.d.bl
 (nilT
 (Int ×
 List
 Int)))).sy =
 (openD
 (Dk.mk
 false
 (leftF
 cuts
 x)
 (↑x :
 Int)
 (↑x :
 Int)
 n.d.bl
 (nilT
 (Int ×
 List
 Int)))).sy ∧
 (True ∧
 false =
 false ∧
 True ∧
 (openD
 (Dk.mk
 false
 (leftF
 cuts
 x)
 (↑x :
 Int)
 (↑x :
 Int)
 n.d.bl
 (nilT
 (Int ×
 List
 Int)))).turn =
 (openD
 (Dk.mk
 false
 (leftF
 cuts
 x)
 (↑x :
 Int)
 (↑x :
 Int)
 n.d.bl
 (nilT
 (Int ×
 List
 Int)))).turn ∧
 (openD
 (Dk.mk
 false
 (leftF
 cuts
 x)
 (↑x :
 Int)
 (↑x :
 Int)
 n.d.bl
 (nilT
 (Int ×
 List
 Int)))).opened =
 (openD
 (Dk.mk
 false
 (leftF
 cuts
 x)
 (↑x :
 Int)
 (↑x :
 Int)
 n.d.bl
 (nilT
 (Int ×
 List
 Int)))).opened ∧
 r.fst =
 r.fst ∧
 r.snd.fst =
 r.snd.fst ∧
 r.snd.snd =
 r.snd.snd ∧
 true =
 true ∧
 c.fst +
 (1 :
 Int) =
 c.fst +
 (1 :
 Int) ∧
 c.snd.fst =
 c.snd.fst ∧
 True ∧
 True) ∧
 addC
 c.snd.snd
 (ByteArray.mk
 #[(107 :
 UInt8)]) =
 addC
 c.snd.snd
 (ByteArray.mk
 #[(107 :
 UInt8)]) ∧
 True) ∧
 (True ∧
 True) ∧
 ((DkOK
 (Dk.mk
 (openD
 (Dk.mk
 false
 (leftF
 cuts
 x)
 (↑x :
 Int)
 (↑x :
 Int)
 n.d.bl
 [])).down
 (max
 (0 :
 Int)
 (0 :
 Int))
 (openD
 (Dk.mk
 false
 (leftF
 cuts
 x)
 (↑x :
 Int)
 (↑x :
 Int)
 n.d.bl
 [])).turn
 (openD
 (Dk.mk
 false
 (leftF
 cuts
 x)
 (↑x :
 Int)
 (↑x :
 Int)
 n.d.bl
 [])).opened
 (openD
 (Dk.mk
 false
 (leftF
 cuts
 x)
 (↑x :
 Int)
 (↑x :
 Int)
 n.d.bl
 [])).bl
 (openD
 (Dk.mk
 false
 (leftF
 cuts
 x)
 (↑x :
 Int)
 (↑x :
 Int)
 n.d.bl
 [])).sy) ∧
 (((0 :
 Int) ≤
 c.fst +
 (1 :
 Int) ∧
 c.fst +
 (1 :
 Int) <
 (281474976710656 :
 Int)) ∧
 ((0 :
 Int) ≤
 c.snd.fst ∧
 c.snd.fst <
 (281474976710656 :
 Int)) ∧
 (addC
 c.snd.snd
 (ByteArray.mk
 #[(107 :
 UInt8)])).length ≤
 (40 :
 Nat) ∧
 ∀
 (s :
 ByteArray),
 s ∈
 addC
 c.snd.snd
 (ByteArray.mk
 #[(107 :
 UInt8)]) →
 s.size ≤
 (24 :
 Nat)) ∧
 (0 :
 Int) ≤
 r.fst ∧
 r.fst ≤
 (1000000 :
 Int)) ∧
 (false =
 false ∧
 (openD
 (Dk.mk
 false
 (leftF
 cuts
 x)
 (↑x :
 Int)
 (↑x :
 Int)
 n.d.bl
 (nilT
 (Int ×
 List
 Int)))).turn =
 (openD
 (Dk.mk
 false
 (leftF
 cuts
 x)
 (↑x :
 Int)
 (↑x :
 Int)
 n.d.bl
 (nilT
 (Int ×
 List
 Int)))).turn ∧
 (openD
 (Dk.mk
 false
 (leftF
 cuts
 x)
 (↑x :
 Int)
 (↑x :
 Int)
 n.d.bl
 (nilT
 (Int ×
 List
 Int)))).opened =
 (openD
 (Dk.mk
 false
 (leftF
 cuts
 x)
 (↑x :
 Int)
 (↑x :
 Int)
 n.d.bl
 (nilT
 (Int ×
 List
 Int)))).opened) ∧
 true =
 true ∧
 (writeL
 (Dk.mk
 (openD
 (Dk.mk
 false
 (leftF
 cuts
 x)
 (↑x :
 Int)
 (↑x :
 Int)
 n.d.bl
 (nilT
 (Int ×
 List
 Int)))).down
 (max
 (0 :
 Int)
 (0 :
 Int))
 (openD
 (Dk.mk
 false
 (leftF
 cuts
 x)
 (↑x :
 Int)
 (↑x :
 Int)
 n.d.bl
 (nilT
 (Int ×
 List
 Int)))).turn
 (openD
 (Dk.mk
 false
 (leftF
 cuts
 x)
 (↑x :
 Int)
 (↑x :
 Int)
 n.d.bl
 (nilT
 (Int ×
 List
 Int)))).opened
 (openD
 (Dk.mk
 false
 (leftF
 cuts
 x)
 (↑x :
 Int)
 (↑x :
 Int)
 n.d.bl
 (nilT
 (Int ×
 List
 Int)))).bl
 (openD
 (Dk.mk
 false
 (leftF
 cuts
 x)
 (↑x :
 Int)
 (↑x :
 Int)
 n.d.bl
 (nilT
 (Int ×
 List
 Int)))).sy)
 (Ls.mk
 false
 (openD
 (Dk.mk
 false
 (leftF
 cuts
 x)
 (↑x :
 Int)
 (↑x :
 Int)
 n.d.bl
 (nilT
 (Int ×
 List
 Int)))).turn
 (openD
 (Dk.mk
 false
 (leftF
 cuts
 x)
 (↑x :
 Int)
 (↑x :
 Int)
 n.d.bl
 (nilT
 (Int ×
 List
 Int)))).opened
 r
 true
 (c.fst +
 (1 :
 Int),
 c.snd.fst,
 addC
 c.snd.snd
 (ByteArray.mk
 #[(107 :
 UInt8)])))).fst =
 (0 :
 Int)) ∧
 True ∧
 (0 :
 Int) =
 (0 :
 Int) ∧
 Ent.gl
 (0 :
 Nat)
 t.fst
 (Value.iface
 t.snd
 u) =
 Ent.gl
 (0 :
 Nat)
 t.fst
 (Value.iface
 t.snd
 u) ∧
 True) ∧
 g4_q7 t u n cuts
 keep) ∧
 (¬c.fst + (1 : Int) =
 (1 : Int) →
 ¬c.fst + (1 : Int) =
 (1 : Int) ∧
 ¬c.fst + (1 : Int) =
 (1 : Int) ∧
 ¬c.fst + (1 : Int) =
 (1 : Int) ∧
 False ∧
 Ent.gl (0 : Nat)
 t.fst
 (Value.iface
 t.snd
 u) =
 Ent.gl
 (0 : Nat)
 t.fst
 (Value.iface
 t.snd
 u) ∧
 True)) ∧
 (true = false →
 true = false ∧
 true = false ∧
 true = false ∧
 False ∧
 Ent.gl (0 : Nat) t.fst
 (Value.iface t.snd
 u) =
 Ent.gl (0 : Nat) t.fst
 (Value.iface t.snd
 u) ∧
 True)) ∧
 (decide
 ((c.fst, c.snd.snd, c.snd.fst) =
 ((0 : Int), nilT ByteArray,
 (0 : Int))) =
 false →
 decide
 ((c.fst, c.snd.snd, c.snd.fst) =
 ((0 : Int), nilT ByteArray,
 (0 : Int))) =
 false ∧
 decide
 ((c.fst, c.snd.snd, c.snd.fst) =
 ((0 : Int), nilT ByteArray,
 (0 : Int))) =
 false ∧
 decide
 ((c.fst, c.snd.snd, c.snd.fst) =
 ((0 : Int), nilT ByteArray,
 (0 : Int))) =
 false ∧
 False ∧
 Ent.gl (0 : Nat) t.fst
 (Value.iface t.snd u) =
 Ent.gl (0 : Nat) t.fst
 (Value.iface t.snd u) ∧
 True)) ∧
 (¬(0 : Int) = (0 : Int) →
 ¬(0 : Int) = (0 : Int) ∧
 ((openD
 (Dk.mk false (leftF cuts x) (↑x : Int) (↑x : Int) n.d.bl
 (nilT (Int × List Int)))).down =
 true →
 True ∧
 (((True ∧
 (openD
 (Dk.mk false (leftF cuts x) (↑x : Int)
 (↑x : Int) n.d.bl
 (nilT (Int × List Int)))).down =
 (openD
 (Dk.mk false (leftF cuts x) (↑x : Int)
 (↑x : Int) n.d.bl
 (nilT (Int × List Int)))).down ∧
 (openD
 (Dk.mk false (leftF cuts x) (↑x : Int)
 (↑x : Int) n.d.bl
 (nilT (Int × List Int)))).left =
 (openD
 (Dk.mk false (leftF cuts x) (↑x : Int)
 (↑x : Int) n.d.bl
 (nilT (Int × List Int)))).left ∧
 (openD
 (Dk.mk false (leftF cuts x) (↑x : Int)
 (↑x : Int) n.d.bl
 (nilT (Int × List Int)))).turn =
 (openD
 (Dk.mk false (leftF cuts x) (↑x : Int)
 (↑x : Int) n.d.bl
 (nilT (Int × List Int)))).turn ∧
 (openD
 (Dk.mk false (leftF cuts x) (↑x : Int)
 (↑x : Int) n.d.bl
 (nilT (Int × List Int)))).opened =
 (openD
 (Dk.mk false (leftF cuts x) (↑x : Int)
 (↑x : Int) n.d.bl
 (nilT (Int × List Int)))).opened ∧
 True) ∧
 (True ∧ True) ∧
 (openD
 (Dk.mk false (leftF cuts x) (↑x : Int) (↑x : Int)
 n.d.bl (nilT (Int × List Int)))).bl =
 (openD
 (Dk.mk false (leftF cuts x) (↑x : Int) (↑x : Int)
 n.d.bl (nilT (Int × List Int)))).bl) ∧
 (openD
 (Dk.mk false (leftF cuts x) (↑x : Int) (↑x : Int)
 n.d.bl (nilT (Int × List Int)))).sy =
 (openD
 (Dk.mk false (leftF cuts x) (↑x : Int) (↑x : Int)
 n.d.bl (nilT (Int × List Int)))).sy ∧
 True) ∧
 (True ∧ True) ∧
 (openD
 (Dk.mk false (leftF cuts x) (↑x : Int) (↑x : Int)
 n.d.bl (nilT (Int × List Int)))).down =
 true ∧
 True ∧
 g4_q6 t u n cuts keep ∧
 (¬¬(8 : Int) = (8 : Int) →
 ¬¬(8 : Int) = (8 : Int) ∧
 ¬¬(8 : Int) = (8 : Int) ∧
 True ∧
 (((True ∧
 (openD
 (Dk.mk false (leftF cuts x)
 (↑x : Int) (↑x : Int) n.d.bl
 (nilT
 (Int × List Int)))).down =
 (openD
 (Dk.mk false (leftF cuts x)
 (↑x : Int) (↑x : Int) n.d.bl
 (nilT
 (Int × List Int)))).down ∧
 (openD
 (Dk.mk false (leftF cuts x)
 (↑x : Int) (↑x : Int)
 n.d.bl
 (nilT
 (Int ×
 List Int)))).left =
 (openD
 (Dk.mk false (leftF cuts x)
 (↑x : Int) (↑x : Int)
 n.d.bl
 (nilT
 (Int ×
 List Int)))).left ∧
 (openD
 (Dk.mk false
 (leftF cuts x)
 (↑x : Int) (↑x : Int)
 n.d.bl
 (nilT
 (Int ×
 List Int)))).turn =
 (openD
 (Dk.mk false
 (leftF cuts x)
 (↑x : Int) (↑x : Int)
 n.d.bl
 (nilT
 (Int ×
 List Int)))).turn ∧
 (openD
 (Dk.mk false
 (leftF cuts x)
 (↑x : Int) (↑x : Int)
 n.d.bl
 (nilT
 (Int ×
 List
 Int)))).opened =
 (openD
 (Dk.mk false
 (leftF cuts x)
 (↑x : Int) (↑x : Int)
 n.d.bl
 (nilT
 (Int ×
 List
 Int)))).opened ∧
 True) ∧
 (True ∧ True) ∧
 (openD
 (Dk.mk false (leftF cuts x)
 (↑x : Int) (↑x : Int) n.d.bl
 (nilT (Int × List Int)))).bl =
 (openD
 (Dk.mk false (leftF cuts x)
 (↑x : Int) (↑x : Int) n.d.bl
 (nilT
 (Int × List Int)))).bl) ∧
 (openD
 (Dk.mk false (leftF cuts x)
 (↑x : Int) (↑x : Int) n.d.bl
 (nilT (Int × List Int)))).sy =
 (openD
 (Dk.mk false (leftF cuts x)
 (↑x : Int) (↑x : Int) n.d.bl
 (nilT (Int × List Int)))).sy ∧
 True) ∧
 (True ∧ keep = keep ∧ True) ∧
 (DkOK
 (openD
 (Dk.mk false (leftF cuts x)
 (↑x : Int) (↑x : Int) n.d.bl
 [])) ∧
 (0 : Int) ≤
 (openD
 (Dk.mk false (leftF cuts x)
 (↑x : Int) (↑x : Int) n.d.bl
 [])).turn ∧
 (openD
 (Dk.mk false (leftF cuts x)
 (↑x : Int) (↑x : Int) n.d.bl
 [])).turn ≤
 (1000000 : Int)) ∧
 True ∧
 ((↑x : Int) = (0 : Int) →
 (↑x : Int) = (0 : Int) ∧
 Fits IntKind.i64 cuts ∧
 ((0 : Int) ≤ cuts ∧
 (0 : Int) < (8 : Int)) ∧
 Fits IntKind.i64
 (cuts / (8 : Int)) ∧
 ((0 : Int) ≤
 cuts / (8 : Int) ∧
 (0 : Int) <
 (8 : Int)) ∧
 Fits IntKind.i64
 ((↑x : Int) +
 (1 : Int)) ∧
 ∃ (x' : Nat),
 x' ≤ (2 : Nat) ∧
 (2 : Nat) - x' <
 (2 : Nat) -
 x ∧
 (Ent.gl
 (0 :
 Nat)
 t.fst
 (Value.iface
 t.snd
 u) =
 Ent.gl
 (0 :
 Nat)
 t.fst
 (Value.iface
 t.snd
 u) ∧
 g4_q2 t u n
 cuts
 keep ∧
 ((True ∧
 false =
 false ∧
 max
 (cuts /
 (8 :
 Int) %
 (8 :
 Int))
 (0 :
 Int) =
 leftF
 cuts
 x' ∧
 (openD
 (Dk.mk
 false
 (leftF
 cuts
 x)
 (↑x :
 Int)
 (↑x :
 Int)
 n.d.bl
 (nilT
 (Int ×
 List
 Int)))).turn +
 (1 :
 Int) =
 (↑x' :
 Int) ∧
 (openD
 (Dk.mk
 false
 (leftF
 cuts
 x)
 (↑x :
 Int)
 (↑x :
 Int)
 n.d.bl
 (nilT
 (Int ×
 List
 Int)))).opened =
 (↑x' :
 Int) ∧
 True) ∧
 (True ∧
 True) ∧
 tearN
 keep
 (openD
 (Dk.mk
 false
 (leftF
 cuts
 x)
 (↑x :
 Int)
 (↑x :
 Int)
 n.d.bl
 (nilT
 (Int ×
 List
 Int)))).sy
 (keysF
 (openD
 (Dk.mk
 false
 (leftF
 cuts
 x)
 (↑x :
 Int)
 (↑x :
 Int)
 n.d.bl
 (nilT
 (Int ×
 List
 Int)))).sy)
 (openD
 (Dk.mk
 false
 (leftF
 cuts
 x)
 (↑x :
 Int)
 (↑x :
 Int)
 n.d.bl
 (nilT
 (Int ×
 List
 Int)))).bl
 (keysF
 (openD
 (Dk.mk
 false
 (leftF
 cuts
 x)
 (↑x :
 Int)
 (↑x :
 Int)
 n.d.bl
 (nilT
 (Int ×
 List
 Int)))).sy).length =
 n.d.bl) ∧
 nilT
 (Int ×
 List
 Int) =
 nilT
 (Int ×
 List
 Int) ∧
 True) ∧
 (↑x : Int) +
 (1 :
 Int) =
 (↑x' :
 Int) ∧
 True ∧
 True ∧
 cuts =
 cuts ∧
 keep =
 keep ∧
 True) ∧
 (¬(↑x : Int) = (0 : Int) →
 ¬(↑x : Int) = (0 : Int) ∧
 Fits IntKind.i64
 ((↑x : Int) + (1 : Int)) ∧
 ∃ (x' : Nat),
 x' ≤ (2 : Nat) ∧
 (2 : Nat) - x' <
 (2 : Nat) - x ∧
 (Ent.gl (0 : Nat) t.fst
 (Value.iface
 t.snd u) =
 Ent.gl (0 : Nat)
 t.fst
 (Value.iface
 t.snd u) ∧
 g4_q2 t u n cuts
 keep ∧
 ((True ∧
 false =
 false ∧
 (0 :
 Int) =
 leftF
 cuts
 x' ∧
 (openD
 (Dk.mk
 false
 (leftF
 cuts
 x)
 (↑x :
 Int)
 (↑x :
 Int)
 n.d.bl
 (nilT
 (Int ×
 List
 Int)))).turn +
 (1 :
 Int) =
 (↑x' :
 Int) ∧
 (openD
 (Dk.mk
 false
 (leftF
 cuts
 x)
 (↑x :
 Int)
 (↑x :
 Int)
 n.d.bl
 (nilT
 (Int ×
 List
 Int)))).opened =
 (↑x' :
 Int) ∧
 True) ∧
 (True ∧
 True) ∧
 tearN keep
 (openD
 (Dk.mk
 false
 (leftF
 cuts
 x)
 (↑x :
 Int)
 (↑x :
 Int)
 n.d.bl
 (nilT
 (Int ×
 List
 Int)))).sy
 (keysF
 (openD
 (Dk.mk
 false
 (leftF
 cuts
 x)
 (↑x :
 Int)
 (↑x :
 Int)
 n.d.bl
 (nilT
 (Int ×
 List
 Int)))).sy)
 (openD
 (Dk.mk
 false
 (leftF
 cuts
 x)
 (↑x :
 Int)
 (↑x :
 Int)
 n.d.bl
 (nilT
 (Int ×
 List
 Int)))).bl
 (keysF
 (openD
 (Dk.mk
 false
 (leftF
 cuts
 x)
 (↑x :
 Int)
 (↑x :
 Int)
 n.d.bl
 (nilT
 (Int ×
 List
 Int)))).sy).length =
 n.d.bl) ∧
 nilT
 (Int ×
 List
 Int) =
 nilT
 (Int ×
 List
 Int) ∧
 True) ∧
 (↑x : Int) +
 (1 : Int) =
 (↑x' : Int) ∧
 True ∧
 True ∧
 cuts = cuts ∧
 keep = keep ∧
 True))) ∧
 (¬(openD
 (Dk.mk false (leftF cuts x) (↑x : Int) (↑x : Int) n.d.bl
 (nilT (Int × List Int)))).down =
 true →
 ((syncF
 (upD
 (openD
 (Dk.mk false (leftF cuts x) (↑x : Int) (↑x : Int)
 n.d.bl (nilT (Int × List Int)))))).fst =
 (0 : Int) →
 ∃ (r : Rt),
 ∃ (c : Cn),
 True ∧
 (((True ∧
 (openD
 (Dk.mk false (leftF cuts x) (↑x : Int)
 (↑x : Int) n.d.bl
 (nilT (Int × List Int)))).down =
 (openD
 (Dk.mk false (leftF cuts x) (↑x : Int)
 (↑x : Int) n.d.bl
 (nilT (Int × List Int)))).down ∧
 (openD
 (Dk.mk false (leftF cuts x) (↑x : Int)
 (↑x : Int) n.d.bl
 (nilT (Int × List Int)))).left =
 (openD
 (Dk.mk false (leftF cuts x) (↑x : Int)
 (↑x : Int) n.d.bl
 (nilT (Int × List Int)))).left ∧
 (openD
 (Dk.mk false (leftF cuts x)
 (↑x : Int) (↑x : Int) n.d.bl
 (nilT (Int × List Int)))).turn =
 (openD
 (Dk.mk false (leftF cuts x)
 (↑x : Int) (↑x : Int) n.d.bl
 (nilT (Int × List Int)))).turn ∧
 (openD
 (Dk.mk false (leftF cuts x)
 (↑x : Int) (↑x : Int) n.d.bl
 (nilT
 (Int × List Int)))).opened =
 (openD
 (Dk.mk false (leftF cuts x)
 (↑x : Int) (↑x : Int) n.d.bl
 (nilT
 (Int × List Int)))).opened ∧
 True) ∧
 (True ∧ True) ∧
 (openD
 (Dk.mk false (leftF cuts x) (↑x : Int)
 (↑x : Int) n.d.bl
 (nilT (Int × List Int)))).bl =
 (openD
 (Dk.mk false (leftF cuts x) (↑x : Int)
 (↑x : Int) n.d.bl
 (nilT (Int × List Int)))).bl) ∧
 (openD
 (Dk.mk false (leftF cuts x) (↑x : Int)
 (↑x : Int) n.d.bl
 (nilT (Int × List Int)))).sy =
 (openD
 (Dk.mk false (leftF cuts x) (↑x : Int)
 (↑x : Int) n.d.bl
 (nilT (Int × List Int)))).sy ∧
 Ent.gl (0 : Nat) t.fst (Value.iface t.snd u) =
 Ent.gl (0 : Nat) t.fst (Value.iface t.snd u) ∧
 True) ∧
 (True ∧ True) ∧
 (DkOK
 (openD
 (Dk.mk false (leftF cuts x) (↑x : Int)
 (↑x : Int) n.d.bl [])) ∧
 NewP
 (openD
 (Dk.mk false (leftF cuts x) (↑x : Int)
 (↑x : Int) n.d.bl [])).bl
 r c ∧
 (openD
 (Dk.mk false (leftF cuts x) (↑x : Int)
 (↑x : Int) n.d.bl
 (nilT (Int × List Int)))).down =
 false ∧
 (syncF
 (upD
 (openD
 (Dk.mk false (leftF cuts x)
 (↑x : Int) (↑x : Int) n.d.bl
 (nilT
 (Int × List Int)))))).fst =
 (0 : Int) ∧
 (0 : Int) ≤
 (openD
 (Dk.mk false (leftF cuts x)
 (↑x : Int) (↑x : Int) n.d.bl
 [])).opened ∧
 (openD
 (Dk.mk false (leftF cuts x)
 (↑x : Int) (↑x : Int) n.d.bl
 [])).opened ≤
 (1000000 : Int)) ∧
 True ∧
 False ∧
 Ent.gl (0 : Nat) t.fst (Value.iface t.snd u) =
 Ent.gl (0 : Nat) t.fst
 (Value.iface t.snd u) ∧
 True) ∧
 (¬(syncF
 (upD
 (openD
 (Dk.mk false (leftF cuts x) (↑x : Int) (↑x : Int)
 n.d.bl (nilT (Int × List Int)))))).fst =
 (0 : Int) →
 ∃ (r : Rt),
 ∃ (c : Cn),
 True ∧
 (((True ∧
 (openD
 (Dk.mk false (leftF cuts x) (↑x : Int)
 (↑x : Int) n.d.bl
 (nilT (Int × List Int)))).down =
 (openD
 (Dk.mk false (leftF cuts x) (↑x : Int)
 (↑x : Int) n.d.bl
 (nilT (Int × List Int)))).down ∧
 (openD
 (Dk.mk false (leftF cuts x) (↑x : Int)
 (↑x : Int) n.d.bl
 (nilT (Int × List Int)))).left =
 (openD
 (Dk.mk false (leftF cuts x) (↑x : Int)
 (↑x : Int) n.d.bl
 (nilT (Int × List Int)))).left ∧
 (openD
 (Dk.mk false (leftF cuts x)
 (↑x : Int) (↑x : Int) n.d.bl
 (nilT (Int × List Int)))).turn =
 (openD
 (Dk.mk false (leftF cuts x)
 (↑x : Int) (↑x : Int) n.d.bl
 (nilT (Int × List Int)))).turn ∧
 (openD
 (Dk.mk false (leftF cuts x)
 (↑x : Int) (↑x : Int) n.d.bl
 (nilT
 (Int × List Int)))).opened =
 (openD
 (Dk.mk false (leftF cuts x)
 (↑x : Int) (↑x : Int) n.d.bl
 (nilT
 (Int × List Int)))).opened ∧
 True) ∧
 (True ∧ True) ∧
 (openD
 (Dk.mk false (leftF cuts x) (↑x : Int)
 (↑x : Int) n.d.bl
 (nilT (Int × List Int)))).bl =
 (openD
 (Dk.mk false (leftF cuts x) (↑x : Int)
 (↑x : Int) n.d.bl
 (nilT (Int × List Int)))).bl) ∧
 (openD
 (Dk.mk false (leftF cuts x) (↑x : Int)
 (↑x : Int) n.d.bl
 (nilT (Int × List Int)))).sy =
 (openD
 (Dk.mk false (leftF cuts x) (↑x : Int)
 (↑x : Int) n.d.bl
 (nilT (Int × List Int)))).sy ∧
 Ent.gl (0 : Nat) t.fst (Value.iface t.snd u) =
 Ent.gl (0 : Nat) t.fst (Value.iface t.snd u) ∧
 True) ∧
 (True ∧ True) ∧
 (DkOK
 (openD
 (Dk.mk false (leftF cuts x) (↑x : Int)
 (↑x : Int) n.d.bl [])) ∧
 NewP
 (openD
 (Dk.mk false (leftF cuts x) (↑x : Int)
 (↑x : Int) n.d.bl [])).bl
 r c ∧
 (openD
 (Dk.mk false (leftF cuts x) (↑x : Int)
 (↑x : Int) n.d.bl
 (nilT (Int × List Int)))).down =
 false ∧
 (syncF
 (upD
 (openD
 (Dk.mk false (leftF cuts x)
 (↑x : Int) (↑x : Int) n.d.bl
 (nilT
 (Int × List Int)))))).fst =
 (8 : Int) ∧
 (0 : Int) ≤
 (openD
 (Dk.mk false (leftF cuts x)
 (↑x : Int) (↑x : Int) n.d.bl
 [])).opened ∧
 (openD
 (Dk.mk false (leftF cuts x)
 (↑x : Int) (↑x : Int) n.d.bl
 [])).opened ≤
 (1000000 : Int)) ∧
 True ∧
 g4_q6 t u n cuts keep ∧
 (¬¬(8 : Int) = (8 : Int) →
 ¬¬(8 : Int) = (8 : Int) ∧
 ¬¬(8 : Int) = (8 : Int) ∧
 True ∧
 (((True ∧
 (openD
 (openD
 (Dk.mk false
 (leftF cuts x)
 (↑x : Int)
 (↑x : Int) n.d.bl
 (nilT
 (Int ×
 List
 Int))))).down =
 (openD
 (openD
 (Dk.mk false
 (leftF cuts x)
 (↑x : Int)
 (↑x : Int) n.d.bl
 (nilT
 (Int ×
 List
 Int))))).down ∧
 (openD
 (openD
 (Dk.mk false
 (leftF cuts x)
 (↑x : Int)
 (↑x : Int)
 n.d.bl
 (nilT
 (Int ×
 List
 Int))))).left =
 (openD
 (openD
 (Dk.mk false
 (leftF cuts x)
 (↑x : Int)
 (↑x : Int)
 n.d.bl
 (nilT
 (Int ×
 List
 Int))))).left ∧
 (openD
 (openD
 (Dk.mk false
 (leftF cuts x)
 (↑x : Int)
 (↑x : Int)
 n.d.bl
 (nilT
 (Int ×
 List
 Int))))).turn =
 (openD
 (openD
 (Dk.mk false
 (leftF cuts x)
 (↑x : Int)
 (↑x : Int)
 n.d.bl
 (nilT
 (Int ×
 List
 Int))))).turn ∧
 (openD
 (openD
 (Dk.mk false
 (leftF cuts
 x)
 (↑x : Int)
 (↑x : Int)
 n.d.bl
 (nilT
 (Int ×
 List
 Int))))).opened =
 (openD
 (openD
 (Dk.mk false
 (leftF cuts
 x)
 (↑x : Int)
 (↑x : Int)
 n.d.bl
 (nilT
 (Int ×
 List
 Int))))).opened ∧
 True) ∧
 (True ∧ True) ∧
 (openD
 (openD
 (Dk.mk false
 (leftF cuts x)
 (↑x : Int)
 (↑x : Int) n.d.bl
 (nilT
 (Int ×
 List
 Int))))).bl =
 (openD
 (openD
 (Dk.mk false
 (leftF cuts x)
 (↑x : Int)
 (↑x : Int) n.d.bl
 (nilT
 (Int ×
 List
 Int))))).bl) ∧
 (openD
 (openD
 (Dk.mk false
 (leftF cuts x)
 (↑x : Int) (↑x : Int)
 n.d.bl
 (nilT
 (Int ×
 List Int))))).sy =
 (openD
 (openD
 (Dk.mk false
 (leftF cuts x)
 (↑x : Int) (↑x : Int)
 n.d.bl
 (nilT
 (Int ×
 List Int))))).sy ∧
 True) ∧
 (True ∧ keep = keep ∧ True) ∧
 (DkOK
 (openD
 (openD
 (Dk.mk false
 (leftF cuts x)
 (↑x : Int) (↑x : Int)
 n.d.bl []))) ∧
 (0 : Int) ≤
 (openD
 (openD
 (Dk.mk false
 (leftF cuts x)
 (↑x : Int)
 (↑x : Int) n.d.bl
 []))).turn ∧
 (openD
 (openD
 (Dk.mk false
 (leftF cuts x)
 (↑x : Int)
 (↑x : Int) n.d.bl
 []))).turn ≤
 (1000000 : Int)) ∧
 True ∧
 ((↑x : Int) = (0 : Int) →
 (↑x : Int) = (0 : Int) ∧
 Fits IntKind.i64 cuts ∧
 ((0 : Int) ≤ cuts ∧
 (0 : Int) <
 (8 : Int)) ∧
 Fits IntKind.i64
 (cuts /
 (8 : Int)) ∧
 ((0 : Int) ≤
 cuts /
 (8 :
 Int) ∧
 (0 : Int) <
 (8 : Int)) ∧
 Fits IntKind.i64
 ((↑x :
 Int) +
 (1 :
 Int)) ∧
 ∃ (x' : Nat),
 x' ≤
 (2 :
 Nat) ∧
 (2 :
 Nat) -
 x' <
 (2 :
 Nat) -
 x ∧
 (Ent.gl
 (0 :
 Nat)
 t.fst
 (Value.iface
 t.snd
 u) =
 Ent.gl
 (0 :
 Nat)
 t.fst
 (Value.iface
 t.snd
 u) ∧
 g4_q2
 t
 u
 n
 cuts
 keep ∧
 ((True ∧
 false =
 false ∧
 max
 (cuts /
 (8 :
 Int) %
 (8 :
 Int))
 (0 :
 Int) =
 leftF
 cuts
 x' ∧
 (openD
 (openD
 (Dk.mk
 false
 (leftF
 cuts
 x)
 (↑x :
 Int)
 (↑x :
 Int)
 n.d.bl
 (nilT
 (Int ×
 List
 Int))))).turn +
 (1 :
 Int) =
 (↑x' :
 Int) ∧
 (openD
 (openD
 (Dk.mk
 false
 (leftF
 cuts
 x)
 (↑x :
 Int)
 (↑x :
 Int)
 n.d.bl
 (nilT
 (Int ×
 List
 Int))))).opened =
 (↑x' :
 Int) ∧
 True) ∧
 (True ∧
 True) ∧
 tearN
 keep
 (openD
 (openD
 (Dk.mk
 false
 (leftF
 cuts
 x)
 (↑x :
 Int)
 (↑x :
 Int)
 n.d.bl
 (nilT
 (Int ×
 List
 Int))))).sy
 (keysF
 (openD
 (openD
 (Dk.mk
 false
 (leftF
 cuts
 x)
 (↑x :
 Int)
 (↑x :
 Int)
 n.d.bl
 (nilT
 (Int ×
 List
 Int))))).sy)
 (openD
 (openD
 (Dk.mk
 false
 (leftF
 cuts
 x)
 (↑x :
 Int)
 (↑x :
 Int)
 n.d.bl
 (nilT
 (Int ×
 List
 Int))))).bl
 (keysF
 (openD
 (openD
 (Dk.mk
 false
 (leftF
 cuts
 x)
 (↑x :
 Int)
 (↑x :
 Int)
 n.d.bl
 (nilT
 (Int ×
 List
 Int))))).sy).length =
 n.d.bl) ∧
 nilT
 (Int ×
 List
 Int) =
 nilT
 (Int ×
 List
 Int) ∧
 True) ∧
 (↑x :
 Int) +
 (1 :
 Int) =
 (↑x' :
 Int) ∧
 True ∧
 True ∧
 cuts =
 cuts ∧
 keep =
 keep ∧
 True) ∧
 (¬(↑x : Int) = (0 : Int) →
 ¬(↑x : Int) = (0 : Int) ∧
 Fits IntKind.i64
 ((↑x : Int) +
 (1 : Int)) ∧
 ∃ (x' : Nat),
 x' ≤ (2 : Nat) ∧
 (2 : Nat) - x' <
 (2 : Nat) -
 x ∧
 (Ent.gl
 (0 :
 Nat)
 t.fst
 (Value.iface
 t.snd
 u) =
 Ent.gl
 (0 :
 Nat)
 t.fst
 (Value.iface
 t.snd
 u) ∧
 g4_q2 t u n
 cuts
 keep ∧
 ((True ∧
 false =
 false ∧
 (0 :
 Int) =
 leftF
 cuts
 x' ∧
 (openD
 (openD
 (Dk.mk
 false
 (leftF
 cuts
 x)
 (↑x :
 Int)
 (↑x :
 Int)
 n.d.bl
 (nilT
 (Int ×
 List
 Int))))).turn +
 (1 :
 Int) =
 (↑x' :
 Int) ∧
 (openD
 (openD
 (Dk.mk
 false
 (leftF
 cuts
 x)
 (↑x :
 Int)
 (↑x :
 Int)
 n.d.bl
 (nilT
 (Int ×
 List
 Int))))).opened =
 (↑x' :
 Int) ∧
 True) ∧
 (True ∧
 True) ∧
 tearN
 keep
 (openD
 (openD
 (Dk.mk
 false
 (leftF
 cuts
 x)
 (↑x :
 Int)
 (↑x :
 Int)
 n.d.bl
 (nilT
 (Int ×
 List
 Int))))).sy
 (keysF
 (openD
 (openD
 (Dk.mk
 false
 (leftF
 cuts
 x)
 (↑x :
 Int)
 (↑x :
 Int)
 n.d.bl
 (nilT
 (Int ×
 List
 Int))))).sy)
 (openD
 (openD
 (Dk.mk
 false
 (leftF
 cuts
 x)
 (↑x :
 Int)
 (↑x :
 Int)
 n.d.bl
 (nilT
 (Int ×
 List
 Int))))).bl
 (keysF
 (openD
 (openD
 (Dk.mk
 false
 (leftF
 cuts
 x)
 (↑x :
 Int)
 (↑x :
 Int)
 n.d.bl
 (nilT
 (Int ×
 List
 Int))))).sy).length =
 n.d.bl) ∧
 nilT
 (Int ×
 List
 Int) =
 nilT
 (Int ×
 List
 Int) ∧
 True) ∧
 (↑x : Int) +
 (1 :
 Int) =
 (↑x' :
 Int) ∧
 True ∧
 True ∧
 cuts =
 cuts ∧
 keep =
 keep ∧
 True))))))))) ∧
 (¬(syncF (upD (Dk.mk false (leftF cuts x) (↑x : Int) (↑x : Int) n.d.bl (nilT (Int × List Int))))).fst = (0 : Int) →
 ∃ (r : Rt),
 ∃ (c : Cn),
 True ∧
 (((True ∧
 false = false ∧
 leftF cuts x = leftF cuts x ∧ (↑x : Int) = (↑x : Int) ∧ (↑x : Int) = (↑x : Int) ∧ True) ∧
 (True ∧ True) ∧ n.d.bl = n.d.bl) ∧
 nilT (Int × List Int) = nilT (Int × List Int) ∧
 Ent.gl (0 : Nat) t.fst (Value.iface t.snd u) = Ent.gl (0 : Nat) t.fst (Value.iface t.snd u) ∧ True) ∧
 (True ∧ True) ∧
 (DkOK (Dk.mk false (leftF cuts x) (↑x : Int) (↑x : Int) n.d.bl []) ∧
 NewP n.d.bl r c ∧
 false = false ∧
 (syncF
 (upD
 (Dk.mk false (leftF cuts x) (↑x : Int) (↑x : Int) n.d.bl
 (nilT (Int × List Int))))).fst =
 (8 : Int) ∧
 (0 : Int) ≤ (↑x : Int) ∧ (↑x : Int) ≤ (1000000 : Int)) ∧
 True ∧
 (¬(openD (Dk.mk false (leftF cuts x) (↑x : Int) (↑x : Int) n.d.bl (nilT (Int × List Int)))).down =
 decide ((8 : Int) = (8 : Int)) →
 ¬(openD (Dk.mk false (leftF cuts x) (↑x : Int) (↑x : Int) n.d.bl (nilT (Int × List Int)))).down =
 decide ((8 : Int) = (8 : Int)) ∧
 ¬(openD
 (Dk.mk false (leftF cuts x) (↑x : Int) (↑x : Int) n.d.bl
 (nilT (Int × List Int)))).down =
 decide ((8 : Int) = (8 : Int)) ∧
 False ∧
 Ent.gl (0 : Nat) t.fst (Value.iface t.snd u) =
 Ent.gl (0 : Nat) t.fst (Value.iface t.snd u) ∧
 True) ∧
 (¬¬(openD (Dk.mk false (leftF cuts x) (↑x : Int) (↑x : Int) n.d.bl (nilT (Int × List Int)))).down =
 decide ((8 : Int) = (8 : Int)) →
 ¬¬(openD (Dk.mk false (leftF cuts x) (↑x : Int) (↑x : Int) n.d.bl (nilT (Int × List Int)))).down =
 decide ((8 : Int) = (8 : Int)) ∧
 ¬¬(openD
 (Dk.mk false (leftF cuts x) (↑x : Int) (↑x : Int) n.d.bl
 (nilT (Int × List Int)))).down =
 decide ((8 : Int) = (8 : Int)) ∧
 g4_q3 t u n cuts keep ∧
 (¬¬true = true →
 ¬¬true = true ∧
 ¬¬true = true ∧
 ¬¬true = true ∧
 (¬(8 : Int) = (0 : Int) →
 ¬(8 : Int) = (0 : Int) ∧
 ¬(8 : Int) = (0 : Int) ∧
 g4_q5 t u n cuts keep ∧
 (¬¬(8 : Int) = (8 : Int) →
 ¬¬(8 : Int) = (8 : Int) ∧
 ¬¬(8 : Int) = (8 : Int) ∧
 ¬¬(8 : Int) = (8 : Int) ∧
 ((8 : Int) = (0 : Int) → (8 : Int) = (0 : Int) ∧ False) ∧
 (¬(8 : Int) = (0 : Int) →
 ¬(8 : Int) = (0 : Int) ∧
 ((openD
 (Dk.mk false (leftF cuts x) (↑x : Int) (↑x : Int)
 n.d.bl (nilT (Int × List Int)))).down =
 true →
 True ∧
 (((True ∧
 (openD
 (Dk.mk false (leftF cuts x) (↑x : Int)
 (↑x : Int) n.d.bl
 (nilT (Int × List Int)))).down =
 (openD
 (Dk.mk false (leftF cuts x) (↑x : Int)
 (↑x : Int) n.d.bl
 (nilT (Int × List Int)))).down ∧
 (openD
 (Dk.mk false (leftF cuts x)
 (↑x : Int) (↑x : Int) n.d.bl
 (nilT (Int × List Int)))).left =
 (openD
 (Dk.mk false (leftF cuts x)
 (↑x : Int) (↑x : Int) n.d.bl
 (nilT (Int × List Int)))).left ∧
 (openD
 (Dk.mk false (leftF cuts x)
 (↑x : Int) (↑x : Int) n.d.bl
 (nilT (Int × List Int)))).turn =
 (openD
 (Dk.mk false (leftF cuts x)
 (↑x : Int) (↑x : Int) n.d.bl
 (nilT (Int × List Int)))).turn ∧
 (openD
 (Dk.mk false (leftF cuts x)
 (↑x : Int) (↑x : Int) n.d.bl
 (nilT
 (Int × List Int)))).opened =
 (openD
 (Dk.mk false (leftF cuts x)
 (↑x : Int) (↑x : Int) n.d.bl
 (nilT
 (Int × List Int)))).opened ∧
 True) ∧
 (True ∧ True) ∧
 (openD
 (Dk.mk false (leftF cuts x) (↑x : Int)
 (↑x : Int) n.d.bl
 (nilT (Int × List Int)))).bl =
 (openD
 (Dk.mk false (leftF cuts x) (↑x : Int)
 (↑x : Int) n.d.bl
 (nilT (Int × List Int)))).bl) ∧
 (openD
 (Dk.mk false (leftF cuts x) (↑x : Int)
 (↑x : Int) n.d.bl
 (nilT (Int × List Int)))).sy =
 (openD
 (Dk.mk false (leftF cuts x) (↑x : Int)
 (↑x : Int) n.d.bl
 (nilT (Int × List Int)))).sy ∧
 True) ∧
 (True ∧ True) ∧
 (openD
 (Dk.mk false (leftF cuts x) (↑x : Int)
 (↑x : Int) n.d.bl
 (nilT (Int × List Int)))).down =
 true ∧
 True ∧
 g4_q6 t u n cuts keep ∧
 (¬¬(8 : Int) = (8 : Int) →
 ¬¬(8 : Int) = (8 : Int) ∧
 ¬¬(8 : Int) = (8 : Int) ∧
 True ∧
 (((True ∧
 (openD
 (Dk.mk false
 (leftF cuts x)
 (↑x : Int)
 (↑x : Int) n.d.bl
 (nilT
 (Int ×
 List
 Int)))).down =
 (openD
 (Dk.mk false
 (leftF cuts x)
 (↑x : Int)
 (↑x : Int) n.d.bl
 (nilT
 (Int ×
 List
 Int)))).down ∧
 (openD
 (Dk.mk false
 (leftF cuts x)
 (↑x : Int)
 (↑x : Int)
 n.d.bl
 (nilT
 (Int ×
 List
 Int)))).left =
 (openD
 (Dk.mk false
 (leftF cuts x)
 (↑x : Int)
 (↑x : Int)
 n.d.bl
 (nilT
 (Int ×
 List
 Int)))).left ∧
 (openD
 (Dk.mk false
 (leftF cuts x)
 (↑x : Int)
 (↑x : Int)
 n.d.bl
 (nilT
 (Int ×
 List
 Int)))).turn =
 (openD
 (Dk.mk false
 (leftF cuts x)
 (↑x : Int)
 (↑x : Int)
 n.d.bl
 (nilT
 (Int ×
 List
 Int)))).turn ∧
 (openD
 (Dk.mk false
 (leftF cuts
 x)
 (↑x : Int)
 (↑x : Int)
 n.d.bl
 (nilT
 (Int ×
 List
 Int)))).opened =
 (openD
 (Dk.mk false
 (leftF cuts
 x)
 (↑x : Int)
 (↑x : Int)
 n.d.bl
 (nilT
 (Int ×
 List
 Int)))).opened ∧
 True) ∧
 (True ∧ True) ∧
 (openD
 (Dk.mk false
 (leftF cuts x)
 (↑x : Int)
 (↑x : Int) n.d.bl
 (nilT
 (Int ×
 List
 Int)))).bl =
 (openD
 (Dk.mk false
 (leftF cuts x)
 (↑x : Int)
 (↑x : Int) n.d.bl
 (nilT
 (Int ×
 List
 Int)))).bl) ∧
 (openD
 (Dk.mk false
 (leftF cuts x)
 (↑x : Int) (↑x : Int)
 n.d.bl
 (nilT
 (Int ×
 List Int)))).sy =
 (openD
 (Dk.mk false
 (leftF cuts x)
 (↑x : Int) (↑x : Int)
 n.d.bl
 (nilT
 (Int ×
 List Int)))).sy ∧
 True) ∧
 (True ∧ keep = keep ∧ True) ∧
 (DkOK
 (openD
 (Dk.mk false
 (leftF cuts x)
 (↑x : Int) (↑x : Int)
 n.d.bl [])) ∧
 (0 : Int) ≤
 (openD
 (Dk.mk false
 (leftF cuts x)
 (↑x : Int)
 (↑x : Int) n.d.bl
 [])).turn ∧
 (openD
 (Dk.mk false
 (leftF cuts x)
 (↑x : Int)
 (↑x : Int) n.d.bl
 [])).turn ≤
 (1000000 : Int)) ∧
 True ∧
 ((↑x : Int) = (0 : Int) →
 (↑x : Int) = (0 : Int) ∧
 Fits IntKind.i64
 cuts ∧
 ((0 : Int) ≤ cuts ∧
 (0 : Int) <
 (8 : Int)) ∧
 Fits IntKind.i64
 (cuts /
 (8 : Int)) ∧
 ((0 : Int) ≤
 cuts /
 (8 :
 Int) ∧
 (0 : Int) <
 (8 :
 Int)) ∧
 Fits
 IntKind.i64
 ((↑x :
 Int) +
 (1 :
 Int)) ∧
 ∃ (x' :
 Nat),
 x' ≤
 (2 :
 Nat) ∧
 (2 :
 Nat) -
 x' <
 (2 :
 Nat) -
 x ∧
 (Ent.gl
 (0 :
 Nat)
 t.fst
 (Value.iface
 t.snd
 u) =
 Ent.gl
 (0 :
 Nat)
 t.fst
 (Value.iface
 t.snd
 u) ∧
 g4_q2
 t
 u
 n
 cuts
 keep ∧
 ((True ∧
 false =
 false ∧
 max
 (cuts /
 (8 :
 Int) %
 (8 :
 Int))
 (0 :
 Int) =
 leftF
 cuts
 x' ∧
 (openD
 (Dk.mk
 false
 (leftF
 cuts
 x)
 (↑x :
 Int)
 (↑x :
 Int)
 n.d.bl
 (nilT
 (Int ×
 List
 Int)))).turn +
 (1 :
 Int) =
 (↑x' :
 Int) ∧
 (openD
 (Dk.mk
 false
 (leftF
 cuts
 x)
 (↑x :
 Int)
 (↑x :
 Int)
 n.d.bl
 (nilT
 (Int ×
 List
 Int)))).opened =
 (↑x' :
 Int) ∧
 True) ∧
 (True ∧
 True) ∧
 tearN
 keep
 (openD
 (Dk.mk
 false
 (leftF
 cuts
 x)
 (↑x :
 Int)
 (↑x :
 Int)
 n.d.bl
 (nilT
 (Int ×
 List
 Int)))).sy
 (keysF
 (openD
 (Dk.mk
 false
 (leftF
 cuts
 x)
 (↑x :
 Int)
 (↑x :
 Int)
 n.d.bl
 (nilT
 (Int ×
 List
 Int)))).sy)
 (openD
 (Dk.mk
 false
 (leftF
 cuts
 x)
 (↑x :
 Int)
 (↑x :
 Int)
 n.d.bl
 (nilT
 (Int ×
 List
 Int)))).bl
 (keysF
 (openD
 (Dk.mk
 false
 (leftF
 cuts
 x)
 (↑x :
 Int)
 (↑x :
 Int)
 n.d.bl
 (nilT
 (Int ×
 List
 Int)))).sy).length =
 n.d.bl) ∧
 nilT
 (Int ×
 List
 Int) =
 nilT
 (Int ×
 List
 Int) ∧
 True) ∧
 (↑x :
 Int) +
 (1 :
 Int) =
 (↑x' :
 Int) ∧
 True ∧
 True ∧
 cuts =
 cuts ∧
 keep =
 keep ∧
 True) ∧
 (¬(↑x : Int) = (0 : Int) →
 ¬(↑x : Int) =
 (0 : Int) ∧
 Fits IntKind.i64
 ((↑x : Int) +
 (1 : Int)) ∧
 ∃ (x' : Nat),
 x' ≤ (2 : Nat) ∧
 (2 : Nat) - x' <
 (2 : Nat) -
 x ∧
 (Ent.gl
 (0 :
 Nat)
 t.fst
 (Value.iface
 t.snd
 u) =
 Ent.gl
 (0 :
 Nat)
 t.fst
 (Value.iface
 t.snd
 u) ∧
 g4_q2 t u
 n cuts
 keep ∧
 ((True ∧
 false =
 false ∧
 (0 :
 Int) =
 leftF
 cuts
 x' ∧
 (openD
 (Dk.mk
 false
 (leftF
 cuts
 x)
 (↑x :
 Int)
 (↑x :
 Int)
 n.d.bl
 (nilT
 (Int ×
 List
 Int)))).turn +
 (1 :
 Int) =
 (↑x' :
 Int) ∧
 (openD
 (Dk.mk
 false
 (leftF
 cuts
 x)
 (↑x :
 Int)
 (↑x :
 Int)
 n.d.bl
 (nilT
 (Int ×
 List
 Int)))).opened =
 (↑x' :
 Int) ∧
 True) ∧
 (True ∧
 True) ∧
 tearN
 keep
 (openD
 (Dk.mk
 false
 (leftF
 cuts
 x)
 (↑x :
 Int)
 (↑x :
 Int)
 n.d.bl
 (nilT
 (Int ×
 List
 Int)))).sy
 (keysF
 (openD
 (Dk.mk
 false
 (leftF
 cuts
 x)
 (↑x :
 Int)
 (↑x :
 Int)
 n.d.bl
 (nilT
 (Int ×
 List
 Int)))).sy)
 (openD
 (Dk.mk
 false
 (leftF
 cuts
 x)
 (↑x :
 Int)
 (↑x :
 Int)
 n.d.bl
 (nilT
 (Int ×
 List
 Int)))).bl
 (keysF
 (openD
 (Dk.mk
 false
 (leftF
 cuts
 x)
 (↑x :
 Int)
 (↑x :
 Int)
 n.d.bl
 (nilT
 (Int ×
 List
 Int)))).sy).length =
 n.d.bl) ∧
 nilT
 (Int ×
 List
 Int) =
 nilT
 (Int ×
 List
 Int) ∧
 True) ∧
 (↑x : Int) +
 (1 :
 Int) =
 (↑x' :
 Int) ∧
 True ∧
 True ∧
 cuts =
 cuts ∧
 keep =
 keep ∧
 True))) ∧
 (¬(openD
 (Dk.mk false (leftF cuts x) (↑x : Int)
 (↑x : Int) n.d.bl
 (nilT (Int × List Int)))).down =
 true →
 ((syncF
 (upD
 (openD
 (Dk.mk false (leftF cuts x) (↑x : Int)
 (↑x : Int) n.d.bl
 (nilT (Int × List Int)))))).fst =
 (0 : Int) →
 ∃ (r : Rt),
 ∃ (c : Cn),
 True ∧
 (((True ∧
 (openD
 (Dk.mk false (leftF cuts x)
 (↑x : Int) (↑x : Int) n.d.bl
 (nilT
 (Int × List Int)))).down =
 (openD
 (Dk.mk false (leftF cuts x)
 (↑x : Int) (↑x : Int) n.d.bl
 (nilT
 (Int × List Int)))).down ∧
 (openD
 (Dk.mk false (leftF cuts x)
 (↑x : Int) (↑x : Int)
 n.d.bl
 (nilT
 (Int ×
 List Int)))).left =
 (openD
 (Dk.mk false (leftF cuts x)
 (↑x : Int) (↑x : Int)
 n.d.bl
 (nilT
 (Int ×
 List Int)))).left ∧
 (openD
 (Dk.mk false
 (leftF cuts x)
 (↑x : Int) (↑x : Int)
 n.d.bl
 (nilT
 (Int ×
 List Int)))).turn =
 (openD
 (Dk.mk false
 (leftF cuts x)
 (↑x : Int) (↑x : Int)
 n.d.bl
 (nilT
 (Int ×
 List Int)))).turn ∧
 (openD
 (Dk.mk false
 (leftF cuts x)
 (↑x : Int) (↑x : Int)
 n.d.bl
 (nilT
 (Int ×
 List
 Int)))).opened =
 (openD
 (Dk.mk false
 (leftF cuts x)
 (↑x : Int) (↑x : Int)
 n.d.bl
 (nilT
 (Int ×
 List
 Int)))).opened ∧
 True) ∧
 (True ∧ True) ∧
 (openD
 (Dk.mk false (leftF cuts x)
 (↑x : Int) (↑x : Int) n.d.bl
 (nilT (Int × List Int)))).bl =
 (openD
 (Dk.mk false (leftF cuts x)
 (↑x : Int) (↑x : Int) n.d.bl
 (nilT
 (Int × List Int)))).bl) ∧
 (openD
 (Dk.mk false (leftF cuts x)
 (↑x : Int) (↑x : Int) n.d.bl
 (nilT (Int × List Int)))).sy =
 (openD
 (Dk.mk false (leftF cuts x)
 (↑x : Int) (↑x : Int) n.d.bl
 (nilT (Int × List Int)))).sy ∧
 Ent.gl (0 : Nat) t.fst
 (Value.iface t.snd u) =
 Ent.gl (0 : Nat) t.fst
 (Value.iface t.snd u) ∧
 True) ∧
 (True ∧ True) ∧
 (DkOK
 (openD
 (Dk.mk false (leftF cuts x)
 (↑x : Int) (↑x : Int) n.d.bl
 [])) ∧
 NewP
 (openD
 (Dk.mk false (leftF cuts x)
 (↑x : Int) (↑x : Int) n.d.bl
 [])).bl
 r c ∧
 (openD
 (Dk.mk false (leftF cuts x)
 (↑x : Int) (↑x : Int)
 n.d.bl
 (nilT
 (Int ×
 List Int)))).down =
 false ∧
 (syncF
 (upD
 (openD
 (Dk.mk false
 (leftF cuts x)
 (↑x : Int)
 (↑x : Int) n.d.bl
 (nilT
 (Int ×
 List
 Int)))))).fst =
 (0 : Int) ∧
 (0 : Int) ≤
 (openD
 (Dk.mk false
 (leftF cuts x)
 (↑x : Int) (↑x : Int)
 n.d.bl [])).opened ∧
 (openD
 (Dk.mk false
 (leftF cuts x)
 (↑x : Int) (↑x : Int)
 n.d.bl [])).opened ≤
 (1000000 : Int)) ∧
 True ∧
 False ∧
 Ent.gl (0 : Nat) t.fst
 (Value.iface t.snd u) =
 Ent.gl (0 : Nat) t.fst
 (Value.iface t.snd u) ∧
 True) ∧
 (¬(syncF
 (upD
 (openD
 (Dk.mk false (leftF cuts x) (↑x : Int)
 (↑x : Int) n.d.bl
 (nilT (Int × List Int)))))).fst =
 (0 : Int) →
 ∃ (r : Rt),
 ∃ (c : Cn),
 True ∧
 (((True ∧
 (openD
 (Dk.mk false (leftF cuts x)
 (↑x : Int) (↑x : Int) n.d.bl
 (nilT
 (Int × List Int)))).down =
 (openD
 (Dk.mk false (leftF cuts x)
 (↑x : Int) (↑x : Int) n.d.bl
 (nilT
 (Int × List Int)))).down ∧
 (openD
 (Dk.mk false (leftF cuts x)
 (↑x : Int) (↑x : Int)
 n.d.bl
 (nilT
 (Int ×
 List Int)))).left =
 (openD
 (Dk.mk false (leftF cuts x)
 (↑x : Int) (↑x : Int)
 n.d.bl
 (nilT
 (Int ×
 List Int)))).left ∧
 (openD
 (Dk.mk false
 (leftF cuts x)
 (↑x : Int) (↑x : Int)
 n.d.bl
 (nilT
 (Int ×
 List Int)))).turn =
 (openD
 (Dk.mk false
 (leftF cuts x)
 (↑x : Int) (↑x : Int)
 n.d.bl
 (nilT
 (Int ×
 List Int)))).turn ∧
 (openD
 (Dk.mk false
 (leftF cuts x)
 (↑x : Int) (↑x : Int)
 n.d.bl
 (nilT
 (Int ×
 List
 Int)))).opened =
 (openD
 (Dk.mk false
 (leftF cuts x)
 (↑x : Int) (↑x : Int)
 n.d.bl
 (nilT
 (Int ×
 List
 Int)))).opened ∧
 True) ∧
 (True ∧ True) ∧
 (openD
 (Dk.mk false (leftF cuts x)
 (↑x : Int) (↑x : Int) n.d.bl
 (nilT (Int × List Int)))).bl =
 (openD
 (Dk.mk false (leftF cuts x)
 (↑x : Int) (↑x : Int) n.d.bl
 (nilT
 (Int × List Int)))).bl) ∧
 (openD
 (Dk.mk false (leftF cuts x)
 (↑x : Int) (↑x : Int) n.d.bl
 (nilT (Int × List Int)))).sy =
 (openD
 (Dk.mk false (leftF cuts x)
 (↑x : Int) (↑x : Int) n.d.bl
 (nilT (Int × List Int)))).sy ∧
 Ent.gl (0 : Nat) t.fst
 (Value.iface t.snd u) =
 Ent.gl (0 : Nat) t.fst
 (Value.iface t.snd u) ∧
 True) ∧
 (True ∧ True) ∧
 (DkOK
 (openD
 (Dk.mk false (leftF cuts x)
 (↑x : Int) (↑x : Int) n.d.bl
 [])) ∧
 NewP
 (openD
 (Dk.mk false (leftF cuts x)
 (↑x : Int) (↑x : Int) n.d.bl
 [])).bl
 r c ∧
 (openD
 (Dk.mk false (leftF cuts x)
 (↑x : Int) (↑x : Int)
 n.d.bl
 (nilT
 (Int ×
 List Int)))).down =
 false ∧
 (syncF
 (upD
 (openD
 (Dk.mk false
 (leftF cuts x)
 (↑x : Int)
 (↑x : Int) n.d.bl
 (nilT
 (Int ×
 List
 Int)))))).fst =
 (8 : Int) ∧
 (0 : Int) ≤
 (openD
 (Dk.mk false
 (leftF cuts x)
 (↑x : Int) (↑x : Int)
 n.d.bl [])).opened ∧
 (openD
 (Dk.mk false
 (leftF cuts x)
 (↑x : Int) (↑x : Int)
 n.d.bl [])).opened ≤
 (1000000 : Int)) ∧
 True ∧
 g4_q6 t u n cuts keep ∧
 (¬¬(8 : Int) = (8 : Int) →
 ¬¬(8 : Int) = (8 : Int) ∧
 ¬¬(8 : Int) = (8 : Int) ∧
 True ∧
 (((True ∧
 (openD
 (openD
 (Dk.mk
 false
 (leftF
 cuts
 x)
 (↑x :
 Int)
 (↑x :
 Int)
 n.d.bl
 (nilT
 (Int ×
 List
 Int))))).down =
 (openD
 (openD
 (Dk.mk
 false
 (leftF
 cuts
 x)
 (↑x :
 Int)
 (↑x :
 Int)
 n.d.bl
 (nilT
 (Int ×
 List
 Int))))).down ∧
 (openD
 (openD
 (Dk.mk
 false
 (leftF
 cuts
 x)
 (↑x :
 Int)
 (↑x :
 Int)
 n.d.bl
 (nilT
 (Int ×
 List
 Int))))).left =
 (openD
 (openD
 (Dk.mk
 false
 (leftF
 cuts
 x)
 (↑x :
 Int)
 (↑x :
 Int)
 n.d.bl
 (nilT
 (Int ×
 List
 Int))))).left ∧
 (openD
 (openD
 (Dk.mk
 false
 (leftF
 cuts
 x)
 (↑x :
 Int)
 (↑x :
 Int)
 n.d.bl
 (nilT
 (Int ×
 List
 Int))))).turn =
 (openD
 (openD
 (Dk.mk
 false
 (leftF
 cuts
 x)
 (↑x :
 Int)
 (↑x :
 Int)
 n.d.bl
 (nilT
 (Int ×
 List
 Int))))).turn ∧
 (openD
 (openD
 (Dk.mk
 false
 (leftF
 cuts
 x)
 (↑x :
 Int)
 (↑x :
 Int)
 n.d.bl
 (nilT
 (Int ×
 List
 Int))))).opened =
 (openD
 (openD
 (Dk.mk
 false
 (leftF
 cuts
 x)
 (↑x :
 Int)
 (↑x :
 Int)
 n.d.bl
 (nilT
 (Int ×
 List
 Int))))).opened ∧
 True) ∧
 (True ∧ True) ∧
 (openD
 (openD
 (Dk.mk false
 (leftF
 cuts x)
 (↑x : Int)
 (↑x : Int)
 n.d.bl
 (nilT
 (Int ×
 List
 Int))))).bl =
 (openD
 (openD
 (Dk.mk false
 (leftF
 cuts x)
 (↑x : Int)
 (↑x : Int)
 n.d.bl
 (nilT
 (Int ×
 List
 Int))))).bl) ∧
 (openD
 (openD
 (Dk.mk false
 (leftF cuts
 x)
 (↑x : Int)
 (↑x : Int)
 n.d.bl
 (nilT
 (Int ×
 List
 Int))))).sy =
 (openD
 (openD
 (Dk.mk false
 (leftF cuts
 x)
 (↑x : Int)
 (↑x : Int)
 n.d.bl
 (nilT
 (Int ×
 List
 Int))))).sy ∧
 True) ∧
 (True ∧
 keep = keep ∧ True) ∧
 (DkOK
 (openD
 (openD
 (Dk.mk false
 (leftF cuts
 x)
 (↑x : Int)
 (↑x : Int)
 n.d.bl
 []))) ∧
 (0 : Int) ≤
 (openD
 (openD
 (Dk.mk
 false
 (leftF
 cuts
 x)
 (↑x :
 Int)
 (↑x :
 Int)
 n.d.bl
 []))).turn ∧
 (openD
 (openD
 (Dk.mk
 false
 (leftF
 cuts
 x)
 (↑x :
 Int)
 (↑x :
 Int)
 n.d.bl
 []))).turn ≤
 (1000000 :
 Int)) ∧
 True ∧
 ((↑x : Int) =
 (0 : Int) →
 (↑x : Int) =
 (0 : Int) ∧
 Fits
 IntKind.i64
 cuts ∧
 ((0 : Int) ≤
 cuts ∧
 (0 :
 Int) <
 (8 :
 Int)) ∧
 Fits
 IntKind.i64
 (cuts /
 (8 :
 Int)) ∧
 ((0 :
 Int) ≤
 cuts /
 (8 :
 Int) ∧
 (0 :
 Int) <
 (8 :
 Int)) ∧
 Fits
 IntKind.i64
 ((↑x :
 Int) +
 (1 :
 Int)) ∧
 ∃
 (x'
 :
 Nat),
 x' ≤
 (2 :
 Nat) ∧
 (2 :
 Nat) -
 x' <
 (2 :
 Nat) -
 x ∧
 (Ent.gl
 (0 :
 Nat)
 t.fst
 (Value.iface
 t.snd
 u) =
 Ent.gl
 (0 :
 Nat)
 t.fst
 (Value.iface
 t.snd
 u) ∧
 g4_q2
 t
 u
 n
 cuts
 keep ∧
 ((True ∧
 false =
 false ∧
 max
 (cuts /
 (8 :
 Int) %
 (8 :
 Int))
 (0 :
 Int) =
 leftF
 cuts
 x' ∧
 (openD
 (openD
 (Dk.mk
 false
 (leftF
 cuts
 x)
 (↑x :
 Int)
 (↑x :
 Int)
 n.d.bl
 (nilT
 (Int ×
 List
 Int))))).turn +
 (1 :
 Int) =
 (↑x' :
 Int) ∧
 (openD
 (openD
 (Dk.mk
 false
 (leftF
 cuts
 x)
 (↑x :
 Int)
 (↑x :
 Int)
 n.d.bl
 (nilT
 (Int ×
 List
 Int))))).opened =
 (↑x' :
 Int) ∧
 True) ∧
 (True ∧
 True) ∧
 tearN
 keep
 (openD
 (openD
 (Dk.mk
 false
 (leftF
 cuts
 x)
 (↑x :
 Int)
 (↑x :
 Int)
 n.d.bl
 (nilT
 (Int ×
 List
 Int))))).sy
 (keysF
 (openD
 (openD
 (Dk.mk
 false
 (leftF
 cuts
 x)
 (↑x :
 Int)
 (↑x :
 Int)
 n.d.bl
 (nilT
 (Int ×
 List
 Int))))).sy)
 (openD
 (openD
 (Dk.mk
 false
 (leftF
 cuts
 x)
 (↑x :
 Int)
 (↑x :
 Int)
 n.d.bl
 (nilT
 (Int ×
 List
 Int))))).bl
 (keysF
 (openD
 (openD
 (Dk.mk
 false
 (leftF
 cuts
 x)
 (↑x :
 Int)
 (↑x :
 Int)
 n.d.bl
 (nilT
 (Int ×
 List
 Int))))).sy).length =
 n.d.bl) ∧
 nilT
 (Int ×
 List
 Int) =
 nilT
 (Int ×
 List
 Int) ∧
 True) ∧
 (↑x :
 Int) +
 (1 :
 Int) =
 (↑x' :
 Int) ∧
 True ∧
 True ∧
 cuts =
 cuts ∧
 keep =
 keep ∧
 True) ∧
 (¬(↑x : Int) =
 (0 : Int) →
 ¬(↑x : Int) =
 (0 :
 Int) ∧
 Fits
 IntKind.i64
 ((↑x :
 Int) +
 (1 :
 Int)) ∧
 ∃ (x' :
 Nat),
 x' ≤
 (2 :
 Nat) ∧
 (2 :
 Nat) -
 x' <
 (2 :
 Nat) -
 x ∧
 (Ent.gl
 (0 :
 Nat)
 t.fst
 (Value.iface
 t.snd
 u) =
 Ent.gl
 (0 :
 Nat)
 t.fst
 (Value.iface
 t.snd
 u) ∧
 g4_q2
 t
 u
 n
 cuts
 keep ∧
 ((True ∧
 false =
 false ∧
 (0 :
 Int) =
 leftF
 cuts
 x' ∧
 (openD
 (openD
 (Dk.mk
 false
 (leftF
 cuts
 x)
 (↑x :
 Int)
 (↑x :
 Int)
 n.d.bl
 (nilT
 (Int ×
 List
 Int))))).turn +
 (1 :
 Int) =
 (↑x' :
 Int) ∧
 (openD
 (openD
 (Dk.mk
 false
 (leftF
 cuts
 x)
 (↑x :
 Int)
 (↑x :
 Int)
 n.d.bl
 (nilT
 (Int ×
 List
 Int))))).opened =
 (↑x' :
 Int) ∧
 True) ∧
 (True ∧
 True) ∧
 tearN
 keep
 (openD
 (openD
 (Dk.mk
 false
 (leftF
 cuts
 x)
 (↑x :
 Int)
 (↑x :
 Int)
 n.d.bl
 (nilT
 (Int ×
 List
 Int))))).sy
 (keysF
 (openD
 (openD
 (Dk.mk
 false
 (leftF
 cuts
 x)
 (↑x :
 Int)
 (↑x :
 Int)
 n.d.bl
 (nilT
 (Int ×
 List
 Int))))).sy)
 (openD
 (openD
 (Dk.mk
 false
 (leftF
 cuts
 x)
 (↑x :
 Int)
 (↑x :
 Int)
 n.d.bl
 (nilT
 (Int ×
 List
 Int))))).bl
 (keysF
 (openD
 (openD
 (Dk.mk
 false
 (leftF
 cuts
 x)
 (↑x :
 Int)
 (↑x :
 Int)
 n.d.bl
 (nilT
 (Int ×
 List
 Int))))).sy).length =
 n.d.bl) ∧
 nilT
 (Int ×
 List
 Int) =
 nilT
 (Int ×
 List
 Int) ∧
 True) ∧
 (↑x :
 Int) +
 (1 :
 Int) =
 (↑x' :
 Int) ∧
 True ∧
 True ∧
 cuts =
 cuts ∧
 keep =
 keep ∧
 True))))))) ∧
 (¬¬(8 : Int) = (0 : Int) →
 ¬¬(8 : Int) = (0 : Int) ∧
 ¬¬(8 : Int) = (0 : Int) ∧
 ((8 : Int) = (0 : Int) → (8 : Int) = (0 : Int) ∧ False) ∧
 (¬(8 : Int) = (0 : Int) →
 ¬(8 : Int) = (0 : Int) ∧
 ((openD
 (Dk.mk false (leftF cuts x) (↑x : Int) (↑x : Int) n.d.bl
 (nilT (Int × List Int)))).down =
 true →
 True ∧
 (((True ∧
 (openD
 (Dk.mk false (leftF cuts x) (↑x : Int)
 (↑x : Int) n.d.bl
 (nilT (Int × List Int)))).down =
 (openD
 (Dk.mk false (leftF cuts x) (↑x : Int)
 (↑x : Int) n.d.bl
 (nilT (Int × List Int)))).down ∧
 (openD
 (Dk.mk false (leftF cuts x) (↑x : Int)
 (↑x : Int) n.d.bl
 (nilT (Int × List Int)))).left =
 (openD
 (Dk.mk false (leftF cuts x) (↑x : Int)
 (↑x : Int) n.d.bl
 (nilT (Int × List Int)))).left ∧
 (openD
 (Dk.mk false (leftF cuts x) (↑x : Int)
 (↑x : Int) n.d.bl
 (nilT (Int × List Int)))).turn =
 (openD
 (Dk.mk false (leftF cuts x) (↑x : Int)
 (↑x : Int) n.d.bl
 (nilT (Int × List Int)))).turn ∧
 (openD
 (Dk.mk false (leftF cuts x) (↑x : Int)
 (↑x : Int) n.d.bl
 (nilT (Int × List Int)))).opened =
 (openD
 (Dk.mk false (leftF cuts x) (↑x : Int)
 (↑x : Int) n.d.bl
 (nilT (Int × List Int)))).opened ∧
 True) ∧
 (True ∧ True) ∧
 (openD
 (Dk.mk false (leftF cuts x) (↑x : Int) (↑x : Int)
 n.d.bl (nilT (Int × List Int)))).bl =
 (openD
 (Dk.mk false (leftF cuts x) (↑x : Int) (↑x : Int)
 n.d.bl (nilT (Int × List Int)))).bl) ∧
 (openD
 (Dk.mk false (leftF cuts x) (↑x : Int) (↑x : Int)
 n.d.bl (nilT (Int × List Int)))).sy =
 (openD
 (Dk.mk false (leftF cuts x) (↑x : Int) (↑x : Int)
 n.d.bl (nilT (Int × List Int)))).sy ∧
 True) ∧
 (True ∧ True) ∧
 (openD
 (Dk.mk false (leftF cuts x) (↑x : Int) (↑x : Int)
 n.d.bl (nilT (Int × List Int)))).down =
 true ∧
 True ∧
 g4_q6 t u n cuts keep ∧
 (¬¬(8 : Int) = (8 : Int) →
 ¬¬(8 : Int) = (8 : Int) ∧
 ¬¬(8 : Int) = (8 : Int) ∧
 True ∧
 (((True ∧
 (openD
 (Dk.mk false (leftF cuts x)
 (↑x : Int) (↑x : Int) n.d.bl
 (nilT
 (Int × List Int)))).down =
 (openD
 (Dk.mk false (leftF cuts x)
 (↑x : Int) (↑x : Int) n.d.bl
 (nilT
 (Int × List Int)))).down ∧
 (openD
 (Dk.mk false (leftF cuts x)
 (↑x : Int) (↑x : Int)
 n.d.bl
 (nilT
 (Int ×
 List Int)))).left =
 (openD
 (Dk.mk false (leftF cuts x)
 (↑x : Int) (↑x : Int)
 n.d.bl
 (nilT
 (Int ×
 List Int)))).left ∧
 (openD
 (Dk.mk false
 (leftF cuts x)
 (↑x : Int) (↑x : Int)
 n.d.bl
 (nilT
 (Int ×
 List Int)))).turn =
 (openD
 (Dk.mk false
 (leftF cuts x)
 (↑x : Int) (↑x : Int)
 n.d.bl
 (nilT
 (Int ×
 List Int)))).turn ∧
 (openD
 (Dk.mk false
 (leftF cuts x)
 (↑x : Int) (↑x : Int)
 n.d.bl
 (nilT
 (Int ×
 List
 Int)))).opened =
 (openD
 (Dk.mk false
 (leftF cuts x)
 (↑x : Int) (↑x : Int)
 n.d.bl
 (nilT
 (Int ×
 List
 Int)))).opened ∧
 True) ∧
 (True ∧ True) ∧
 (openD
 (Dk.mk false (leftF cuts x)
 (↑x : Int) (↑x : Int) n.d.bl
 (nilT (Int × List Int)))).bl =
 (openD
 (Dk.mk false (leftF cuts x)
 (↑x : Int) (↑x : Int) n.d.bl
 (nilT
 (Int × List Int)))).bl) ∧
 (openD
 (Dk.mk false (leftF cuts x)
 (↑x : Int) (↑x : Int) n.d.bl
 (nilT (Int × List Int)))).sy =
 (openD
 (Dk.mk false (leftF cuts x)
 (↑x : Int) (↑x : Int) n.d.bl
 (nilT (Int × List Int)))).sy ∧
 True) ∧
 (True ∧ keep = keep ∧ True) ∧
 (DkOK
 (openD
 (Dk.mk false (leftF cuts x)
 (↑x : Int) (↑x : Int) n.d.bl
 [])) ∧
 (0 : Int) ≤
 (openD
 (Dk.mk false (leftF cuts x)
 (↑x : Int) (↑x : Int) n.d.bl
 [])).turn ∧
 (openD
 (Dk.mk false (leftF cuts x)
 (↑x : Int) (↑x : Int) n.d.bl
 [])).turn ≤
 (1000000 : Int)) ∧
 True ∧
 ((↑x : Int) = (0 : Int) →
 (↑x : Int) = (0 : Int) ∧
 Fits IntKind.i64 cuts ∧
 ((0 : Int) ≤ cuts ∧
 (0 : Int) < (8 : Int)) ∧
 Fits IntKind.i64
 (cuts / (8 : Int)) ∧
 ((0 : Int) ≤
 cuts / (8 : Int) ∧
 (0 : Int) <
 (8 : Int)) ∧
 Fits IntKind.i64
 ((↑x : Int) +
 (1 : Int)) ∧
 ∃ (x' : Nat),
 x' ≤ (2 : Nat) ∧
 (2 : Nat) - x' <
 (2 : Nat) -
 x ∧
 (Ent.gl
 (0 :
 Nat)
 t.fst
 (Value.iface
 t.snd
 u) =
 Ent.gl
 (0 :
 Nat)
 t.fst
 (Value.iface
 t.snd
 u) ∧
 g4_q2 t u n
 cuts
 keep ∧
 ((True ∧
 false =
 false ∧
 max
 (cuts /
 (8 :
 Int) %
 (8 :
 Int))
 (0 :
 Int) =
 leftF
 cuts
 x' ∧
 (openD
 (Dk.mk
 false
 (leftF
 cuts
 x)
 (↑x :
 Int)
 (↑x :
 Int)
 n.d.bl
 (nilT
 (Int ×
 List
 Int)))).turn +
 (1 :
 Int) =
 (↑x' :
 Int) ∧
 (openD
 (Dk.mk
 false
 (leftF
 cuts
 x)
 (↑x :
 Int)
 (↑x :
 Int)
 n.d.bl
 (nilT
 (Int ×
 List
 Int)))).opened =
 (↑x' :
 Int) ∧
 True) ∧
 (True ∧
 True) ∧
 tearN
 keep
 (openD
 (Dk.mk
 false
 (leftF
 cuts
 x)
 (↑x :
 Int)
 (↑x :
 Int)
 n.d.bl
 (nilT
 (Int ×
 List
 Int)))).sy
 (keysF
 (openD
 (Dk.mk
 false
 (leftF
 cuts
 x)
 (↑x :
 Int)
 (↑x :
 Int)
 n.d.bl
 (nilT
 (Int ×
 List
 Int)))).sy)
 (openD
 (Dk.mk
 false
 (leftF
 cuts
 x)
 (↑x :
 Int)
 (↑x :
 Int)
 n.d.bl
 (nilT
 (Int ×
 List
 Int)))).bl
 (keysF
 (openD
 (Dk.mk
 false
 (leftF
 cuts
 x)
 (↑x :
 Int)
 (↑x :
 Int)
 n.d.bl
 (nilT
 (Int ×
 List
 Int)))).sy).length =
 n.d.bl) ∧
 nilT
 (Int ×
 List
 Int) =
 nilT
 (Int ×
 List
 Int) ∧
 True) ∧
 (↑x : Int) +
 (1 :
 Int) =
 (↑x' :
 Int) ∧
 True ∧
 True ∧
 cuts =
 cuts ∧
 keep =
 keep ∧
 True) ∧
 (¬(↑x : Int) = (0 : Int) →
 ¬(↑x : Int) = (0 : Int) ∧
 Fits IntKind.i64
 ((↑x : Int) + (1 : Int)) ∧
 ∃ (x' : Nat),
 x' ≤ (2 : Nat) ∧
 (2 : Nat) - x' <
 (2 : Nat) - x ∧
 (Ent.gl (0 : Nat) t.fst
 (Value.iface
 t.snd u) =
 Ent.gl (0 : Nat)
 t.fst
 (Value.iface
 t.snd u) ∧
 g4_q2 t u n cuts
 keep ∧
 ((True ∧
 false =
 false ∧
 (0 :
 Int) =
 leftF
 cuts
 x' ∧
 (openD
 (Dk.mk
 false
 (leftF
 cuts
 x)
 (↑x :
 Int)
 (↑x :
 Int)
 n.d.bl
 (nilT
 (Int ×
 List
 Int)))).turn +
 (1 :
 Int) =
 (↑x' :
 Int) ∧
 (openD
 (Dk.mk
 false
 (leftF
 cuts
 x)
 (↑x :
 Int)
 (↑x :
 Int)
 n.d.bl
 (nilT
 (Int ×
 List
 Int)))).opened =
 (↑x' :
 Int) ∧
 True) ∧
 (True ∧
 True) ∧
 tearN keep
 (openD
 (Dk.mk
 false
 (leftF
 cuts
 x)
 (↑x :
 Int)
 (↑x :
 Int)
 n.d.bl
 (nilT
 (Int ×
 List
 Int)))).sy
 (keysF
 (openD
 (Dk.mk
 false
 (leftF
 cuts
 x)
 (↑x :
 Int)
 (↑x :
 Int)
 n.d.bl
 (nilT
 (Int ×
 List
 Int)))).sy)
 (openD
 (Dk.mk
 false
 (leftF
 cuts
 x)
 (↑x :
 Int)
 (↑x :
 Int)
 n.d.bl
 (nilT
 (Int ×
 List
 Int)))).bl
 (keysF
 (openD
 (Dk.mk
 false
 (leftF
 cuts
 x)
 (↑x :
 Int)
 (↑x :
 Int)
 n.d.bl
 (nilT
 (Int ×
 List
 Int)))).sy).length =
 n.d.bl) ∧
 nilT
 (Int ×
 List
 Int) =
 nilT
 (Int ×
 List
 Int) ∧
 True) ∧
 (↑x : Int) +
 (1 : Int) =
 (↑x' : Int) ∧
 True ∧
 True ∧
 cuts = cuts ∧
 keep = keep ∧
 True))) ∧
 (¬(openD
 (Dk.mk false (leftF cuts x) (↑x : Int) (↑x : Int) n.d.bl
 (nilT (Int × List Int)))).down =
 true →
 ((syncF
 (upD
 (openD
 (Dk.mk false (leftF cuts x) (↑x : Int) (↑x : Int)
 n.d.bl (nilT (Int × List Int)))))).fst =
 (0 : Int) →
 ∃ (r : Rt),
 ∃ (c : Cn),
 True ∧
 (((True ∧
 (openD
 (Dk.mk false (leftF cuts x) (↑x : Int)
 (↑x : Int) n.d.bl
 (nilT (Int × List Int)))).down =
 (openD
 (Dk.mk false (leftF cuts x) (↑x : Int)
 (↑x : Int) n.d.bl
 (nilT (Int × List Int)))).down ∧
 (openD
 (Dk.mk false (leftF cuts x) (↑x : Int)
 (↑x : Int) n.d.bl
 (nilT (Int × List Int)))).left =
 (openD
 (Dk.mk false (leftF cuts x) (↑x : Int)
 (↑x : Int) n.d.bl
 (nilT (Int × List Int)))).left ∧
 (openD
 (Dk.mk false (leftF cuts x)
 (↑x : Int) (↑x : Int) n.d.bl
 (nilT (Int × List Int)))).turn =
 (openD
 (Dk.mk false (leftF cuts x)
 (↑x : Int) (↑x : Int) n.d.bl
 (nilT (Int × List Int)))).turn ∧
 (openD
 (Dk.mk false (leftF cuts x)
 (↑x : Int) (↑x : Int) n.d.bl
 (nilT
 (Int × List Int)))).opened =
 (openD
 (Dk.mk false (leftF cuts x)
 (↑x : Int) (↑x : Int) n.d.bl
 (nilT
 (Int × List Int)))).opened ∧
 True) ∧
 (True ∧ True) ∧
 (openD
 (Dk.mk false (leftF cuts x) (↑x : Int)
 (↑x : Int) n.d.bl
 (nilT (Int × List Int)))).bl =
 (openD
 (Dk.mk false (leftF cuts x) (↑x : Int)
 (↑x : Int) n.d.bl
 (nilT (Int × List Int)))).bl) ∧
 (openD
 (Dk.mk false (leftF cuts x) (↑x : Int)
 (↑x : Int) n.d.bl
 (nilT (Int × List Int)))).sy =
 (openD
 (Dk.mk false (leftF cuts x) (↑x : Int)
 (↑x : Int) n.d.bl
 (nilT (Int × List Int)))).sy ∧
 Ent.gl (0 : Nat) t.fst (Value.iface t.snd u) =
 Ent.gl (0 : Nat) t.fst (Value.iface t.snd u) ∧
 True) ∧
 (True ∧ True) ∧
 (DkOK
 (openD
 (Dk.mk false (leftF cuts x) (↑x : Int)
 (↑x : Int) n.d.bl [])) ∧
 NewP
 (openD
 (Dk.mk false (leftF cuts x) (↑x : Int)
 (↑x : Int) n.d.bl [])).bl
 r c ∧
 (openD
 (Dk.mk false (leftF cuts x) (↑x : Int)
 (↑x : Int) n.d.bl
 (nilT (Int × List Int)))).down =
 false ∧
 (syncF
 (upD
 (openD
 (Dk.mk false (leftF cuts x)
 (↑x : Int) (↑x : Int) n.d.bl
 (nilT
 (Int × List Int)))))).fst =
 (0 : Int) ∧
 (0 : Int) ≤
 (openD
 (Dk.mk false (leftF cuts x)
 (↑x : Int) (↑x : Int) n.d.bl
 [])).opened ∧
 (openD
 (Dk.mk false (leftF cuts x)
 (↑x : Int) (↑x : Int) n.d.bl
 [])).opened ≤
 (1000000 : Int)) ∧
 True ∧
 False ∧
 Ent.gl (0 : Nat) t.fst (Value.iface t.snd u) =
 Ent.gl (0 : Nat) t.fst
 (Value.iface t.snd u) ∧
 True) ∧
 (¬(syncF
 (upD
 (openD
 (Dk.mk false (leftF cuts x) (↑x : Int) (↑x : Int)
 n.d.bl (nilT (Int × List Int)))))).fst =
 (0 : Int) →
 ∃ (r : Rt),
 ∃ (c : Cn),
 True ∧
 (((True ∧
 (openD
 (Dk.mk false (leftF cuts x) (↑x : Int)
 (↑x : Int) n.d.bl
 (nilT (Int × List Int)))).down =
 (openD
 (Dk.mk false (leftF cuts x) (↑x : Int)
 (↑x : Int) n.d.bl
 (nilT (Int × List Int)))).down ∧
 (openD
 (Dk.mk false (leftF cuts x) (↑x : Int)
 (↑x : Int) n.d.bl
 (nilT (Int × List Int)))).left =
 (openD
 (Dk.mk false (leftF cuts x) (↑x : Int)
 (↑x : Int) n.d.bl
 (nilT (Int × List Int)))).left ∧
 (openD
 (Dk.mk false (leftF cuts x)
 (↑x : Int) (↑x : Int) n.d.bl
 (nilT (Int × List Int)))).turn =
 (openD
 (Dk.mk false (leftF cuts x)
 (↑x : Int) (↑x : Int) n.d.bl
 (nilT (Int × List Int)))).turn ∧
 (openD
 (Dk.mk false (leftF cuts x)
 (↑x : Int) (↑x : Int) n.d.bl
 (nilT
 (Int × List Int)))).opened =
 (openD
 (Dk.mk false (leftF cuts x)
 (↑x : Int) (↑x : Int) n.d.bl
 (nilT
 (Int × List Int)))).opened ∧
 True) ∧
 (True ∧ True) ∧
 (openD
 (Dk.mk false (leftF cuts x) (↑x : Int)
 (↑x : Int) n.d.bl
 (nilT (Int × List Int)))).bl =
 (openD
 (Dk.mk false (leftF cuts x) (↑x : Int)
 (↑x : Int) n.d.bl
 (nilT (Int × List Int)))).bl) ∧
 (openD
 (Dk.mk false (leftF cuts x) (↑x : Int)
 (↑x : Int) n.d.bl
 (nilT (Int × List Int)))).sy =
 (openD
 (Dk.mk false (leftF cuts x) (↑x : Int)
 (↑x : Int) n.d.bl
 (nilT (Int × List Int)))).sy ∧
 Ent.gl (0 : Nat) t.fst (Value.iface t.snd u) =
 Ent.gl (0 : Nat) t.fst (Value.iface t.snd u) ∧
 True) ∧
 (True ∧ True) ∧
 (DkOK
 (openD
 (Dk.mk false (leftF cuts x) (↑x : Int)
 (↑x : Int) n.d.bl [])) ∧
 NewP
 (openD
 (Dk.mk false (leftF cuts x) (↑x : Int)
 (↑x : Int) n.d.bl [])).bl
 r c ∧
 (openD
 (Dk.mk false (leftF cuts x) (↑x : Int)
 (↑x : Int) n.d.bl
 (nilT (Int × List Int)))).down =
 false ∧
 (syncF
 (upD
 (openD
 (Dk.mk false (leftF cuts x)
 (↑x : Int) (↑x : Int) n.d.bl
 (nilT
 (Int × List Int)))))).fst =
 (8 : Int) ∧
 (0 : Int) ≤
 (openD
 (Dk.mk false (leftF cuts x)
 (↑x : Int) (↑x : Int) n.d.bl
 [])).opened ∧
 (openD
 (Dk.mk false (leftF cuts x)
 (↑x : Int) (↑x : Int) n.d.bl
 [])).opened ≤
 (1000000 : Int)) ∧
 True ∧
 g4_q6 t u n cuts keep ∧
 (¬¬(8 : Int) = (8 : Int) →
 ¬¬(8 : Int) = (8 : Int) ∧
 ¬¬(8 : Int) = (8 : Int) ∧
 True ∧
 (((True ∧
 (openD
 (openD
 (Dk.mk false
 (leftF cuts x)
 (↑x : Int)
 (↑x : Int) n.d.bl
 (nilT
 (Int ×
 List
 Int))))).down =
 (openD
 (openD
 (Dk.mk false
 (leftF cuts x)
 (↑x : Int)
 (↑x : Int) n.d.bl
 (nilT
 (Int ×
 List
 Int))))).down ∧
 (openD
 (openD
 (Dk.mk false
 (leftF cuts x)
 (↑x : Int)
 (↑x : Int)
 n.d.bl
 (nilT
 (Int ×
 List
 Int))))).left =
 (openD
 (openD
 (Dk.mk false
 (leftF cuts x)
 (↑x : Int)
 (↑x : Int)
 n.d.bl
 (nilT
 (Int ×
 List
 Int))))).left ∧
 (openD
 (openD
 (Dk.mk false
 (leftF cuts x)
 (↑x : Int)
 (↑x : Int)
 n.d.bl
 (nilT
 (Int ×
 List
 Int))))).turn =
 (openD
 (openD
 (Dk.mk false
 (leftF cuts x)
 (↑x : Int)
 (↑x : Int)
 n.d.bl
 (nilT
 (Int ×
 List
 Int))))).turn ∧
 (openD
 (openD
 (Dk.mk false
 (leftF cuts
 x)
 (↑x : Int)
 (↑x : Int)
 n.d.bl
 (nilT
 (Int ×
 List
 Int))))).opened =
 (openD
 (openD
 (Dk.mk false
 (leftF cuts
 x)
 (↑x : Int)
 (↑x : Int)
 n.d.bl
 (nilT
 (Int ×
 List
 Int))))).opened ∧
 True) ∧
 (True ∧ True) ∧
 (openD
 (openD
 (Dk.mk false
 (leftF cuts x)
 (↑x : Int)
 (↑x : Int) n.d.bl
 (nilT
 (Int ×
 List
 Int))))).bl =
 (openD
 (openD
 (Dk.mk false
 (leftF cuts x)
 (↑x : Int)
 (↑x : Int) n.d.bl
 (nilT
 (Int ×
 List
 Int))))).bl) ∧
 (openD
 (openD
 (Dk.mk false
 (leftF cuts x)
 (↑x : Int) (↑x : Int)
 n.d.bl
 (nilT
 (Int ×
 List Int))))).sy =
 (openD
 (openD
 (Dk.mk false
 (leftF cuts x)
 (↑x : Int) (↑x : Int)
 n.d.bl
 (nilT
 (Int ×
 List Int))))).sy ∧
 True) ∧
 (True ∧ keep = keep ∧ True) ∧
 (DkOK
 (openD
 (openD
 (Dk.mk false
 (leftF cuts x)
 (↑x : Int) (↑x : Int)
 n.d.bl []))) ∧
 (0 : Int) ≤
 (openD
 (openD
 (Dk.mk false
 (leftF cuts x)
 (↑x : Int)
 (↑x : Int) n.d.bl
 []))).turn ∧
 (openD
 (openD
 (Dk.mk false
 (leftF cuts x)
 (↑x : Int)
 (↑x : Int) n.d.bl
 []))).turn ≤
 (1000000 : Int)) ∧
 True ∧
 ((↑x : Int) = (0 : Int) →
 (↑x : Int) = (0 : Int) ∧
 Fits IntKind.i64 cuts ∧
 ((0 : Int) ≤ cuts ∧
 (0 : Int) <
 (8 : Int)) ∧
 Fits IntKind.i64
 (cuts /
 (8 : Int)) ∧
 ((0 : Int) ≤
 cuts /
 (8 :
 Int) ∧
 (0 : Int) <
 (8 : Int)) ∧
 Fits IntKind.i64
 ((↑x :
 Int) +
 (1 :
 Int)) ∧
 ∃ (x' : Nat),
 x' ≤
 (2 :
 Nat) ∧
 (2 :
 Nat) -
 x' <
 (2 :
 Nat) -
 x ∧
 (Ent.gl
 (0 :
 Nat)
 t.fst
 (Value.iface
 t.snd
 u) =
 Ent.gl
 (0 :
 Nat)
 t.fst
 (Value.iface
 t.snd
 u) ∧
 g4_q2
 t
 u
 n
 cuts
 keep ∧
 ((True ∧
 false =
 false ∧
 max
 (cuts /
 (8 :
 Int) %
 (8 :
 Int))
 (0 :
 Int) =
 leftF
 cuts
 x' ∧
 (openD
 (openD
 (Dk.mk
 false
 (leftF
 cuts
 x)
 (↑x :
 Int)
 (↑x :
 Int)
 n.d.bl
 (nilT
 (Int ×
 List
 Int))))).turn +
 (1 :
 Int) =
 (↑x' :
 Int) ∧
 (openD
 (openD
 (Dk.mk
 false
 (leftF
 cuts
 x)
 (↑x :
 Int)
 (↑x :
 Int)
 n.d.bl
 (nilT
 (Int ×
 List
 Int))))).opened =
 (↑x' :
 Int) ∧
 True) ∧
 (True ∧
 True) ∧
 tearN
 keep
 (openD
 (openD
 (Dk.mk
 false
 (leftF
 cuts
 x)
 (↑x :
 Int)
 (↑x :
 Int)
 n.d.bl
 (nilT
 (Int ×
 List
 Int))))).sy
 (keysF
 (openD
 (openD
 (Dk.mk
 false
 (leftF
 cuts
 x)
 (↑x :
 Int)
 (↑x :
 Int)
 n.d.bl
 (nilT
 (Int ×
 List
 Int))))).sy)
 (openD
 (openD
 (Dk.mk
 false
 (leftF
 cuts
 x)
 (↑x :
 Int)
 (↑x :
 Int)
 n.d.bl
 (nilT
 (Int ×
 List
 Int))))).bl
 (keysF
 (openD
 (openD
 (Dk.mk
 false
 (leftF
 cuts
 x)
 (↑x :
 Int)
 (↑x :
 Int)
 n.d.bl
 (nilT
 (Int ×
 List
 Int))))).sy).length =
 n.d.bl) ∧
 nilT
 (Int ×
 List
 Int) =
 nilT
 (Int ×
 List
 Int) ∧
 True) ∧
 (↑x :
 Int) +
 (1 :
 Int) =
 (↑x' :
 Int) ∧
 True ∧
 True ∧
 cuts =
 cuts ∧
 keep =
 keep ∧
 True) ∧
 (¬(↑x : Int) = (0 : Int) →
 ¬(↑x : Int) = (0 : Int) ∧
 Fits IntKind.i64
 ((↑x : Int) +
 (1 : Int)) ∧
 ∃ (x' : Nat),
 x' ≤ (2 : Nat) ∧
 (2 : Nat) - x' <
 (2 : Nat) -
 x ∧
 (Ent.gl
 (0 :
 Nat)
 t.fst
 (Value.iface
 t.snd
 u) =
 Ent.gl
 (0 :
 Nat)
 t.fst
 (Value.iface
 t.snd
 u) ∧
 g4_q2 t u n
 cuts
 keep ∧
 ((True ∧
 false =
 false ∧
 (0 :
 Int) =
 leftF
 cuts
 x' ∧
 (openD
 (openD
 (Dk.mk
 false
 (leftF
 cuts
 x)
 (↑x :
 Int)
 (↑x :
 Int)
 n.d.bl
 (nilT
 (Int ×
 List
 Int))))).turn +
 (1 :
 Int) =
 (↑x' :
 Int) ∧
 (openD
 (openD
 (Dk.mk
 false
 (leftF
 cuts
 x)
 (↑x :
 Int)
 (↑x :
 Int)
 n.d.bl
 (nilT
 (Int ×
 List
 Int))))).opened =
 (↑x' :
 Int) ∧
 True) ∧
 (True ∧
 True) ∧
 tearN
 keep
 (openD
 (openD
 (Dk.mk
 false
 (leftF
 cuts
 x)
 (↑x :
 Int)
 (↑x :
 Int)
 n.d.bl
 (nilT
 (Int ×
 List
 Int))))).sy
 (keysF
 (openD
 (openD
 (Dk.mk
 false
 (leftF
 cuts
 x)
 (↑x :
 Int)
 (↑x :
 Int)
 n.d.bl
 (nilT
 (Int ×
 List
 Int))))).sy)
 (openD
 (openD
 (Dk.mk
 false
 (leftF
 cuts
 x)
 (↑x :
 Int)
 (↑x :
 Int)
 n.d.bl
 (nilT
 (Int ×
 List
 Int))))).bl
 (keysF
 (openD
 (openD
 (Dk.mk
 false
 (leftF
 cuts
 x)
 (↑x :
 Int)
 (↑x :
 Int)
 n.d.bl
 (nilT
 (Int ×
 List
 Int))))).sy).length =
 n.d.bl) ∧
 nilT
 (Int ×
 List
 Int) =
 nilT
 (Int ×
 List
 Int) ∧
 True) ∧
 (↑x : Int) +
 (1 :
 Int) =
 (↑x' :
 Int) ∧
 True ∧
 True ∧
 cuts =
 cuts ∧
 keep =
 keep ∧
 True))))))))))) ∧
 (¬(↑x : Int) < (3 : Int) →
 ¬(↑x : Int) < (3 : Int) ∧
 False ∧ Ent.gl (0 : Nat) t.fst (Value.iface t.snd u) = Ent.gl (0 : Nat) t.fst (Value.iface t.snd u) ∧ True)))) := by
 kernel_rfl
end Go.SX.Pe

/- Chapter 10: PealOpens, proved. -/
namespace Go.SX.Pe
open Go Go.Proofs
theorem sync_one {d : Dk} (h : d.down = false) (h1 : d.left = 1) : syncF d = (8, ⟨true, 0, d.turn, d.opened, d.bl, d.sy⟩) := by
  have e : actF d = (8, ⟨true, 0, d.turn, d.opened, d.bl, d.sy⟩) := by simp [actF, h1]
  unfold syncF
  rw [e, h]; rfl
theorem sync_other {d : Dk} (h : d.down = false) (h0 : 0 ≤ d.left) (h1 : d.left ≠ 1) : ∃ l', 0 ≤ l' ∧ l' ≤ d.left ∧ syncF d = (0, ⟨false, l', d.turn, d.opened, d.bl, []⟩) := by
  by_cases hz : d.left = 0
  · refine ⟨0, by omega, by omega, ?_⟩
    rw [syncF_calm h hz]
    simp [clearD, h, hz]
  · have e : actF d = (0, ⟨d.down, d.left - 1, d.turn, d.opened, d.bl, d.sy⟩) := by
      have k1 : 0 < d.left := by omega
      have k2 : ¬ d.left - 1 = 0 := by omega
      simp [actF, k1, k2]
    refine ⟨d.left - 1, by omega, by omega, ?_⟩
    unfold syncF
    rw [e, h]; rfl
theorem leftF_range {cuts : Int} : (k : Nat) → 0 ≤ leftF cuts k ∧ leftF cuts k ≤ 7
  | 0 => by show 0 ≤ max (cuts % 8) 0 ∧ max (cuts % 8) 0 ≤ 7; omega
  | 1 => by show 0 ≤ max (cuts / 8 % 8) 0 ∧ max (cuts / 8 % 8) 0 ≤ 7; omega
  | _ + 2 => by show (0 : Int) ≤ 0 ∧ (0 : Int) ≤ 7; omega
theorem madeCI_ok {p : List SV → List Ent → Bool} {c1 c2 : CI} (h1 : c1.OK Tryd.prog) (h2 : c2.OK Tryd.prog) (hf : c1.f = c2.f) : (selCI p c1 c2).OK Tryd.prog := by
  refine ⟨⟨h1.1.1, fun B X w0 H g w args vals K hsp hs ha => ?_⟩, fun h => (by cases h)⟩
  have hsp : (bif p args H then c1.s args H K else c2.s args H K) := hsp
  cases hp : p args H with
  | true => rw [hp] at hsp; exact h1.1.2 B X w0 H g w args vals K hsp hs ha
  | false =>
    rw [hp] at hsp
    have h2' : SpecOK Tryd.prog c1.f c2.s := by rw [hf]; exact h2.1
    exact h2'.2 B X w0 H g w args vals K hsp hs ha
theorem g4_ok (t : GT) (u : Value) (n : Nd) {cuts : Int} (h0 : 0 ≤ cuts) (h1 : cuts ≤ 255) (keep : Int) : g4 t u n cuts keep := by
  refine (g4_eq ..).mpr ?_
  simp only [g4_q1, g4_q2, g4_q3, g4_q4, g4_q5, g4_q6, g4_q7, pp1, eq_self, and_true, true_and, and_self, Decidable.not_not, not_true_eq_false, not_false_eq_true, false_implies, true_implies, implies_true, imp_false, and_false, false_and, reduceCtorEq, Int.reduceEq, Bool.false_eq_true, Int.toNat_natCast]
  obtain ⟨d, hd⟩ := n
  dsimp only
  have hc : Calm d := by rw [hd]; exact newD_calm
  have hn : NewP d.bl (0, 0, 0) (0, 0, []) := by rw [hd]; exact newP_new
  have ho : d.opened = 0 := by rw [hd]; rfl
  have ht : d.turn = 0 := by rw [hd]; rfl
  have hsy : d.sy = [] := by rw [hd]; rfl
  have hk0 : ∀ keep bl, tearN keep [] (keysF []) bl (keysF []).length = bl := fun keep bl => by rw [show keysF [] = [] by simp [keysF]]; rfl
  refine ⟨fi (by omega) (by omega), ⟨h0, by decide⟩, ⟨0, by omega, ⟨⟨hc.up, rfl, ht, ho⟩, hsy⟩, rfl⟩, fun x hx => ⟨fun hx3 => ?_, by omega⟩⟩
  have hlr := leftF_range (cuts := cuts) x
  have hnil : nilT (Int × List Int) = [] := rfl
  rw [hnil]
  generalize hX : (⟨false, leftF cuts x, (x : Int), (x : Int), d.bl, []⟩ : Dk) = X
  have x1 : X.down = false := by rw [← hX]
  have x2 : X.left = leftF cuts x := by rw [← hX]
  have x3 : X.turn = x := by rw [← hX]
  have x4 : X.opened = x := by rw [← hX]
  have x5 : X.bl = d.bl := by rw [← hX]
  have x6 : X.sy = [] := by rw [← hX]
  have hXok : DkOK X := by
    rw [← hX]
    exact ⟨hlr.1, by show leftF cuts x ≤ 9223372036854775807; omega, hc.ok.bl, hc.ok.each, by simp, by simp⟩
  refine ⟨fun hs => ⟨(0, 0, 0), (0, 0, []), ⟨hXok, hn, hs, by omega, by omega⟩, ?_⟩, fun hs => ⟨(0, 0, 0), (0, 0, []), ?_⟩⟩
  · have hne : (upD X).left ≠ 1 := fun e => by rw [sync_one (d := upD X) x1 e] at hs; cases hs
    obtain ⟨l', l0, l1, e⟩ := sync_other (d := upD X) x1 (by show 0 ≤ X.left; omega) hne
    have l1 : l' ≤ X.left := l1
    have eO : openD X = ⟨false, l', X.turn, X.opened + 1, X.bl, []⟩ := by unfold openD; rw [e]; rfl
    rw [eO]
    dsimp only
    have hC : Calm ⟨false, max 0 0, X.turn, X.opened + 1, X.bl, []⟩ := ⟨⟨by show (0 : Int) ≤ max 0 0; decide, by show max (0 : Int) 0 ≤ 9223372036854775807; decide, hXok.bl, hXok.each, by simp, by simp⟩, rfl, rfl⟩
    obtain ⟨W, hW, _⟩ := writeL_calm (l := ⟨false, X.turn, X.opened + 1, (0, 0, 0), true, (0 + 1, 0, addC [] ⟨#[107]⟩)⟩) hC
    have hbn : nilT ByteArray = [] := rfl
    refine ⟨by simp, fun _ => ⟨⟨by decide, by decide, by decide⟩, ⟨by decide, by decide, by decide, by decide⟩, by decide, fun _ => ⟨fun _ => ⟨⟨hC.ok, ⟨⟨by decide, by decide⟩, ⟨by decide, by decide⟩, by decide, fun s hs => ?_⟩, by decide, by decide⟩, by rw [hW]⟩, by decide⟩, by simp [hbn]⟩⟩
    have : s = ⟨#[107]⟩ := by simpa [addC] using hs
    rw [this]; decide
  · have hone : (upD X).left = 1 := by
      by_cases h : (upD X).left = 1
      · exact h
      · obtain ⟨l', _, _, e⟩ := sync_other (d := upD X) x1 (by show 0 ≤ X.left; omega) h
        rw [e] at hs; exact absurd rfl hs
    have e := sync_one (d := upD X) x1 hone
    have hone : X.left = 1 := hone
    have eO : openD X = ⟨true, 0, X.turn, X.opened + 1, X.bl, X.sy⟩ := by unfold openD; rw [e]; rfl
    rw [eO]
    dsimp only
    have hx01 : x = 0 ∨ x = 1 := by
      have : x = 0 ∨ x = 1 ∨ x = 2 := by omega
      rcases this with h | h | h
      · exact .inl h
      · exact .inr h
      · subst h
        rw [x2] at hone
        have : leftF cuts 2 = 0 := rfl
        omega
    have hOk : DkOK ⟨true, 0, X.turn, X.opened + 1, X.bl, X.sy⟩ := ⟨by show (0 : Int) ≤ 0; decide, by show (0 : Int) ≤ 9223372036854775807; decide, hXok.bl, hXok.each, hXok.nd, hXok.sy⟩
    refine ⟨⟨hXok, hn, by rw [e], by omega, by omega⟩, by simp, fun _ => ⟨fun _ => ⟨⟨hOk, by omega, by omega⟩, fun h => ⟨fi (by omega) (by omega), ⟨h0, by decide⟩, fi (by omega) (by omega), ⟨by omega, by decide⟩, fi (by omega) (by omega), x + 1, by omega, by omega, ⟨⟨?_, by omega, by omega⟩, ?_⟩, by omega⟩, fun h => ⟨fi (by omega) (by omega), x + 1, by omega, by omega, ⟨⟨?_, by omega, by omega⟩, ?_⟩, by omega⟩⟩, fun h => absurd rfl h⟩⟩
    · have : x = 0 := by omega
      subst this; rfl
    · rw [x6, x5]; exact hk0 _ _
    · have : x = 1 := by omega
      subst this; rfl
    · rw [x6, x5]; exact hk0 _ _
theorem n18_ok : n18.OK Tryd.prog := inz0 (cs := [i51]) ⟨i51_ok, trivial⟩ (by kernel_rfl) (by kernel_rfl) (by kernel_rfl)
theorem i18c_ok : i18c.OK Tryd.prog :=
  madeCI_ok (caseCI_ok pickD1_ok (H18d_ok.ci (fun _ => ⟨trivial, trivial, trivial⟩) pickD1_ok) (caseCI_ok pickD1_ok (H18_ok.ci (fun _ => ⟨trivial, trivial, trivial, trivial⟩) pick52_ok) (H18e_ok.ci (fun _ => ⟨trivial, trivial, trivial, trivial⟩) pick52_ok) rfl) rfl) n18_ok rfl
theorem H4_ok : HeapOK Tryd.prog H4 := heap_flat (c := H4) (fn := Tryd.f4) (by kernel_rfl) (by kernel_rfl) (by kernel_rfl) (fun _ => ⟨trivial, trivial⟩) C4
  (fun x => cb_ok (cs := [i18c, i12 x.g.n, H19v.ci (pick19v x.g.n), n20, n21, H22.ci pickL, p23.ci, i24, i25, H14a.ci pickLs, H26w.ci pickL, H27.ci pickD])
    ⟨i18c_ok, i12_ok _, (H19_ok.sub (c' := H19v) rfl (fun _ => ()) fun x _ => ⟨trivial, rfl, rfl, rfl, by show [dE x.d 1, mE x.d] = [dE newD 1, mE newD]; rw [x.new]⟩).ci (fun _ => trivial) (fun _ _ _ h => ⟨_, _, h⟩),
     inz0 (cs := [i51]) ⟨i51_ok, trivial⟩ (by kernel_rfl) (by kernel_rfl) (by kernel_rfl), inz0 (cs := [i51]) ⟨i51_ok, trivial⟩ (by kernel_rfl) (by kernel_rfl) (by kernel_rfl), i22_ok, PC.OK.ci p23_ok, i24_ok, i25_ok,
     H14a_ok.ci (fun _ => ⟨trivial, trivial, trivial, trivial, trivial⟩) pickLs_ok, H26w_ok.ci (fun _ => ⟨trivial, trivial, trivial, trivial, trivial⟩) pickL_ok, i27_ok, trivial⟩ _ _)
  (fun x hx => g4_ok x.g.t x.g.u x.g.n hx.1 hx.2 x.keep)
theorem ok4 : GlOK 4 [(false, .int .u8), aI] (fun x => 0 ≤ x.1 ∧ x.1 ≤ 255) :=
  gl_law (c := H4) (ats := [(false, .int .u8), aI]) H4_ok (fun t u x => ⟨⟨t, u, ⟨newD, rfl⟩⟩, x.1, x.2⟩) (fun _ _ _ => rfl) (fun _ _ _ => rfl) (fun _ _ _ => rfl) (fun _ _ _ h => h)
end Go.SX.Pe
