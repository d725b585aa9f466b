/- Parts of the proof, one after the other: Pe6 Pe6E Pe6Q Pe7 Pe7E Pe7Q PeX Pe8 Pe8E Pe8Q. -/
import Derived.Test.YtijabifakficeaaDoorM6
/- Chapter 10: the list's image is written, what is asked. -/
namespace Go.SX.Pe
open Go Go.Proofs
noncomputable section
structure Ls where
  br : Bool
  turn : Int
  opened : Int
  r : Rt
  dirty : Bool
  c : Cn
@[reducible] def lE (l : Ls) (D T v : Nat) : Ent := .blk 93 [.kb true, .bool 0 l.br, .ptr D 0, .int .i64 l.turn, .int .i64 l.opened, .int .i64 l.r.1, .int .i64 l.r.2.1, .int .i64 l.r.2.2, .bool 0 l.dirty, .int .i64 l.c.1, .int .i64 l.c.2.1, .own T v]
abbrev MM : Type := (a : Bool) → (T : Ty) → Ext a T → Prop
def rannOf (n : Nat) : List (Nat × (St → RAnn)) → Option (St → RAnn)
  | [] => none
  | (k, a) :: r => bif Nat.beq k n then some a else rannOf n r
@[reducible] noncomputable def cy (M : MM) (cs : List CI) (an : List (Nat × (St → Ann))) : Ctx := ctxY M tbl cs fun n => annOf n an
@[reducible] noncomputable def cr (M : MM) (cs : List CI) (an : List (Nat × (St → Ann))) (rn : List (Nat × (St → RAnn))) : Ctx := ctxR M tbl cs (fun n => annOf n an) fun n => rannOf n rn
def extIx : List Ent → Nat → Option Nat
  | [], _ => none
  | .ext .. :: _, i => some i
  | _ :: r, i => extIx r (i + 1)
@[reducible] def H71 : HC where
  f := 71
  X := Cn
  Hs x := [sRow 0 x.2.2]
  ags x := [.agg [.int .i64 x.1, .int .i64 x.2.1, .own 0 0]]
  Pre x := CnOK x
  res x := .c (.ro (.int .u8) (writtenF x))
  out x := [sRow 0 x.2.2]
  fr _ := false
def g71h (c : Cn) : Prop := HVC (C71 c) Tryd.f71 H71 c
@[reducible] def pick71 : Pick Cn := fun args H K => match args with
  | [.agg [.int .i64 a, .int .i64 b, .own i _]] => (match H[i]? with
    | some (.row _ .str _ l) => K (a, b, l) [i]
    | _ => False)
  | _ => False
abbrev tBy : Ty := .slice (.int .u8)
def chs : Nat → List Int → List (List Int)
  | 0, _ => []
  | k + 1, b => bif decide (0 < b.length) then b.take 128 :: chs k (b.drop 128) else []
structure X88 where
  E : Ext false tBy
  pre : List (List Int)
  b : List Int
structure P88 (M : MM) (x : X88) : Prop where
  may : M false tBy x.E
  each : ∀ r1 y r2, chs 15 x.b = r1 ++ y :: r2 → x.E.may (x.pre ++ r1) y
  len : x.b.length ≤ 1920
def X88.fed (x : X88) : Bool × List (List Int) := feed x.E.go x.pre (chs 15 x.b)
@[reducible] def H88 (M : MM) : HC where
  f := 88
  X := X88
  Hs x := [.blk 63 [.ro (.int .u8) x.b], .blk 3 [.int .i64 128], .ext false tBy x.E true x.pre]
  ags x := [.c (.raw x.E.yv), .c (.ptr 0 0), .c (.ptr 1 0)]
  Pre x := P88 M x
  res _ := .tup []
  out x := [.blk 63 [.ro (.int .u8) x.b], .blk 3 [.int .i64 128], .ext false tBy x.E x.fed.1 x.fed.2]
  fr _ := false
@[reducible] def A88 (x : X88) : Ann where
  τ := Nat × List (List Int)
  pre := []
  preC := []
  keep := [0, 1, 2]
  slots k := [(4, .c (.int .i64 (128 * (k.1 : Int))))]
  ents k := [(2, .ext false tBy x.E true (x.pre ++ k.2))]
  ok k := k.1 ≤ 15 ∧ chs 15 x.b = k.2 ++ chs (15 - k.1) (x.b.drop (128 * k.1)) ∧ (feed x.E.go x.pre k.2).1 = true
  m k := 15 - k.1
@[reducible] def C88 (M : MM) (x : X88) : Ctx := cy M [] [(0, fun _ => A88 x)]
def g88 (M : MM) (x : X88) : Prop := HVC (C88 M x) Tryd.f88 (H88 M) x
@[reducible] def pick88 : Pick X88 := fun args H K => match args with
  | [.c (.raw _), .c (.ptr i 0), .c (.ptr k 0)] => (match extIx H 0, H[i]? with
    | some j, some (.blk _ [.ro (.int .u8) b]) => (match H[j]? with
      | some (.ext false (.slice (.int .u8)) E _ pre) => K ⟨E, pre, b⟩ [i, k, j]
      | _ => False)
    | _, _ => False)
  | _ => False
@[reducible] def i72 : CI := inl 72 Tryd.f72 (cx [] [])
def wrP : Dk → Int → List (List Int) → Dk
  | d, _, [] => d
  | d, a, p :: r => wrP (writeF d a p).2 (a + 1) r
def goW (d : Dk) (a : Int) (pre : List (List Int)) (x : List Int) : Bool := decide ((writeF (wrP d a pre) (a + (pre.length : Int)) x).1 = 0)
def fedW (d : Dk) (a : Int) (b : List Int) : Bool × List (List Int) := feed (goW d a) [] (chs 15 b)
def atL (l : Ls) : Int := 2 + (l.r.1 + 1) % 2 * 15
def nextR (l : Ls) : Rt := (l.r.1 + 1, (writtenF l.c).length, sumF (writtenF l.c))
def doneL (l : Ls) : Ls := ⟨l.br, l.turn, l.opened, nextR l, false, l.c⟩
def writeL (d : Dk) (l : Ls) : Int × Dk × Ls :=
  let f := fedW d (atL l) (writtenF l.c)
  let d1 := wrP d (atL l) f.2
  bif f.1 then
    let s := syncF d1
    bif decide (s.1 = 0) then
      let w := writeF s.2 ((l.r.1 + 1) % 2) (rootW (nextR l))
      bif decide (w.1 = 0) then
        let u := syncF w.2
        bif decide (u.1 = 0) then (0, u.2, doneL l) else (u.1, u.2, l)
      else (w.1, w.2, l)
    else (s.1, s.2, l)
  else (8, d1, l)
@[reducible] def mAt4 : Src := .cell 0 4101
@[reducible] def H53 : HC where
  f := 53
  X := Dk × Ls
  Hs x := [dE x.1 1, mE x.1, lE x.2 0 3 0, sRow 0 x.2.c.2.2]
  ags _ := [.c (.ptr 2 0)]
  Pre x := DkOK x.1 ∧ CnOK x.2.c ∧ 0 ≤ x.2.r.1 ∧ x.2.r.1 ≤ 1000000
  res x := .c (.int .i64 (writeL x.1 x.2).1)
  out x := [dE (writeL x.1 x.2).2.1 4, .dead, lE (writeL x.1 x.2).2.2 0 3 0, sRow 0 x.2.c.2.2, mE (writeL x.1 x.2).2.1]
  fr _ := false
  cn := [mAt]
@[reducible] def pickD1 : Pick Dk := fun args H K => match args with
  | [.c (.ptr i 0)] => (match H[i]? with
    | some (.obj _ [_, dn, .int .i64 l, .int .i64 t, .int .i64 o] (.arr 31 (.arr 127 (.int .u8))) bl [.tab m]) => (match dn.asB, H[m]? with
      | some b, some (.tab true (.arr 127 (.int .u8)) sy) => K ⟨b, l, t, o, bl, sy⟩ [i, m]
      | _, _ => False)
    | _ => False)
  | _ => False
@[reducible] def pick34 : Pick H34.X := fun args H K => match args with
  | [.c (.ptr i 0), .c (.int .i64 a), .c (.ro (.int .u8) p)] => (match H[i]? with
    | some (.obj _ [_, dn, .int .i64 l, .int .i64 t, .int .i64 o] (.arr 31 (.arr 127 (.int .u8))) bl [.tab m]) => (match dn.asB, H[m]? with
      | some b, some (.tab true (.arr 127 (.int .u8)) sy) => K (⟨b, l, t, o, bl, sy⟩, a, p) [i, m]
      | _, _ => False)
    | _ => False)
  | _ => False
@[reducible] def R53 (d : Dk) (a : Int) (b : List Int) : RAnn where
  a := false
  T := tBy
  go := goW d a
  gen := chs 15 b
  preC := []
  ents pre := [(0, dE (wrP d a pre) 1), (1, mE (wrP d a pre)), (7, .blk 3 [.int .i64 (a + (pre.length : Int))])]
  fin pre := [(0, dE (wrP d a pre) 1), (1, mE (wrP d a pre)), (5, .blk 27 [.int .i64 8]), (7, .blk 3 [.any])]
  ex := .ret
  place := 2
@[reducible] def C53 (M : MM) (x : H53.X) : Ctx := cr M [H71.ci pick71, p70.ci, i68, i72, (H88 M).ci pick88, H34.ci pick34, H29.ci pickD1, p73.ci] [] [(0, fun _ => R53 x.1 (2 + (x.2.r.1 + 1) % 2 * 15) (writtenF x.2.c))]
def g53 (M : MM) (d : Dk) (l : Ls) : Prop := HVC (C53 M (d, l)) Tryd.f53 H53 (d, l)
end
end Go.SX.Pe

/- Printed by VC.lean: what the executor asks. -/
namespace Go.SX.Pe
open Go Go.Proofs
def g71h_q1 (c : Cn) : Prop :=
 True ∧
 (nb c.fst (6 : Nat) = nb c.fst (6 : Nat) ∧ True) ∧
 (True ∧ c.snd.fst = c.snd.fst ∧ True) ∧
 (nb c.fst (6 : Nat)).length ≤ (100000 : Nat) ∧
 True ∧
 True ∧
 (nb c.fst (6 : Nat) ++ nb c.snd.fst (6 : Nat) = nb c.fst (6 : Nat) ++ nb c.snd.fst (6 : Nat) ∧ True) ∧
 (True ∧ (↑c.snd.snd.length : Int) = (↑c.snd.snd.length : Int) ∧ True) ∧
 (nb c.fst (6 : Nat) ++ nb c.snd.fst (6 : Nat)).length ≤ (100000 : Nat) ∧
 True ∧
 (∃ (x0 : Nat),
 x0 ≤ c.snd.snd.length ∧
 (c.snd.snd = c.snd.snd ∧
 (c.fst = c.fst ∧ c.snd.fst = c.snd.fst ∧ True ∧ True) ∧
 nb c.fst (6 : Nat) ++ nb c.snd.fst (6 : Nat) ++ nb (↑c.snd.snd.length : Int) (6 : Nat) =
 nb c.fst (6 : Nat) ++ (nb c.snd.fst (6 : Nat) ++ (nb (↑c.snd.snd.length : Int) (6 : Nat) ++ textsW (List.take x0 c.snd.snd))) ∧
 True) ∧
 (0 : Int) = (↑x0 : Int) ∧ True ∧ (↑c.snd.snd.length : Int) = (↑c.snd.snd.length : Int) ∧ True ∧ True) ∧
 ∀ (x : Nat),
 x ≤ c.snd.snd.length →
 ((↑x : Int) < (↑c.snd.snd.length : Int) →
 (↑x : Int) < (↑c.snd.snd.length : Int) ∧
 ((0 : Int) ≤ (↑x : Int) ∧ (↑x : Int) < (↑c.snd.snd.length : Int)) ∧
 Small
 ((nb c.fst (6 : Nat) ++ (nb c.snd.fst (6 : Nat) ++ (nb (↑c.snd.snd.length : Int) (6 : Nat) ++ textsW (List.take x c.snd.snd)))).length +
 ((0 : Nat) + (1 : Nat))) ∧
 Small
 ((nb c.fst (6 : Nat) ++ (nb c.snd.fst (6 : Nat) ++ (nb (↑c.snd.snd.length : Int) (6 : Nat) ++ textsW (List.take x c.snd.snd))) ++
 [IntKind.u8.wrap (↑(c.snd.snd.getD (↑x : Int).toNat ByteArray.empty).size : Int)]).length +
 (c.snd.snd.getD (↑x : Int).toNat ByteArray.empty).size) ∧
 Fits IntKind.i64 ((↑x : Int) + (1 : Int)) ∧
 ∃ (x' : Nat),
 x' ≤ c.snd.snd.length ∧
 c.snd.snd.length - x' < c.snd.snd.length - x ∧
 (c.snd.snd = c.snd.snd ∧
 (c.fst = c.fst ∧ c.snd.fst = c.snd.fst ∧ True ∧ True) ∧
 nb c.fst (6 : Nat) ++ (nb c.snd.fst (6 : Nat) ++ (nb (↑c.snd.snd.length : Int) (6 : Nat) ++ textsW (List.take x c.snd.snd))) ++
 [IntKind.u8.wrap (↑(c.snd.snd.getD (↑x : Int).toNat ByteArray.empty).size : Int)] ++
 strB (c.snd.snd.getD (↑x : Int).toNat ByteArray.empty) =
 nb c.fst (6 : Nat) ++
 (nb c.snd.fst (6 : Nat) ++ (nb (↑c.snd.snd.length : Int) (6 : Nat) ++ textsW (List.take x' c.snd.snd))) ∧
 True) ∧
 (↑x : Int) + (1 : Int) = (↑x' : Int) ∧ True ∧ (↑c.snd.snd.length : Int) = (↑c.snd.snd.length : Int) ∧ True ∧ True) ∧
 (¬(↑x : Int) < (↑c.snd.snd.length : Int) →
 ¬(↑x : Int) < (↑c.snd.snd.length : Int) ∧
 nb c.fst (6 : Nat) ++ (nb c.snd.fst (6 : Nat) ++ (nb (↑c.snd.snd.length : Int) (6 : Nat) ++ textsW (List.take x c.snd.snd))) = writtenF c ∧
 c.snd.snd = c.snd.snd ∧ True)
def g71h_q2 (c : Cn) : Prop :=
 True ∧ True ∧ (Value.slice none (0 : Nat) (0 : Nat) = Value.slice none (0 : Nat) (0 : Nat) ∧ c.fst = c.fst ∧ True) ∧ True ∧ True ∧ g71h_q1 c ∧ g71h_q1 c
def g71h_q3 (c : Cn) : Prop :=
 True ∧ True ∧ (Value.slice none (0 : Nat) (0 : Nat) = Value.slice none (0 : Nat) (0 : Nat) ∧ c.fst = c.fst ∧ True) ∧ True ∧ True ∧ g71h_q1 c
theorem g71h_eq (c : Cn) : g71h c = (
 g71h_q2 c ∧ (g71h_q2 c ∧ g71h_q3 c) ∧ g71h_q3 c ∧ g71h_q3 c) := by
 kernel_rfl
theorem g88_eq (M : MM) (x : X88) : g88 M x = (
 (∃ (x0 : Nat × List (List Int)),
 (x0.fst ≤ (15 : Nat) ∧ chs (15 : Nat) x.b = x0.snd ++ chs ((15 : Nat) - x0.fst) (List.drop ((128 : Nat) * x0.fst) x.b) ∧ (feed x.E.go x.pre x0.snd).fst = true) ∧
 ((x.b = x.b ∧ True) ∧ ((128 : Int) = (128 : Int) ∧ True) ∧ Ent.ext false tBy x.E true (x.pre ++ x0.snd) = Ent.ext false tBy x.E true x.pre ∧ True) ∧
 (0 : Int) = (128 : Int) * (↑x0.fst : Int) ∧ x.E.yv = x.E.yv ∧ True ∧ True ∧ True) ∧
 ∀ (x_1 : Nat × List (List Int)),
 x_1.fst ≤ (15 : Nat) ∧ chs (15 : Nat) x.b = x_1.snd ++ chs ((15 : Nat) - x_1.fst) (List.drop ((128 : Nat) * x_1.fst) x.b) ∧ (feed x.E.go x.pre x_1.snd).fst = true →
 ((128 : Int) * (↑x_1.fst : Int) < (↑x.b.length : Int) →
 (128 : Int) * (↑x_1.fst : Int) < (↑x.b.length : Int) ∧
 ((0 : Int) ≤ (128 : Int) * (↑x_1.fst : Int) ∧ (128 : Int) * (↑x_1.fst : Int) ≤ (↑x.b.length : Int) ∧ (↑x.b.length : Int) ≤ (↑x.b.length : Int)) ∧
 Fits IntKind.i64
 ((128 : Int) * (↑x_1.fst : Int) + min (128 : Int) (↑(List.drop ((128 : Int) * (↑x_1.fst : Int)).toNat (List.take (↑x.b.length : Int).toNat x.b)).length : Int)) ∧
 Fits IntKind.i64
 ((128 : Int) * (↑x_1.fst : Int) +
 min (128 : Int) (↑(List.drop ((128 : Int) * (↑x_1.fst : Int)).toNat (List.take (↑x.b.length : Int).toNat x.b)).length : Int)) ∧
 ((0 : Int) ≤ (128 : Int) * (↑x_1.fst : Int) ∧
 (128 : Int) * (↑x_1.fst : Int) ≤
 (128 : Int) * (↑x_1.fst : Int) +
 min (128 : Int) (↑(List.drop ((128 : Int) * (↑x_1.fst : Int)).toNat (List.take (↑x.b.length : Int).toNat x.b)).length : Int) ∧
 (128 : Int) * (↑x_1.fst : Int) +
 min (128 : Int) (↑(List.drop ((128 : Int) * (↑x_1.fst : Int)).toNat (List.take (↑x.b.length : Int).toNat x.b)).length : Int) ≤
 (↑x.b.length : Int)) ∧
 ((128 : Int) * (↑x_1.fst : Int) + min (128 : Int) (↑(List.drop ((128 : Int) * (↑x_1.fst : Int)).toNat (List.take (↑x.b.length : Int).toNat x.b)).length : Int) =
 (128 : Int) * (↑x_1.fst : Int) +
 min (128 : Int) (↑(List.drop ((128 : Int) * (↑x_1.fst : Int)).toNat (List.take (↑x.b.length : Int).toNat x.b)).length : Int) ∧
 true = true) ∧
 x.E.yv = x.E.yv ∧
 M false tBy x.E ∧
 x.E.may (x.pre ++ x_1.snd)
 (List.drop ((128 : Int) * (↑x_1.fst : Int)).toNat
 (List.take
 ((128 : Int) * (↑x_1.fst : Int) +
 min (128 : Int) (↑(List.drop ((128 : Int) * (↑x_1.fst : Int)).toNat (List.take (↑x.b.length : Int).toNat x.b)).length : Int)).toNat
 x.b)) ∧
 ((!x.E.go (x.pre ++ x_1.snd)
 (List.drop ((128 : Int) * (↑x_1.fst : Int)).toNat
 (List.take
 ((128 : Int) * (↑x_1.fst : Int) +
 min (128 : Int) (↑(List.drop ((128 : Int) * (↑x_1.fst : Int)).toNat (List.take (↑x.b.length : Int).toNat x.b)).length : Int)).toNat
 x.b))) =
 true →
 (!x.E.go (x.pre ++ x_1.snd)
 (List.drop ((128 : Int) * (↑x_1.fst : Int)).toNat
 (List.take
 ((128 : Int) * (↑x_1.fst : Int) +
 min (128 : Int) (↑(List.drop ((128 : Int) * (↑x_1.fst : Int)).toNat (List.take (↑x.b.length : Int).toNat x.b)).length : Int)).toNat
 x.b))) =
 true ∧
 True ∧
 (x.b = x.b ∧ True) ∧
 ((128 : Int) = (128 : Int) ∧ True) ∧
 Ent.ext false tBy x.E x.fed.fst x.fed.snd =
 Ent.ext false tBy x.E
 (x.E.go (x.pre ++ x_1.snd)
 (List.drop ((128 : Int) * (↑x_1.fst : Int)).toNat
 (List.take
 ((128 : Int) * (↑x_1.fst : Int) +
 min (128 : Int)
 (↑(List.drop ((128 : Int) * (↑x_1.fst : Int)).toNat (List.take (↑x.b.length : Int).toNat x.b)).length : Int)).toNat
 x.b)))
 (x.pre ++ x_1.snd ++
 [List.drop ((128 : Int) * (↑x_1.fst : Int)).toNat
 (List.take
 ((128 : Int) * (↑x_1.fst : Int) +
 min (128 : Int)
 (↑(List.drop ((128 : Int) * (↑x_1.fst : Int)).toNat (List.take (↑x.b.length : Int).toNat x.b)).length : Int)).toNat
 x.b)]) ∧
 True) ∧
 ((!x.E.go (x.pre ++ x_1.snd)
 (List.drop ((128 : Int) * (↑x_1.fst : Int)).toNat
 (List.take
 ((128 : Int) * (↑x_1.fst : Int) +
 min (128 : Int) (↑(List.drop ((128 : Int) * (↑x_1.fst : Int)).toNat (List.take (↑x.b.length : Int).toNat x.b)).length : Int)).toNat
 x.b))) =
 false →
 (!x.E.go (x.pre ++ x_1.snd)
 (List.drop ((128 : Int) * (↑x_1.fst : Int)).toNat
 (List.take
 ((128 : Int) * (↑x_1.fst : Int) +
 min (128 : Int) (↑(List.drop ((128 : Int) * (↑x_1.fst : Int)).toNat (List.take (↑x.b.length : Int).toNat x.b)).length : Int)).toNat
 x.b))) =
 false ∧
 Fits IntKind.i64 ((128 : Int) * (↑x_1.fst : Int) + (128 : Int)) ∧
 ∃ (x' : Nat × List (List Int)),
 (x'.fst ≤ (15 : Nat) ∧
 chs (15 : Nat) x.b = x'.snd ++ chs ((15 : Nat) - x'.fst) (List.drop ((128 : Nat) * x'.fst) x.b) ∧ (feed x.E.go x.pre x'.snd).fst = true) ∧
 (15 : Nat) - x'.fst < (15 : Nat) - x_1.fst ∧
 ((x.b = x.b ∧ True) ∧
 ((128 : Int) = (128 : Int) ∧ True) ∧
 Ent.ext false tBy x.E true (x.pre ++ x'.snd) =
 Ent.ext false tBy x.E
 (x.E.go (x.pre ++ x_1.snd)
 (List.drop ((128 : Int) * (↑x_1.fst : Int)).toNat
 (List.take
 ((128 : Int) * (↑x_1.fst : Int) +
 min (128 : Int)
 (↑(List.drop ((128 : Int) * (↑x_1.fst : Int)).toNat (List.take (↑x.b.length : Int).toNat x.b)).length :
 Int)).toNat
 x.b)))
 (x.pre ++ x_1.snd ++
 [List.drop ((128 : Int) * (↑x_1.fst : Int)).toNat
 (List.take
 ((128 : Int) * (↑x_1.fst : Int) +
 min (128 : Int)
 (↑(List.drop ((128 : Int) * (↑x_1.fst : Int)).toNat (List.take (↑x.b.length : Int).toNat x.b)).length :
 Int)).toNat
 x.b)]) ∧
 True) ∧
 (128 : Int) * (↑x_1.fst : Int) + (128 : Int) = (128 : Int) * (↑x'.fst : Int) ∧ x.E.yv = x.E.yv ∧ True ∧ True ∧ True)) ∧
 (¬(128 : Int) * (↑x_1.fst : Int) < (↑x.b.length : Int) →
 ¬(128 : Int) * (↑x_1.fst : Int) < (↑x.b.length : Int) ∧
 True ∧ (x.b = x.b ∧ True) ∧ ((128 : Int) = (128 : Int) ∧ True) ∧ Ent.ext false tBy x.E x.fed.fst x.fed.snd = Ent.ext false tBy x.E true (x.pre ++ x_1.snd) ∧ True)) := by
 kernel_rfl
def g53_q1 (_M : MM) (_d : Dk) (l : Ls) : Prop :=
 True ∧
 l.br = l.br ∧
 True ∧
 l.turn = l.turn ∧
 l.opened = l.opened ∧
 l.r.fst = l.r.fst ∧ l.r.snd.fst = l.r.snd.fst ∧ l.r.snd.snd = l.r.snd.snd ∧ l.dirty = l.dirty ∧ l.c.fst = l.c.fst ∧ l.c.snd.fst = l.c.snd.fst ∧ True ∧ True
def g53_q2 (_M : MM) (_d : Dk) (l : Ls) : Prop :=
 l.r.fst + (1 : Int) = l.r.fst + (1 : Int) ∧ (↑(writtenF l.c).length : Int) = (↑(writtenF l.c).length : Int) ∧ sumF (writtenF l.c) = sumF (writtenF l.c) ∧ True
def g53_q3 (_M : MM) (d : Dk) (l : Ls) : Prop :=
 ¬(syncF
 (wrP d ((2 : Int) + (l.r.fst + (1 : Int)) % (2 : Int) * (15 : Int))
 (feed (goW d ((2 : Int) + (l.r.fst + (1 : Int)) % (2 : Int) * (15 : Int))) (nilT (List Int)) (chs (15 : Nat) (writtenF l.c))).snd)).fst =
 (0 : Int)
def g53_q4 (_M : MM) (d : Dk) (l : Ls) : Prop :=
 l.c.fst = (writeL d l).snd.snd.c.fst ∧ l.c.snd.fst = (writeL d l).snd.snd.c.snd.fst ∧ True ∧ True
def g53_q5 (M : MM) (d : Dk) (l : Ls) : Prop :=
 True ∧
 l.br = (writeL d l).snd.snd.br ∧
 True ∧
 l.turn = (writeL d l).snd.snd.turn ∧
 l.opened = (writeL d l).snd.snd.opened ∧
 l.r.fst = (writeL d l).snd.snd.r.fst ∧
 l.r.snd.fst = (writeL d l).snd.snd.r.snd.fst ∧ l.r.snd.snd = (writeL d l).snd.snd.r.snd.snd ∧ l.dirty = (writeL d l).snd.snd.dirty ∧ g53_q4 M d l
def g53_q6 (M : MM) (d : Dk) (l : Ls) : Prop :=
 ¬g53_q3 M d l
def g53_q7 (_M : MM) (d : Dk) (l : Ls) : Prop :=
 ¬(writeF
 (syncF
 (wrP d ((2 : Int) + (l.r.fst + (1 : Int)) % (2 : Int) * (15 : Int))
 (feed (goW d ((2 : Int) + (l.r.fst + (1 : Int)) % (2 : Int) * (15 : Int))) (nilT (List Int)) (chs (15 : Nat) (writtenF l.c))).snd)).snd
 ((l.r.fst + (1 : Int)) % (2 : Int)) (rootW (l.r.fst + (1 : Int), (↑(writtenF l.c).length : Int), sumF (writtenF l.c)))).fst =
 (0 : Int)
def g53_q8 (M : MM) (d : Dk) (l : Ls) : Prop :=
 ¬g53_q7 M d l
def g53_q9 (_M : MM) (d : Dk) (l : Ls) : Prop :=
 ¬(syncF
 (writeF
 (syncF
 (wrP d ((2 : Int) + (l.r.fst + (1 : Int)) % (2 : Int) * (15 : Int))
 (feed (goW d ((2 : Int) + (l.r.fst + (1 : Int)) % (2 : Int) * (15 : Int))) (nilT (List Int)) (chs (15 : Nat) (writtenF l.c))).snd)).snd
 ((l.r.fst + (1 : Int)) % (2 : Int)) (rootW (l.r.fst + (1 : Int), (↑(writtenF l.c).length : Int), sumF (writtenF l.c)))).snd).fst =
 (0 : Int)
def g53_q10 (_M : MM) (d : Dk) (l : Ls) : Prop :=
 (True ∧
 (syncF
 (writeF
 (syncF
 (wrP d ((2 : Int) + (l.r.fst + (1 : Int)) % (2 : Int) * (15 : Int))
 (feed (goW d ((2 : Int) + (l.r.fst + (1 : Int)) % (2 : Int) * (15 : Int))) (nilT (List Int)) (chs (15 : Nat) (writtenF l.c))).snd)).snd
 ((l.r.fst + (1 : Int)) % (2 : Int)) (rootW (l.r.fst + (1 : Int), (↑(writtenF l.c).length : Int), sumF (writtenF l.c)))).snd).snd.down =
 (writeL d l).snd.fst.down ∧
 (syncF
 (writeF
 (syncF
 (wrP d ((2 : Int) + (l.r.fst + (1 : Int)) % (2 : Int) * (15 : Int))
 (feed (goW d ((2 : Int) + (l.r.fst + (1 : Int)) % (2 : Int) * (15 : Int))) (nilT (List Int)) (chs (15 : Nat) (writtenF l.c))).snd)).snd
 ((l.r.fst + (1 : Int)) % (2 : Int)) (rootW (l.r.fst + (1 : Int), (↑(writtenF l.c).length : Int), sumF (writtenF l.c)))).snd).snd.left =
 (writeL d l).snd.fst.left ∧
 (syncF
 (writeF
 (syncF
 (wrP d ((2 : Int) + (l.r.fst + (1 : Int)) % (2 : Int) * (15 : Int))
 (feed (goW d ((2 : Int) + (l.r.fst + (1 : Int)) % (2 : Int) * (15 : Int))) (nilT (List Int)) (chs (15 : Nat) (writtenF l.c))).snd)).snd
 ((l.r.fst + (1 : Int)) % (2 : Int)) (rootW (l.r.fst + (1 : Int), (↑(writtenF l.c).length : Int), sumF (writtenF l.c)))).snd).snd.turn =
 (writeL d l).snd.fst.turn ∧
 (syncF
 (writeF
 (syncF
 (wrP d ((2 : Int) + (l.r.fst + (1 : Int)) % (2 : Int) * (15 : Int))
 (feed (goW d ((2 : Int) + (l.r.fst + (1 : Int)) % (2 : Int) * (15 : Int))) (nilT (List Int)) (chs (15 : Nat) (writtenF l.c))).snd)).snd
 ((l.r.fst + (1 : Int)) % (2 : Int)) (rootW (l.r.fst + (1 : Int), (↑(writtenF l.c).length : Int), sumF (writtenF l.c)))).snd).snd.opened =
 (writeL d l).snd.fst.opened ∧
 True) ∧
 (True ∧ True) ∧
 (syncF
 (writeF
 (syncF
 (wrP d ((2 : Int) + (l.r.fst + (1 : Int)) % (2 : Int) * (15 : Int))
 (feed (goW d ((2 : Int) + (l.r.fst + (1 : Int)) % (2 : Int) * (15 : Int))) (nilT (List Int)) (chs (15 : Nat) (writtenF l.c))).snd)).snd
 ((l.r.fst + (1 : Int)) % (2 : Int)) (rootW (l.r.fst + (1 : Int), (↑(writtenF l.c).length : Int), sumF (writtenF l.c)))).snd).snd.bl =
 (writeL d l).snd.fst.bl
def g53_q11 (_M : MM) (d : Dk) (l : Ls) : Prop :=
 l.c.snd.snd = l.c.snd.snd ∧
 (syncF
 (writeF
 (syncF
 (wrP d ((2 : Int) + (l.r.fst + (1 : Int)) % (2 : Int) * (15 : Int))
 (feed (goW d ((2 : Int) + (l.r.fst + (1 : Int)) % (2 : Int) * (15 : Int))) (nilT (List Int)) (chs (15 : Nat) (writtenF l.c))).snd)).snd
 ((l.r.fst + (1 : Int)) % (2 : Int)) (rootW (l.r.fst + (1 : Int), (↑(writtenF l.c).length : Int), sumF (writtenF l.c)))).snd).snd.sy =
 (writeL d l).snd.fst.sy ∧
 True
def g53_q12 (M : MM) (d : Dk) (l : Ls) : Prop :=
 ¬g53_q9 M d l
def g53_q13 (M : MM) (d : Dk) (l : Ls) : Prop :=
 true = true ∧
 (0 : Int) = (writeL d l).fst ∧
 g53_q10 M d l ∧
 True ∧
 (True ∧
 l.br = (writeL d l).snd.snd.br ∧
 True ∧
 l.turn = (writeL d l).snd.snd.turn ∧
 l.opened = (writeL d l).snd.snd.opened ∧
 l.r.fst + (1 : Int) = (writeL d l).snd.snd.r.fst ∧
 (↑(writtenF l.c).length : Int) = (writeL d l).snd.snd.r.snd.fst ∧
 sumF (writtenF l.c) = (writeL d l).snd.snd.r.snd.snd ∧ false = (writeL d l).snd.snd.dirty ∧ g53_q4 M d l) ∧
 g53_q11 M d l
def g53_q14 (M : MM) (d : Dk) (l : Ls) : Prop :=
 (writtenF l.c).length ≤ (100000 : Nat) ∧
 ((0 : Int) ≤ l.r.fst + (1 : Int) ∧ (0 : Int) < (2 : Int)) ∧
 Fits IntKind.i64 ((l.r.fst + (1 : Int)) % (2 : Int) * (15 : Int)) ∧
 Fits IntKind.i64 ((2 : Int) + (l.r.fst + (1 : Int)) % (2 : Int) * (15 : Int)) ∧
 ((128 : Int) < (1 : Int) → (128 : Int) < (1 : Int) ∧ False) ∧
 (¬(128 : Int) < (1 : Int) →
 ¬(128 : Int) < (1 : Int) ∧
 True ∧
 (some (Ent.blk (63 : Nat) [SC.ro (Ty.int IntKind.u8) (writtenF l.c)]) = some (Ent.blk (63 : Nat) [SC.ro (Ty.int IntKind.u8) (writtenF l.c)]) ∧
 some (Ent.blk (3 : Nat) [SC.int IntKind.i64 (128 : Int)]) = some (Ent.blk (3 : Nat) [SC.int IntKind.i64 (128 : Int)]) ∧ True) ∧
 (((True ∧
 d.down = (wrP d ((2 : Int) + (l.r.fst + (1 : Int)) % (2 : Int) * (15 : Int)) (nilT (List Int))).down ∧
 d.left = (wrP d ((2 : Int) + (l.r.fst + (1 : Int)) % (2 : Int) * (15 : Int)) (nilT (List Int))).left ∧
 d.turn = (wrP d ((2 : Int) + (l.r.fst + (1 : Int)) % (2 : Int) * (15 : Int)) (nilT (List Int))).turn ∧
 d.opened = (wrP d ((2 : Int) + (l.r.fst + (1 : Int)) % (2 : Int) * (15 : Int)) (nilT (List Int))).opened ∧ True) ∧
 (True ∧ True) ∧ d.bl = (wrP d ((2 : Int) + (l.r.fst + (1 : Int)) % (2 : Int) * (15 : Int)) (nilT (List Int))).bl) ∧
 d.sy = (wrP d ((2 : Int) + (l.r.fst + (1 : Int)) % (2 : Int) * (15 : Int)) (nilT (List Int))).sy ∧
 g53_q1 M d l ∧
 l.c.snd.snd = l.c.snd.snd ∧
 (True ∧ True) ∧
 ((0 : Int) = (0 : Int) ∧ True) ∧
 g53_q2 M d l ∧
 ((2 : Int) + (l.r.fst + (1 : Int)) % (2 : Int) * (15 : Int) = (2 : Int) + (l.r.fst + (1 : Int)) % (2 : Int) * (15 : Int) + (↑(0 : Nat) : Int) ∧
 True) ∧
 (writtenF l.c = writtenF l.c ∧ True) ∧ ((128 : Int) = (128 : Int) ∧ True) ∧ True) ∧
 (∀ (pre : List (List Int)) (x : List Int) (r : List (List Int)),
 chs (15 : Nat) (writtenF l.c) = pre ++ x :: r →
 true = true ∧
 True ∧
 (((True ∧
 (wrP d ((2 : Int) + (l.r.fst + (1 : Int)) % (2 : Int) * (15 : Int)) pre).down =
 (wrP d ((2 : Int) + (l.r.fst + (1 : Int)) % (2 : Int) * (15 : Int)) pre).down ∧
 (wrP d ((2 : Int) + (l.r.fst + (1 : Int)) % (2 : Int) * (15 : Int)) pre).left =
 (wrP d ((2 : Int) + (l.r.fst + (1 : Int)) % (2 : Int) * (15 : Int)) pre).left ∧
 (wrP d ((2 : Int) + (l.r.fst + (1 : Int)) % (2 : Int) * (15 : Int)) pre).turn =
 (wrP d ((2 : Int) + (l.r.fst + (1 : Int)) % (2 : Int) * (15 : Int)) pre).turn ∧
 (wrP d ((2 : Int) + (l.r.fst + (1 : Int)) % (2 : Int) * (15 : Int)) pre).opened =
 (wrP d ((2 : Int) + (l.r.fst + (1 : Int)) % (2 : Int) * (15 : Int)) pre).opened ∧
 True) ∧
 (True ∧ True) ∧
 (wrP d ((2 : Int) + (l.r.fst + (1 : Int)) % (2 : Int) * (15 : Int)) pre).bl =
 (wrP d ((2 : Int) + (l.r.fst + (1 : Int)) % (2 : Int) * (15 : Int)) pre).bl) ∧
 (wrP d ((2 : Int) + (l.r.fst + (1 : Int)) % (2 : Int) * (15 : Int)) pre).sy =
 (wrP d ((2 : Int) + (l.r.fst + (1 : Int)) % (2 : Int) * (15 : Int)) pre).sy ∧
 True) ∧
 (True ∧
 (2 : Int) + (l.r.fst + (1 : Int)) % (2 : Int) * (15 : Int) + (↑pre.length : Int) =
 (2 : Int) + (l.r.fst + (1 : Int)) % (2 : Int) * (15 : Int) + (↑pre.length : Int) ∧
 x = x ∧ True) ∧
 DkOK (wrP d ((2 : Int) + (l.r.fst + (1 : Int)) % (2 : Int) * (15 : Int)) pre) ∧
 True ∧
 (¬(writeF (wrP d ((2 : Int) + (l.r.fst + (1 : Int)) % (2 : Int) * (15 : Int)) pre)
 ((2 : Int) + (l.r.fst + (1 : Int)) % (2 : Int) * (15 : Int) + (↑pre.length : Int)) x).fst =
 (0 : Int) →
 ¬(writeF (wrP d ((2 : Int) + (l.r.fst + (1 : Int)) % (2 : Int) * (15 : Int)) pre)
 ((2 : Int) + (l.r.fst + (1 : Int)) % (2 : Int) * (15 : Int) + (↑pre.length : Int)) x).fst =
 (0 : Int) ∧
 (Ex.ret = Ex.ret ∧ goW d ((2 : Int) + (l.r.fst + (1 : Int)) % (2 : Int) * (15 : Int)) pre x = false ∧ true = true) ∧
 ((True ∧
 (writeF (wrP d ((2 : Int) + (l.r.fst + (1 : Int)) % (2 : Int) * (15 : Int)) pre)
 ((2 : Int) + (l.r.fst + (1 : Int)) % (2 : Int) * (15 : Int) + (↑pre.length : Int)) x).snd.down =
 (wrP d ((2 : Int) + (l.r.fst + (1 : Int)) % (2 : Int) * (15 : Int)) (pre ++ [x])).down ∧
 (writeF (wrP d ((2 : Int) + (l.r.fst + (1 : Int)) % (2 : Int) * (15 : Int)) pre)
 ((2 : Int) + (l.r.fst + (1 : Int)) % (2 : Int) * (15 : Int) + (↑pre.length : Int)) x).snd.left =
 (wrP d ((2 : Int) + (l.r.fst + (1 : Int)) % (2 : Int) * (15 : Int)) (pre ++ [x])).left ∧
 (writeF (wrP d ((2 : Int) + (l.r.fst + (1 : Int)) % (2 : Int) * (15 : Int)) pre)
 ((2 : Int) + (l.r.fst + (1 : Int)) % (2 : Int) * (15 : Int) + (↑pre.length : Int)) x).snd.turn =
 (wrP d ((2 : Int) + (l.r.fst + (1 : Int)) % (2 : Int) * (15 : Int)) (pre ++ [x])).turn ∧
 (writeF (wrP d ((2 : Int) + (l.r.fst + (1 : Int)) % (2 : Int) * (15 : Int)) pre)
 ((2 : Int) + (l.r.fst + (1 : Int)) % (2 : Int) * (15 : Int) + (↑pre.length : Int)) x).snd.opened =
 (wrP d ((2 : Int) + (l.r.fst + (1 : Int)) % (2 : Int) * (15 : Int)) (pre ++ [x])).opened ∧
 True) ∧
 (True ∧ True) ∧
 (writeF (wrP d ((2 : Int) + (l.r.fst + (1 : Int)) % (2 : Int) * (15 : Int)) pre)
 ((2 : Int) + (l.r.fst + (1 : Int)) % (2 : Int) * (15 : Int) + (↑pre.length : Int)) x).snd.bl =
 (wrP d ((2 : Int) + (l.r.fst + (1 : Int)) % (2 : Int) * (15 : Int)) (pre ++ [x])).bl) ∧
 (writeF (wrP d ((2 : Int) + (l.r.fst + (1 : Int)) % (2 : Int) * (15 : Int)) pre)
 ((2 : Int) + (l.r.fst + (1 : Int)) % (2 : Int) * (15 : Int) + (↑pre.length : Int)) x).snd.sy =
 (wrP d ((2 : Int) + (l.r.fst + (1 : Int)) % (2 : Int) * (15 : Int)) (pre ++ [x])).sy ∧
 g53_q1 M d l ∧
 l.c.snd.snd = l.c.snd.snd ∧
 (True ∧ True) ∧
 ((writeF (wrP d ((2 : Int) + (l.r.fst + (1 : Int)) % (2 : Int) * (15 : Int)) pre)
 ((2 : Int) + (l.r.fst + (1 : Int)) % (2 : Int) * (15 : Int) + (↑pre.length : Int)) x).fst =
 (8 : Int) ∧
 True) ∧
 g53_q2 M d l ∧ (True ∧ True) ∧ True ∧ True ∧ True) ∧
 (¬¬(writeF (wrP d ((2 : Int) + (l.r.fst + (1 : Int)) % (2 : Int) * (15 : Int)) pre)
 ((2 : Int) + (l.r.fst + (1 : Int)) % (2 : Int) * (15 : Int) + (↑pre.length : Int)) x).fst =
 (0 : Int) →
 ¬¬(writeF (wrP d ((2 : Int) + (l.r.fst + (1 : Int)) % (2 : Int) * (15 : Int)) pre)
 ((2 : Int) + (l.r.fst + (1 : Int)) % (2 : Int) * (15 : Int) + (↑pre.length : Int)) x).fst =
 (0 : Int) ∧
 Fits IntKind.i64 ((2 : Int) + (l.r.fst + (1 : Int)) % (2 : Int) * (15 : Int) + (↑pre.length : Int) + (1 : Int)) ∧
 (goW d ((2 : Int) + (l.r.fst + (1 : Int)) % (2 : Int) * (15 : Int)) pre x = true ∧ true = true) ∧
 ((True ∧
 (writeF (wrP d ((2 : Int) + (l.r.fst + (1 : Int)) % (2 : Int) * (15 : Int)) pre)
 ((2 : Int) + (l.r.fst + (1 : Int)) % (2 : Int) * (15 : Int) + (↑pre.length : Int)) x).snd.down =
 (wrP d ((2 : Int) + (l.r.fst + (1 : Int)) % (2 : Int) * (15 : Int)) (pre ++ [x])).down ∧
 (writeF (wrP d ((2 : Int) + (l.r.fst + (1 : Int)) % (2 : Int) * (15 : Int)) pre)
 ((2 : Int) + (l.r.fst + (1 : Int)) % (2 : Int) * (15 : Int) + (↑pre.length : Int)) x).snd.left =
 (wrP d ((2 : Int) + (l.r.fst + (1 : Int)) % (2 : Int) * (15 : Int)) (pre ++ [x])).left ∧
 (writeF (wrP d ((2 : Int) + (l.r.fst + (1 : Int)) % (2 : Int) * (15 : Int)) pre)
 ((2 : Int) + (l.r.fst + (1 : Int)) % (2 : Int) * (15 : Int) + (↑pre.length : Int)) x).snd.turn =
 (wrP d ((2 : Int) + (l.r.fst + (1 : Int)) % (2 : Int) * (15 : Int)) (pre ++ [x])).turn ∧
 (writeF (wrP d ((2 : Int) + (l.r.fst + (1 : Int)) % (2 : Int) * (15 : Int)) pre)
 ((2 : Int) + (l.r.fst + (1 : Int)) % (2 : Int) * (15 : Int) + (↑pre.length : Int)) x).snd.opened =
 (wrP d ((2 : Int) + (l.r.fst + (1 : Int)) % (2 : Int) * (15 : Int)) (pre ++ [x])).opened ∧
 True) ∧
 (True ∧ True) ∧
 (writeF (wrP d ((2 : Int) + (l.r.fst + (1 : Int)) % (2 : Int) * (15 : Int)) pre)
 ((2 : Int) + (l.r.fst + (1 : Int)) % (2 : Int) * (15 : Int) + (↑pre.length : Int)) x).snd.bl =
 (wrP d ((2 : Int) + (l.r.fst + (1 : Int)) % (2 : Int) * (15 : Int)) (pre ++ [x])).bl) ∧
 (writeF (wrP d ((2 : Int) + (l.r.fst + (1 : Int)) % (2 : Int) * (15 : Int)) pre)
 ((2 : Int) + (l.r.fst + (1 : Int)) % (2 : Int) * (15 : Int) + (↑pre.length : Int)) x).snd.sy =
 (wrP d ((2 : Int) + (l.r.fst + (1 : Int)) % (2 : Int) * (15 : Int)) (pre ++ [x])).sy ∧
 g53_q1 M d l ∧
 l.c.snd.snd = l.c.snd.snd ∧
 (True ∧ True) ∧
 ((0 : Int) = (0 : Int) ∧ True) ∧
 g53_q2 M d l ∧
 ((2 : Int) + (l.r.fst + (1 : Int)) % (2 : Int) * (15 : Int) + (↑pre.length : Int) + (1 : Int) =
 (2 : Int) + (l.r.fst + (1 : Int)) % (2 : Int) * (15 : Int) + (↑(pre ++ [x]).length : Int) ∧
 True) ∧
 True ∧ True ∧ True)) ∧
 (∀ (E : Ext false tBy),
 E.go = goW d ((2 : Int) + (l.r.fst + (1 : Int)) % (2 : Int) * (15 : Int)) →
 (∀ (pre : List (List Int)) (x : List Int) (r : List (List Int)), chs (15 : Nat) (writtenF l.c) = pre ++ x :: r → E.may pre x) →
 M false tBy E →
 True ∧
 ((writtenF l.c = writtenF l.c ∧ True) ∧
 ((128 : Int) = (128 : Int) ∧ True) ∧ Ent.ext false tBy E true (nilT (List Int)) = Ent.ext false tBy E true (nilT (List Int)) ∧ True) ∧
 (E.yv = E.yv ∧ True ∧ True ∧ True) ∧
 P88 M (X88.mk E [] (writtenF l.c)) ∧
 True ∧
 (10 : Nat) = (10 : Nat) ∧
 some (Ent.ext false tBy E (X88.mk E (nilT (List Int)) (writtenF l.c)).fed.fst (X88.mk E (nilT (List Int)) (writtenF l.c)).fed.snd) =
 some
 (Ent.ext false tBy E
 (feed (goW d ((2 : Int) + (l.r.fst + (1 : Int)) % (2 : Int) * (15 : Int))) (nilT (List Int))
 (chs (15 : Nat) (writtenF l.c))).fst
 (feed (goW d ((2 : Int) + (l.r.fst + (1 : Int)) % (2 : Int) * (15 : Int))) (nilT (List Int))
 (chs (15 : Nat) (writtenF l.c))).snd) ∧
 some (Ent.blk (63 : TypeId) [SC.ro (Ty.int IntKind.u8) (writtenF l.c)]) =
 some (Ent.blk (63 : Nat) [SC.ro (Ty.int IntKind.u8) (writtenF l.c)]) ∧
 some (Ent.blk (3 : TypeId) [SC.int IntKind.i64 (128 : Int)]) = some (Ent.blk (3 : Nat) [SC.int IntKind.i64 (128 : Int)]) ∧ True) ∧
 ((feed (goW d ((2 : Int) + (l.r.fst + (1 : Int)) % (2 : Int) * (15 : Int))) (nilT (List Int)) (chs (15 : Nat) (writtenF l.c))).fst = true →
 True ∧
 (((True ∧
 (wrP d ((2 : Int) + (l.r.fst + (1 : Int)) % (2 : Int) * (15 : Int))
 (feed (goW d ((2 : Int) + (l.r.fst + (1 : Int)) % (2 : Int) * (15 : Int))) (nilT (List Int))
 (chs (15 : Nat) (writtenF l.c))).snd).down =
 (wrP d ((2 : Int) + (l.r.fst + (1 : Int)) % (2 : Int) * (15 : Int))
 (feed (goW d ((2 : Int) + (l.r.fst + (1 : Int)) % (2 : Int) * (15 : Int))) (nilT (List Int))
 (chs (15 : Nat) (writtenF l.c))).snd).down ∧
 (wrP d ((2 : Int) + (l.r.fst + (1 : Int)) % (2 : Int) * (15 : Int))
 (feed (goW d ((2 : Int) + (l.r.fst + (1 : Int)) % (2 : Int) * (15 : Int))) (nilT (List Int))
 (chs (15 : Nat) (writtenF l.c))).snd).left =
 (wrP d ((2 : Int) + (l.r.fst + (1 : Int)) % (2 : Int) * (15 : Int))
 (feed (goW d ((2 : Int) + (l.r.fst + (1 : Int)) % (2 : Int) * (15 : Int))) (nilT (List Int))
 (chs (15 : Nat) (writtenF l.c))).snd).left ∧
 (wrP d ((2 : Int) + (l.r.fst + (1 : Int)) % (2 : Int) * (15 : Int))
 (feed (goW d ((2 : Int) + (l.r.fst + (1 : Int)) % (2 : Int) * (15 : Int))) (nilT (List Int))
 (chs (15 : Nat) (writtenF l.c))).snd).turn =
 (wrP d ((2 : Int) + (l.r.fst + (1 : Int)) % (2 : Int) * (15 : Int))
 (feed (goW d ((2 : Int) + (l.r.fst + (1 : Int)) % (2 : Int) * (15 : Int))) (nilT (List Int))
 (chs (15 : Nat) (writtenF l.c))).snd).turn ∧
 (wrP d ((2 : Int) + (l.r.fst + (1 : Int)) % (2 : Int) * (15 : Int))
 (feed (goW d ((2 : Int) + (l.r.fst + (1 : Int)) % (2 : Int) * (15 : Int))) (nilT (List Int))
 (chs (15 : Nat) (writtenF l.c))).snd).opened =
 (wrP d ((2 : Int) + (l.r.fst + (1 : Int)) % (2 : Int) * (15 : Int))
 (feed (goW d ((2 : Int) + (l.r.fst + (1 : Int)) % (2 : Int) * (15 : Int))) (nilT (List Int))
 (chs (15 : Nat) (writtenF l.c))).snd).opened ∧
 True) ∧
 (True ∧ True) ∧
 (wrP d ((2 : Int) + (l.r.fst + (1 : Int)) % (2 : Int) * (15 : Int))
 (feed (goW d ((2 : Int) + (l.r.fst + (1 : Int)) % (2 : Int) * (15 : Int))) (nilT (List Int)) (chs (15 : Nat) (writtenF l.c))).snd).bl =
 (wrP d ((2 : Int) + (l.r.fst + (1 : Int)) % (2 : Int) * (15 : Int))
 (feed (goW d ((2 : Int) + (l.r.fst + (1 : Int)) % (2 : Int) * (15 : Int))) (nilT (List Int)) (chs (15 : Nat) (writtenF l.c))).snd).bl) ∧
 (wrP d ((2 : Int) + (l.r.fst + (1 : Int)) % (2 : Int) * (15 : Int))
 (feed (goW d ((2 : Int) + (l.r.fst + (1 : Int)) % (2 : Int) * (15 : Int))) (nilT (List Int)) (chs (15 : Nat) (writtenF l.c))).snd).sy =
 (wrP d ((2 : Int) + (l.r.fst + (1 : Int)) % (2 : Int) * (15 : Int))
 (feed (goW d ((2 : Int) + (l.r.fst + (1 : Int)) % (2 : Int) * (15 : Int))) (nilT (List Int)) (chs (15 : Nat) (writtenF l.c))).snd).sy ∧
 True) ∧
 (True ∧ True) ∧
 DkOK
 (wrP d ((2 : Int) + (l.r.fst + (1 : Int)) % (2 : Int) * (15 : Int))
 (feed (goW d ((2 : Int) + (l.r.fst + (1 : Int)) % (2 : Int) * (15 : Int))) [] (chs (15 : Nat) (writtenF l.c))).snd) ∧
 True ∧
 (g53_q3 M d l →
 g53_q3 M d l ∧
 true = true ∧
 (syncF
 (wrP d ((2 : Int) + (l.r.fst + (1 : Int)) % (2 : Int) * (15 : Int))
 (feed (goW d ((2 : Int) + (l.r.fst + (1 : Int)) % (2 : Int) * (15 : Int))) (nilT (List Int))
 (chs (15 : Nat) (writtenF l.c))).snd)).fst =
 (writeL d l).fst ∧
 ((True ∧
 (syncF
 (wrP d ((2 : Int) + (l.r.fst + (1 : Int)) % (2 : Int) * (15 : Int))
 (feed (goW d ((2 : Int) + (l.r.fst + (1 : Int)) % (2 : Int) * (15 : Int))) (nilT (List Int))
 (chs (15 : Nat) (writtenF l.c))).snd)).snd.down =
 (writeL d l).snd.fst.down ∧
 (syncF
 (wrP d ((2 : Int) + (l.r.fst + (1 : Int)) % (2 : Int) * (15 : Int))
 (feed (goW d ((2 : Int) + (l.r.fst + (1 : Int)) % (2 : Int) * (15 : Int))) (nilT (List Int))
 (chs (15 : Nat) (writtenF l.c))).snd)).snd.left =
 (writeL d l).snd.fst.left ∧
 (syncF
 (wrP d ((2 : Int) + (l.r.fst + (1 : Int)) % (2 : Int) * (15 : Int))
 (feed (goW d ((2 : Int) + (l.r.fst + (1 : Int)) % (2 : Int) * (15 : Int))) (nilT (List Int))
 (chs (15 : Nat) (writtenF l.c))).snd)).snd.turn =
 (writeL d l).snd.fst.turn ∧
 (syncF
 (wrP d ((2 : Int) + (l.r.fst + (1 : Int)) % (2 : Int) * (15 : Int))
 (feed (goW d ((2 : Int) + (l.r.fst + (1 : Int)) % (2 : Int) * (15 : Int))) (nilT (List Int))
 (chs (15 : Nat) (writtenF l.c))).snd)).snd.opened =
 (writeL d l).snd.fst.opened ∧
 True) ∧
 (True ∧ True) ∧
 (syncF
 (wrP d ((2 : Int) + (l.r.fst + (1 : Int)) % (2 : Int) * (15 : Int))
 (feed (goW d ((2 : Int) + (l.r.fst + (1 : Int)) % (2 : Int) * (15 : Int))) (nilT (List Int))
 (chs (15 : Nat) (writtenF l.c))).snd)).snd.bl =
 (writeL d l).snd.fst.bl) ∧
 True ∧
 g53_q5 M d l ∧
 l.c.snd.snd = l.c.snd.snd ∧
 (syncF
 (wrP d ((2 : Int) + (l.r.fst + (1 : Int)) % (2 : Int) * (15 : Int))
 (feed (goW d ((2 : Int) + (l.r.fst + (1 : Int)) % (2 : Int) * (15 : Int))) (nilT (List Int))
 (chs (15 : Nat) (writtenF l.c))).snd)).snd.sy =
 (writeL d l).snd.fst.sy ∧
 True) ∧
 (g53_q6 M d l →
 g53_q6 M d l ∧
 True ∧
 True ∧
 (((True ∧
 (syncF
 (wrP d ((2 : Int) + (l.r.fst + (1 : Int)) % (2 : Int) * (15 : Int))
 (feed (goW d ((2 : Int) + (l.r.fst + (1 : Int)) % (2 : Int) * (15 : Int))) (nilT (List Int))
 (chs (15 : Nat) (writtenF l.c))).snd)).snd.down =
 (syncF
 (wrP d ((2 : Int) + (l.r.fst + (1 : Int)) % (2 : Int) * (15 : Int))
 (feed (goW d ((2 : Int) + (l.r.fst + (1 : Int)) % (2 : Int) * (15 : Int))) (nilT (List Int))
 (chs (15 : Nat) (writtenF l.c))).snd)).snd.down ∧
 (syncF
 (wrP d ((2 : Int) + (l.r.fst + (1 : Int)) % (2 : Int) * (15 : Int))
 (feed (goW d ((2 : Int) + (l.r.fst + (1 : Int)) % (2 : Int) * (15 : Int))) (nilT (List Int))
 (chs (15 : Nat) (writtenF l.c))).snd)).snd.left =
 (syncF
 (wrP d ((2 : Int) + (l.r.fst + (1 : Int)) % (2 : Int) * (15 : Int))
 (feed (goW d ((2 : Int) + (l.r.fst + (1 : Int)) % (2 : Int) * (15 : Int))) (nilT (List Int))
 (chs (15 : Nat) (writtenF l.c))).snd)).snd.left ∧
 (syncF
 (wrP d ((2 : Int) + (l.r.fst + (1 : Int)) % (2 : Int) * (15 : Int))
 (feed (goW d ((2 : Int) + (l.r.fst + (1 : Int)) % (2 : Int) * (15 : Int))) (nilT (List Int))
 (chs (15 : Nat) (writtenF l.c))).snd)).snd.turn =
 (syncF
 (wrP d ((2 : Int) + (l.r.fst + (1 : Int)) % (2 : Int) * (15 : Int))
 (feed (goW d ((2 : Int) + (l.r.fst + (1 : Int)) % (2 : Int) * (15 : Int))) (nilT (List Int))
 (chs (15 : Nat) (writtenF l.c))).snd)).snd.turn ∧
 (syncF
 (wrP d ((2 : Int) + (l.r.fst + (1 : Int)) % (2 : Int) * (15 : Int))
 (feed (goW d ((2 : Int) + (l.r.fst + (1 : Int)) % (2 : Int) * (15 : Int))) (nilT (List Int))
 (chs (15 : Nat) (writtenF l.c))).snd)).snd.opened =
 (syncF
 (wrP d ((2 : Int) + (l.r.fst + (1 : Int)) % (2 : Int) * (15 : Int))
 (feed (goW d ((2 : Int) + (l.r.fst + (1 : Int)) % (2 : Int) * (15 : Int))) (nilT (List Int))
 (chs (15 : Nat) (writtenF l.c))).snd)).snd.opened ∧
 True) ∧
 (True ∧ True) ∧
 (syncF
 (wrP d ((2 : Int) + (l.r.fst + (1 : Int)) % (2 : Int) * (15 : Int))
 (feed (goW d ((2 : Int) + (l.r.fst + (1 : Int)) % (2 : Int) * (15 : Int))) (nilT (List Int))
 (chs (15 : Nat) (writtenF l.c))).snd)).snd.bl =
 (syncF
 (wrP d ((2 : Int) + (l.r.fst + (1 : Int)) % (2 : Int) * (15 : Int))
 (feed (goW d ((2 : Int) + (l.r.fst + (1 : Int)) % (2 : Int) * (15 : Int))) (nilT (List Int))
 (chs (15 : Nat) (writtenF l.c))).snd)).snd.bl) ∧
 (syncF
 (wrP d ((2 : Int) + (l.r.fst + (1 : Int)) % (2 : Int) * (15 : Int))
 (feed (goW d ((2 : Int) + (l.r.fst + (1 : Int)) % (2 : Int) * (15 : Int))) (nilT (List Int))
 (chs (15 : Nat) (writtenF l.c))).snd)).snd.sy =
 (syncF
 (wrP d ((2 : Int) + (l.r.fst + (1 : Int)) % (2 : Int) * (15 : Int))
 (feed (goW d ((2 : Int) + (l.r.fst + (1 : Int)) % (2 : Int) * (15 : Int))) (nilT (List Int))
 (chs (15 : Nat) (writtenF l.c))).snd)).snd.sy ∧
 True) ∧
 (True ∧
 (l.r.fst + (1 : Int)) % (2 : Int) = (l.r.fst + (1 : Int)) % (2 : Int) ∧
 rootW (l.r.fst + (1 : Int), (↑(writtenF l.c).length : Int), sumF (writtenF l.c)) =
 rootW (l.r.fst + (1 : Int), (↑(writtenF l.c).length : Int), sumF (writtenF l.c)) ∧
 True) ∧
 DkOK
 (syncF
 (wrP d ((2 : Int) + (l.r.fst + (1 : Int)) % (2 : Int) * (15 : Int))
 (feed (goW d ((2 : Int) + (l.r.fst + (1 : Int)) % (2 : Int) * (15 : Int))) []
 (chs (15 : Nat) (writtenF l.c))).snd)).snd ∧
 True ∧
 (g53_q7 M d l →
 g53_q7 M d l ∧
 true = true ∧
 (writeF
 (syncF
 (wrP d ((2 : Int) + (l.r.fst + (1 : Int)) % (2 : Int) * (15 : Int))
 (feed (goW d ((2 : Int) + (l.r.fst + (1 : Int)) % (2 : Int) * (15 : Int))) (nilT (List Int))
 (chs (15 : Nat) (writtenF l.c))).snd)).snd
 ((l.r.fst + (1 : Int)) % (2 : Int))
 (rootW (l.r.fst + (1 : Int), (↑(writtenF l.c).length : Int), sumF (writtenF l.c)))).fst =
 (writeL d l).fst ∧
 ((True ∧
 (writeF
 (syncF
 (wrP d ((2 : Int) + (l.r.fst + (1 : Int)) % (2 : Int) * (15 : Int))
 (feed (goW d ((2 : Int) + (l.r.fst + (1 : Int)) % (2 : Int) * (15 : Int))) (nilT (List Int))
 (chs (15 : Nat) (writtenF l.c))).snd)).snd
 ((l.r.fst + (1 : Int)) % (2 : Int))
 (rootW (l.r.fst + (1 : Int), (↑(writtenF l.c).length : Int), sumF (writtenF l.c)))).snd.down =
 (writeL d l).snd.fst.down ∧
 (writeF
 (syncF
 (wrP d ((2 : Int) + (l.r.fst + (1 : Int)) % (2 : Int) * (15 : Int))
 (feed (goW d ((2 : Int) + (l.r.fst + (1 : Int)) % (2 : Int) * (15 : Int)))
 (nilT (List Int)) (chs (15 : Nat) (writtenF l.c))).snd)).snd
 ((l.r.fst + (1 : Int)) % (2 : Int))
 (rootW (l.r.fst + (1 : Int), (↑(writtenF l.c).length : Int), sumF (writtenF l.c)))).snd.left =
 (writeL d l).snd.fst.left ∧
 (writeF
 (syncF
 (wrP d ((2 : Int) + (l.r.fst + (1 : Int)) % (2 : Int) * (15 : Int))
 (feed (goW d ((2 : Int) + (l.r.fst + (1 : Int)) % (2 : Int) * (15 : Int)))
 (nilT (List Int)) (chs (15 : Nat) (writtenF l.c))).snd)).snd
 ((l.r.fst + (1 : Int)) % (2 : Int))
 (rootW (l.r.fst + (1 : Int), (↑(writtenF l.c).length : Int), sumF (writtenF l.c)))).snd.turn =
 (writeL d l).snd.fst.turn ∧
 (writeF
 (syncF
 (wrP d ((2 : Int) + (l.r.fst + (1 : Int)) % (2 : Int) * (15 : Int))
 (feed (goW d ((2 : Int) + (l.r.fst + (1 : Int)) % (2 : Int) * (15 : Int)))
 (nilT (List Int)) (chs (15 : Nat) (writtenF l.c))).snd)).snd
 ((l.r.fst + (1 : Int)) % (2 : Int))
 (rootW
 (l.r.fst + (1 : Int), (↑(writtenF l.c).length : Int), sumF (writtenF l.c)))).snd.opened =
 (writeL d l).snd.fst.opened ∧
 True) ∧
 (True ∧ True) ∧
 (writeF
 (syncF
 (wrP d ((2 : Int) + (l.r.fst + (1 : Int)) % (2 : Int) * (15 : Int))
 (feed (goW d ((2 : Int) + (l.r.fst + (1 : Int)) % (2 : Int) * (15 : Int))) (nilT (List Int))
 (chs (15 : Nat) (writtenF l.c))).snd)).snd
 ((l.r.fst + (1 : Int)) % (2 : Int))
 (rootW (l.r.fst + (1 : Int), (↑(writtenF l.c).length : Int), sumF (writtenF l.c)))).snd.bl =
 (writeL d l).snd.fst.bl) ∧
 True ∧
 g53_q5 M d l ∧
 l.c.snd.snd = l.c.snd.snd ∧
 (writeF
 (syncF
 (wrP d ((2 : Int) + (l.r.fst + (1 : Int)) % (2 : Int) * (15 : Int))
 (feed (goW d ((2 : Int) + (l.r.fst + (1 : Int)) % (2 : Int) * (15 : Int)))
 (nilT (List Int)) (chs (15 : Nat) (writtenF l.c))).snd)).snd
 ((l.r.fst + (1 : Int)) % (2 : Int))
 (rootW (l.r.fst + (1 : Int), (↑(writtenF l.c).length : Int), sumF (writtenF l.c)))).snd.sy =
 (writeL d l).snd.fst.sy ∧
 True) ∧
 (g53_q8 M d l →
 g53_q8 M d l ∧
 True ∧
 (((True ∧
 (writeF
 (syncF
 (wrP d ((2 : Int) + (l.r.fst + (1 : Int)) % (2 : Int) * (15 : Int))
 (feed (goW d ((2 : Int) + (l.r.fst + (1 : Int)) % (2 : Int) * (15 : Int))) (nilT (List Int))
 (chs (15 : Nat) (writtenF l.c))).snd)).snd
 ((l.r.fst + (1 : Int)) % (2 : Int))
 (rootW (l.r.fst + (1 : Int), (↑(writtenF l.c).length : Int), sumF (writtenF l.c)))).snd.down =
 (writeF
 (syncF
 (wrP d ((2 : Int) + (l.r.fst + (1 : Int)) % (2 : Int) * (15 : Int))
 (feed (goW d ((2 : Int) + (l.r.fst + (1 : Int)) % (2 : Int) * (15 : Int))) (nilT (List Int))
 (chs (15 : Nat) (writtenF l.c))).snd)).snd
 ((l.r.fst + (1 : Int)) % (2 : Int))
 (rootW (l.r.fst + (1 : Int), (↑(writtenF l.c).length : Int), sumF (writtenF l.c)))).snd.down ∧
 (writeF
 (syncF
 (wrP d ((2 : Int) + (l.r.fst + (1 : Int)) % (2 : Int) * (15 : Int))
 (feed (goW d ((2 : Int) + (l.r.fst + (1 : Int)) % (2 : Int) * (15 : Int)))
 (nilT (List Int)) (chs (15 : Nat) (writtenF l.c))).snd)).snd
 ((l.r.fst + (1 : Int)) % (2 : Int))
 (rootW (l.r.fst + (1 : Int), (↑(writtenF l.c).length : Int), sumF (writtenF l.c)))).snd.left =
 (writeF
 (syncF
 (wrP d ((2 : Int) + (l.r.fst + (1 : Int)) % (2 : Int) * (15 : Int))
 (feed (goW d ((2 : Int) + (l.r.fst + (1 : Int)) % (2 : Int) * (15 : Int)))
 (nilT (List Int)) (chs (15 : Nat) (writtenF l.c))).snd)).snd
 ((l.r.fst + (1 : Int)) % (2 : Int))
 (rootW (l.r.fst + (1 : Int), (↑(writtenF l.c).length : Int), sumF (writtenF l.c)))).snd.left ∧
 (writeF
 (syncF
 (wrP d ((2 : Int) + (l.r.fst + (1 : Int)) % (2 : Int) * (15 : Int))
 (feed (goW d ((2 : Int) + (l.r.fst + (1 : Int)) % (2 : Int) * (15 : Int)))
 (nilT (List Int)) (chs (15 : Nat) (writtenF l.c))).snd)).snd
 ((l.r.fst + (1 : Int)) % (2 : Int))
 (rootW (l.r.fst + (1 : Int), (↑(writtenF l.c).length : Int), sumF (writtenF l.c)))).snd.turn =
 (writeF
 (syncF
 (wrP d ((2 : Int) + (l.r.fst + (1 : Int)) % (2 : Int) * (15 : Int))
 (feed (goW d ((2 : Int) + (l.r.fst + (1 : Int)) % (2 : Int) * (15 : Int)))
 (nilT (List Int)) (chs (15 : Nat) (writtenF l.c))).snd)).snd
 ((l.r.fst + (1 : Int)) % (2 : Int))
 (rootW (l.r.fst + (1 : Int), (↑(writtenF l.c).length : Int), sumF (writtenF l.c)))).snd.turn ∧
 (writeF
 (syncF
 (wrP d ((2 : Int) + (l.r.fst + (1 : Int)) % (2 : Int) * (15 : Int))
 (feed (goW d ((2 : Int) + (l.r.fst + (1 : Int)) % (2 : Int) * (15 : Int)))
 (nilT (List Int)) (chs (15 : Nat) (writtenF l.c))).snd)).snd
 ((l.r.fst + (1 : Int)) % (2 : Int))
 (rootW
 (l.r.fst + (1 : Int), (↑(writtenF l.c).length : Int), sumF (writtenF l.c)))).snd.opened =
 (writeF
 (syncF
 (wrP d ((2 : Int) + (l.r.fst + (1 : Int)) % (2 : Int) * (15 : Int))
 (feed (goW d ((2 : Int) + (l.r.fst + (1 : Int)) % (2 : Int) * (15 : Int)))
 (nilT (List Int)) (chs (15 : Nat) (writtenF l.c))).snd)).snd
 ((l.r.fst + (1 : Int)) % (2 : Int))
 (rootW
 (l.r.fst + (1 : Int), (↑(writtenF l.c).length : Int), sumF (writtenF l.c)))).snd.opened ∧
 True) ∧
 (True ∧ True) ∧
 (writeF
 (syncF
 (wrP d ((2 : Int) + (l.r.fst + (1 : Int)) % (2 : Int) * (15 : Int))
 (feed (goW d ((2 : Int) + (l.r.fst + (1 : Int)) % (2 : Int) * (15 : Int))) (nilT (List Int))
 (chs (15 : Nat) (writtenF l.c))).snd)).snd
 ((l.r.fst + (1 : Int)) % (2 : Int))
 (rootW (l.r.fst + (1 : Int), (↑(writtenF l.c).length : Int), sumF (writtenF l.c)))).snd.bl =
 (writeF
 (syncF
 (wrP d ((2 : Int) + (l.r.fst + (1 : Int)) % (2 : Int) * (15 : Int))
 (feed (goW d ((2 : Int) + (l.r.fst + (1 : Int)) % (2 : Int) * (15 : Int))) (nilT (List Int))
 (chs (15 : Nat) (writtenF l.c))).snd)).snd
 ((l.r.fst + (1 : Int)) % (2 : Int))
 (rootW (l.r.fst + (1 : Int), (↑(writtenF l.c).length : Int), sumF (writtenF l.c)))).snd.bl) ∧
 (writeF
 (syncF
 (wrP d ((2 : Int) + (l.r.fst + (1 : Int)) % (2 : Int) * (15 : Int))
 (feed (goW d ((2 : Int) + (l.r.fst + (1 : Int)) % (2 : Int) * (15 : Int))) (nilT (List Int))
 (chs (15 : Nat) (writtenF l.c))).snd)).snd
 ((l.r.fst + (1 : Int)) % (2 : Int))
 (rootW (l.r.fst + (1 : Int), (↑(writtenF l.c).length : Int), sumF (writtenF l.c)))).snd.sy =
 (writeF
 (syncF
 (wrP d ((2 : Int) + (l.r.fst + (1 : Int)) % (2 : Int) * (15 : Int))
 (feed (goW d ((2 : Int) + (l.r.fst + (1 : Int)) % (2 : Int) * (15 : Int))) (nilT (List Int))
 (chs (15 : Nat) (writtenF l.c))).snd)).snd
 ((l.r.fst + (1 : Int)) % (2 : Int))
 (rootW (l.r.fst + (1 : Int), (↑(writtenF l.c).length : Int), sumF (writtenF l.c)))).snd.sy ∧
 True) ∧
 (True ∧ True) ∧
 DkOK
 (writeF
 (syncF
 (wrP d ((2 : Int) + (l.r.fst + (1 : Int)) % (2 : Int) * (15 : Int))
 (feed (goW d ((2 : Int) + (l.r.fst + (1 : Int)) % (2 : Int) * (15 : Int))) []
 (chs (15 : Nat) (writtenF l.c))).snd)).snd
 ((l.r.fst + (1 : Int)) % (2 : Int))
 (rootW (l.r.fst + (1 : Int), (↑(writtenF l.c).length : Int), sumF (writtenF l.c)))).snd ∧
 True ∧
 (g53_q9 M d l →
 g53_q9 M d l ∧
 true = true ∧
 (syncF
 (writeF
 (syncF
 (wrP d ((2 : Int) + (l.r.fst + (1 : Int)) % (2 : Int) * (15 : Int))
 (feed (goW d ((2 : Int) + (l.r.fst + (1 : Int)) % (2 : Int) * (15 : Int)))
 (nilT (List Int)) (chs (15 : Nat) (writtenF l.c))).snd)).snd
 ((l.r.fst + (1 : Int)) % (2 : Int))
 (rootW
 (l.r.fst + (1 : Int), (↑(writtenF l.c).length : Int),
 sumF (writtenF l.c)))).snd).fst =
 (writeL d l).fst ∧
 g53_q10 M d l ∧ True ∧ g53_q5 M d l ∧ g53_q11 M d l) ∧
 (g53_q12 M d l → g53_q12 M d l ∧ g53_q13 M d l ∧ g53_q13 M d l)))) ∧
 ((feed (goW d ((2 : Int) + (l.r.fst + (1 : Int)) % (2 : Int) * (15 : Int))) (nilT (List Int)) (chs (15 : Nat) (writtenF l.c))).fst = false →
 true = true ∧
 (8 : Int) = (writeL d l).fst ∧
 ((True ∧
 (wrP d ((2 : Int) + (l.r.fst + (1 : Int)) % (2 : Int) * (15 : Int))
 (feed (goW d ((2 : Int) + (l.r.fst + (1 : Int)) % (2 : Int) * (15 : Int))) (nilT (List Int))
 (chs (15 : Nat) (writtenF l.c))).snd).down =
 (writeL d l).snd.fst.down ∧
 (wrP d ((2 : Int) + (l.r.fst + (1 : Int)) % (2 : Int) * (15 : Int))
 (feed (goW d ((2 : Int) + (l.r.fst + (1 : Int)) % (2 : Int) * (15 : Int))) (nilT (List Int))
 (chs (15 : Nat) (writtenF l.c))).snd).left =
 (writeL d l).snd.fst.left ∧
 (wrP d ((2 : Int) + (l.r.fst + (1 : Int)) % (2 : Int) * (15 : Int))
 (feed (goW d ((2 : Int) + (l.r.fst + (1 : Int)) % (2 : Int) * (15 : Int))) (nilT (List Int))
 (chs (15 : Nat) (writtenF l.c))).snd).turn =
 (writeL d l).snd.fst.turn ∧
 (wrP d ((2 : Int) + (l.r.fst + (1 : Int)) % (2 : Int) * (15 : Int))
 (feed (goW d ((2 : Int) + (l.r.fst + (1 : Int)) % (2 : Int) * (15 : Int))) (nilT (List Int))
 (chs (15 : Nat) (writtenF l.c))).snd).opened =
 (writeL d l).snd.fst.opened ∧
 True) ∧
 (True ∧ True) ∧
 (wrP d ((2 : Int) + (l.r.fst + (1 : Int)) % (2 : Int) * (15 : Int))
 (feed (goW d ((2 : Int) + (l.r.fst + (1 : Int)) % (2 : Int) * (15 : Int))) (nilT (List Int)) (chs (15 : Nat) (writtenF l.c))).snd).bl =
 (writeL d l).snd.fst.bl) ∧
 True ∧
 g53_q5 M d l ∧
 l.c.snd.snd = l.c.snd.snd ∧
 (wrP d ((2 : Int) + (l.r.fst + (1 : Int)) % (2 : Int) * (15 : Int))
 (feed (goW d ((2 : Int) + (l.r.fst + (1 : Int)) % (2 : Int) * (15 : Int))) (nilT (List Int))
 (chs (15 : Nat) (writtenF l.c))).snd).sy =
 (writeL d l).snd.fst.sy ∧
 True))
theorem g53_eq (M : MM) (d : Dk) (l : Ls) : g53 M d l = (
 True ∧
 (l.c.snd.snd = l.c.snd.snd ∧ True) ∧
 ((l.c.fst = l.c.fst ∧ l.c.snd.fst = l.c.snd.fst ∧ True ∧ True) ∧ True) ∧
 (((0 : Int) ≤ l.c.fst ∧ l.c.fst < (281474976710656 : Int)) ∧
 ((0 : Int) ≤ l.c.snd.fst ∧ l.c.snd.fst < (281474976710656 : Int)) ∧ l.c.snd.snd.length ≤ (40 : Nat) ∧ ∀ (s : ByteArray), s ∈ l.c.snd.snd → s.size ≤ (24 : Nat)) ∧
 True ∧ Fits IntKind.i64 (l.r.fst + (1 : Int)) ∧ g53_q14 M d l ∧ g53_q14 M d l) := by
 kernel_rfl
end Go.SX.Pe

/- Chapter 10: the list's image is written, proved. -/
namespace Go.SX.Pe
open Go Go.Proofs
theorem cy_ok {cs : List CI} (h : CsOK Tryd.prog cs) (an : List (Nat × (St → Ann))) : CtxOK Tryd.prog (cy (callM Tryd.prog) cs an) := ctxY_ok mixed (chkAll_ok tbl_ok) h _
theorem cr_ok {cs : List CI} (h : CsOK Tryd.prog cs) (an : List (Nat × (St → Ann))) (rn : List (Nat × (St → RAnn))) : CtxOK Tryd.prog (cr (callM Tryd.prog) cs an rn) := ctxR_ok mixed (chkAll_ok tbl_ok) h _ _
theorem g71h_ok {c : Cn} (h : CnOK c) : g71h c := by
  obtain ⟨last, mark, l⟩ := c
  obtain ⟨h1, h2, h3, h4⟩ := h
  have h3 : l.length ≤ 40 := h3
  refine (g71h_eq ..).mpr ?_
  simp only [g71h_q1, g71h_q2, g71h_q3, pp1, eq_self, and_true, true_and, and_self, Int.toNat_natCast, List.length_append, nb_length]
  have hle : ∀ x, (textsW (l.take x)).length ≤ 1000 := fun x => by
    have := textsW_le (l.take x) fun s hs => h4 s (List.mem_of_mem_take hs)
    have : (l.take x).length ≤ 40 := by rw [List.length_take]; omega
    omega
  refine ⟨by omega, by omega, ⟨0, by omega, by simp [textsW], rfl⟩, fun x hx => ⟨fun h5 => ?_, fun h5 => ?_⟩⟩
  · have hlt : x < l.length := by omega
    have hx1 := hle x
    have hsz : (l.getD x ByteArray.empty).size ≤ 24 := by
      have : l.getD x ByteArray.empty ∈ l := by simp [List.getD, hlt]
      exact h4 _ this
    refine ⟨⟨by omega, h5⟩, sm (by omega), sm (by simp only [List.length_cons, List.length_nil]; omega), fi (by omega) (by omega), x + 1, by omega, by omega, ?_, by omega⟩
    rw [take_snoc hlt ByteArray.empty, textsW_snoc]
    simp only [List.append_assoc, List.cons_append, List.nil_append]
  · have : x = l.length := by omega
    subst this
    rw [List.take_length]
    rfl
theorem H71_ok : HeapOK Tryd.prog H71 := heap_flat (c := H71) (fn := Tryd.f71) (by kernel_rfl) (by kernel_rfl) (by kernel_rfl) (fun _ => ⟨trivial, trivial⟩) C71 (fun c => cx_ok (cs := [i86, i87]) ⟨i86_ok, i87_ok, trivial⟩ _) (fun _ hx => g71h_ok hx)
theorem pick71_ok : ∀ args H K, pick71 args H K → ∃ x js, K x js := by
  intro args H K h
  unfold pick71 at h
  split at h
  · split at h
    · exact ⟨_, _, h⟩
    · exact h.elim
  · exact h.elim
theorem chs_len : (k : Nat) → (b : List Int) → ∀ x ∈ chs k b, x.length ≤ 128
  | 0, _, x, h => by simp [chs] at h
  | k + 1, b, x, h => by
    unfold chs at h
    by_cases hb : 0 < b.length
    · simp only [hb, decide_true, cond_true, List.mem_cons] at h
      rcases h with h | h
      · rw [h, List.length_take]; omega
      · exact chs_len k _ x h
    · simp [hb] at h
theorem chs_count : (k : Nat) → (b : List Int) → (chs k b).length ≤ k
  | 0, _ => by simp [chs]
  | k + 1, b => by
    unfold chs
    by_cases hb : 0 < b.length
    · have := chs_count k (b.drop 128)
      simp only [hb, decide_true, cond_true, List.length_cons]; omega
    · simp [hb]
theorem feed_cons {α : Type} (go : List α → α → Bool) (pre : List α) (x : α) (l : List α) : feed go pre (x :: l) = bif go pre x then feed go (pre ++ [x]) l else (false, pre ++ [x]) := rfl
theorem feed_append {α : Type} {go : List α → α → Bool} : (l pre r : List α) → feed go pre (l ++ r) = if (feed go pre l).1 = true then feed go (pre ++ l) r else feed go pre l
  | [], pre, r => by simp [feed]
  | x :: l, pre, r => by
    have := feed_append (go := go) l (pre ++ [x]) r
    rw [List.append_assoc] at this
    rw [List.cons_append, feed_cons, feed_cons]
    cases h : go pre x with
    | true => exact this
    | false => simp
theorem feed_all {α : Type} {go : List α → α → Bool} : (l pre : List α) → (feed go pre l).1 = true → (feed go pre l).2 = pre ++ l
  | [], pre, _ => by simp [feed]
  | x :: l, pre, h => by
    unfold feed at h ⊢
    cases hg : go pre x with
    | true => rw [hg] at h; simp only [cond_true] at h ⊢; rw [feed_all l _ h, List.append_assoc]; rfl
    | false => rw [hg] at h; simp at h
theorem g88_ok {M : MM} {x : X88} (h : P88 M x) : g88 M x := by
  obtain ⟨E, pre, b⟩ := x
  have hb : b.length ≤ 1920 := h.len
  have hM : M false tBy E := h.may
  have heach : ∀ r1 y r2, chs 15 b = r1 ++ y :: r2 → E.may (pre ++ r1) y := h.each
  refine (g88_eq ..).mpr ?_
  simp only [pp1, eq_self, and_true, true_and, and_self, Int.toNat_natCast, List.take_length]
  refine ⟨⟨(0, []), ⟨by omega, by simp, by simp [feed]⟩, by simp, by simp⟩, fun k hk => ?_⟩
  obtain ⟨k, d⟩ := k
  obtain ⟨k1, k2, k3⟩ := hk
  dsimp only at k1 k2 k3 ⊢
  have hn : (128 * (k : Int)).toNat = 128 * k := by omega
  refine ⟨fun hlt => ?_, fun hge => ?_⟩
  · have hlt' : 128 * k < b.length := by omega
    rw [hn]
    have hk14 : k ≤ 14 := by omega
    have hdl : (b.drop (128 * k)).length = b.length - 128 * k := List.length_drop
    have hch : chs (15 - k) (b.drop (128 * k)) = (b.drop (128 * k)).take 128 :: chs (15 - (k + 1)) (b.drop (128 * (k + 1))) := by
      rw [show 15 - k = (15 - (k + 1)) + 1 by omega]
      show (bif _ then _ else _) = _
      have : 0 < (b.drop (128 * k)).length := by omega
      simp only [this, decide_true, cond_true, List.drop_drop]
      rw [show 128 * k + 128 = 128 * (k + 1) by omega]
    have hpart : List.drop (128 * k) (List.take (128 * (k : Int) + min 128 ((b.drop (128 * k)).length : Int)).toNat b) = (b.drop (128 * k)).take 128 := by
      rw [List.drop_take]
      rcases Nat.le_total 128 (b.drop (128 * k)).length with hm | hm
      · congr 1; omega
      · rw [List.take_of_length_le (by omega), List.take_of_length_le (by omega)]
    rw [hpart]
    have hmay : E.may (pre ++ d) ((b.drop (128 * k)).take 128) := heach d _ _ (by rw [k2, hch])
    have hfed : X88.fed ⟨E, pre, b⟩ = feed E.go pre (d ++ (b.drop (128 * k)).take 128 :: chs (15 - (k + 1)) (b.drop (128 * (k + 1)))) := by
      show feed E.go pre (chs 15 b) = _
      rw [k2, hch]
    rw [feed_append, if_pos k3] at hfed
    refine ⟨by omega, fi (by omega) (by omega), fi (by omega) (by omega), by omega, hM, hmay, fun hg => ?_, fun hg => ⟨fi (by omega) (by omega), (k + 1, d ++ [(b.drop (128 * k)).take 128]), ⟨by dsimp only; omega, ?_, ?_⟩, by dsimp only; omega, ?_, by dsimp only; omega⟩⟩
    · have hg : E.go (pre ++ d) ((b.drop (128 * k)).take 128) = false := by simpa using hg
      rw [hfed, hg]
      simp [feed, hg]
    · dsimp only
      rw [k2, hch, List.append_assoc]; rfl
    · have hg : E.go (pre ++ d) ((b.drop (128 * k)).take 128) = true := by simpa using hg
      dsimp only
      rw [feed_append, if_pos k3]
      simp [feed, hg]
    · have hg : E.go (pre ++ d) ((b.drop (128 * k)).take 128) = true := by simpa using hg
      rw [hg]
      simp
  · have hz : chs (15 - k) (b.drop (128 * k)) = [] := by
      rcases hm : 15 - k with _ | m
      · rfl
      · show (bif _ then _ else _) = _
        have : ¬ 0 < b.length - 128 * k := by omega
        simp [this]
    have hfed : X88.fed ⟨E, pre, b⟩ = feed E.go pre d := by
      show feed E.go pre (chs 15 b) = _
      rw [k2, hz, List.append_nil]
    rw [hfed, k3, feed_all d _ k3]
theorem H88_ok : HeapOK Tryd.prog (H88 (callM Tryd.prog)) := heap_flat (fn := Tryd.f88) (by kernel_rfl) (by kernel_rfl) (by kernel_rfl) (fun x => ⟨trivial, trivial, trivial, trivial⟩) (C88 (callM Tryd.prog)) (fun _ => cy_ok (cs := []) trivial _) (fun x hx => g88_ok hx)
theorem pick88_ok : ∀ args H K, pick88 args H K → ∃ x js, K x js := by
  intro args H K h
  unfold pick88 at h
  split at h
  · split at h
    · split at h
      · exact ⟨_, _, h⟩
      · exact h.elim
    · exact h.elim
  · exact h.elim
theorem i72_ok : i72.OK Tryd.prog := inl_ok cx0 (by kernel_rfl) (by kernel_rfl) (by kernel_rfl)
theorem wrP_snoc (x : List Int) : (d : Dk) → (a : Int) → (pre : List (List Int)) → wrP d a (pre ++ [x]) = (writeF (wrP d a pre) (a + (pre.length : Int)) x).2
  | d, a, [] => by simp [wrP]
  | d, a, p :: r => by
    show wrP _ _ (r ++ [x]) = _
    rw [wrP_snoc x _ _ r]
    show _ = (writeF (wrP (writeF d a p).2 (a + 1) r) _ x).2
    rw [List.length_cons]
    congr 2
    omega
theorem wrP_ok : {d : Dk} → (a : Int) → (pre : List (List Int)) → DkOK d → DkOK (wrP d a pre)
  | _, _, [], h => h
  | _, _, _ :: r, h => wrP_ok _ r (writeF_ok h)
theorem pickD1_ok : ∀ args H K, pickD1 args H K → ∃ x js, K x js := by
  intro args H K h
  unfold pickD1 at h
  split at h
  · split at h
    · split at h
      · exact ⟨_, _, h⟩
      · exact h.elim
    · exact h.elim
  · exact h.elim
theorem pick34_ok : ∀ args H K, pick34 args H K → ∃ x js, K x js := by
  intro args H K h
  unfold pick34 at h
  split at h
  · split at h
    · split at h
      · exact ⟨_, _, h⟩
      · exact h.elim
    · exact h.elim
  · exact h.elim
theorem writtenF_len {c : Cn} (h : CnOK c) : (writtenF c).length ≤ 1018 := by
  obtain ⟨_, _, h3, h4⟩ := h
  have := textsW_le c.2.2 h4
  unfold writtenF
  simp only [List.length_append, nb_length]
  omega
theorem writeL_eqs {d : Dk} {l : Ls} {f : Bool × List (List Int)} (hf : feed (goW d (2 + (l.r.1 + 1) % 2 * 15)) [] (chs 15 (writtenF l.c)) = f) {d1 : Dk} (h1 : wrP d (2 + (l.r.1 + 1) % 2 * 15) f.2 = d1) {w : Int × Dk} (hw : writeF (syncF d1).2 ((l.r.1 + 1) % 2) (rootW (l.r.1 + 1, ((writtenF l.c).length : Int), sumF (writtenF l.c))) = w) :
    writeL d l = bif f.1 then (bif decide ((syncF d1).1 = 0) then (bif decide (w.1 = 0) then (bif decide ((syncF w.2).1 = 0) then (0, (syncF w.2).2, doneL l) else ((syncF w.2).1, (syncF w.2).2, l)) else (w.1, w.2, l)) else ((syncF d1).1, (syncF d1).2, l)) else (8, d1, l) := by
  subst hf; subst h1; subst hw
  rfl
theorem dnot {n : Int} : ¬ ¬ n = 0 ↔ n = 0 := Decidable.not_not
theorem g53_ok {M : MM} {d : Dk} {l : Ls} (hd : DkOK d) (hc : CnOK l.c) (h0 : 0 ≤ l.r.1) (h1 : l.r.1 ≤ 1000000) : g53 M d l := by
  have hwl := writtenF_len hc
  have hi : (l.r.1 + 1) % 2 = 0 ∨ (l.r.1 + 1) % 2 = 1 := by omega
  refine (g53_eq ..).mpr ?_
  simp only [g53_q1, g53_q2, g53_q3, g53_q4, g53_q5, g53_q6, g53_q7, g53_q8, g53_q9, g53_q10, g53_q11, g53_q12, g53_q13, g53_q14, pp1, eq_self, and_true, true_and, and_self, wrP, dnot]
  refine ⟨hc, fi (by omega) (by omega), by omega, ⟨by omega, by decide⟩, fi (by omega) (by omega), fi (by omega) (by omega), fun h => absurd h (by decide), fun _ => ⟨by simp, fun pre x r hpre => ?_, fun E hE hm hME => ⟨⟨hME, fun r1 y r2 h => hm r1 y r2 h, by show (writtenF l.c).length ≤ _; omega⟩, ?_⟩, ?_⟩⟩
  · have hcnt := chs_count 15 (writtenF l.c)
    rw [hpre, List.length_append, List.length_cons] at hcnt
    have hxl := chs_len 15 (writtenF l.c) x (by rw [hpre]; simp)
    have he := writeF_err (d := wrP d (2 + (l.r.1 + 1) % 2 * 15) pre) (a := 2 + (l.r.1 + 1) % 2 * 15 + (pre.length : Int)) (b := x) (by omega) (by omega) hxl
    rw [wrP_snoc]
    simp only [eq_self, and_true, true_and, and_self]
    refine ⟨wrP_ok _ _ hd, fun hne => ⟨?_, he.resolve_left hne⟩, fun heq => ⟨fi (by omega) (by omega), ?_, by simp only [List.length_append, List.length_cons, List.length_nil]; omega⟩⟩
    · unfold goW; simp [hne]
    · unfold goW; simp [heq]
  · show some (Ent.ext false tBy E (feed E.go [] (chs 15 (writtenF l.c))).1 (feed E.go [] (chs 15 (writtenF l.c))).2) = _
    rw [hE]
  · have hnil : nilT (List Int) = [] := rfl
    simp only [hnil]
    generalize hf : feed (goW d (2 + (l.r.1 + 1) % 2 * 15)) [] (chs 15 (writtenF l.c)) = f
    have hd1 := wrP_ok (2 + (l.r.1 + 1) % 2 * 15) f.2 hd
    generalize hp : wrP d (2 + (l.r.1 + 1) % 2 * 15) f.2 = d1 at hd1 ⊢
    generalize hw : writeF (syncF d1).2 ((l.r.1 + 1) % 2) (rootW (l.r.1 + 1, ((writtenF l.c).length : Int), sumF (writtenF l.c))) = w
    have hdw : DkOK w.2 := by rw [← hw]; exact writeF_ok (syncF_ok hd1)
    have e := writeL_eqs hf hp hw
    refine ⟨fun k1 => ⟨hd1, fun k2 => ?_, fun k2 => ⟨syncF_ok hd1, fun k3 => ?_, fun k3 => ⟨hdw, fun k4 => ?_, fun k4 => ?_⟩⟩⟩, fun k1 => ?_⟩
    · simp only [k1, k2, decide_false, cond_true, cond_false] at e
      rw [e]; simp
    · simp only [k1, k2, k3, decide_true, decide_false, cond_true, cond_false] at e
      rw [e]; simp
    · simp only [k1, k2, k3, k4, decide_true, decide_false, cond_true, cond_false] at e
      rw [e]; simp
    · simp only [k1, k2, k3, k4, decide_true, cond_true] at e
      rw [e]; simp [doneL, nextR]
    · simp only [k1, cond_false] at e
      rw [e]; simp
theorem i34_ok : (H34.ci pick34).OK Tryd.prog := H34_ok.ci (fun _ => ⟨trivial, trivial, trivial⟩) pick34_ok
theorem i29_ok : (H29.ci pickD1).OK Tryd.prog := H29_ok.ci (fun _ => ⟨trivial, trivial, trivial⟩) pickD1_ok
theorem H53_ok : HeapOK Tryd.prog H53 :=
  heap_flat (c := H53) (fn := Tryd.f53) (by kernel_rfl) (by kernel_rfl) (by kernel_rfl) (fun _ => ⟨trivial, trivial, trivial, trivial, trivial⟩) (C53 (callM Tryd.prog))
    (fun _ => cr_ok (cs := [H71.ci pick71, p70.ci, i68, i72, (H88 (callM Tryd.prog)).ci pick88, H34.ci pick34, H29.ci pickD1, p73.ci]) ⟨H71_ok.ci (fun _ => ⟨trivial, trivial⟩) pick71_ok, PC.OK.ci p70_ok, i68_ok, i72_ok, H88_ok.ci (fun _ => ⟨trivial, trivial, trivial, trivial⟩) pick88_ok, i34_ok, i29_ok, PC.OK.ci p73_ok, trivial⟩ _ _)
    (fun x hx => g53_ok hx.1 hx.2.1 hx.2.2.1 hx.2.2.2)
end Go.SX.Pe

/- Chapter 10: the list's functions, what is asked of each. -/
namespace Go.SX.Pe
open Go Go.Proofs
noncomputable section
@[reducible] def caseSpec {X : Type} (pick : Pick X) (q : X → Prop) (s1 s2 : Spec) : Spec := fun args H K => pick args H fun x _ => (q x → s1 args H K) ∧ (¬ q x → s2 args H K)
@[reducible] def caseCI {X : Type} (pick : Pick X) (q : X → Prop) (c1 c2 : CI) : CI := ⟨c1.f, caseSpec pick q c1.s c2.s, false, c1.z && c2.z⟩
@[reducible] def zc : SC → SC
  | .prop _ p d => .prop 0 p d
  | .bool _ b => .bool 0 b
  | x => x
@[reducible] def zcs : List SC → List SC
  | [] => []
  | x :: r => zc x :: zcs r
@[reducible] def zps : List (Bool × List SC) → List (Bool × List SC)
  | [] => []
  | p :: r => (p.1, zcs p.2) :: zps r
@[reducible] def zv : SV → SV
  | .c x => .c (zc x)
  | .tup l => .tup (zps l)
  | v => v
@[reducible] def inz (f : FuncId) (fn : Func) (C : Ctx) : CI := ⟨f, fun args H K => runBody C fn args H fun v H' => K (zv v) H', false, false⟩
def pickL0 (i : Nat) (H : List Ent) (K : Dk → Ls → List Nat → Prop) : Prop :=
  match H[i]? with
  | some (.blk _ [_, br, .ptr j 0, .int .i64 t, .int .i64 o, .int .i64 n, .int .i64 sz, .int .i64 sm, dt, .int .i64 la, .int .i64 ma, .own r _]) =>
    (match br.asB, dt.asB, H[r]?, H[j]? with
    | some b, some c, some (.row _ .str _ tx), some (.obj _ [_, dn, .int .i64 lf, .int .i64 tu, .int .i64 op] (.arr 31 (.arr 127 (.int .u8))) bl [.tab m]) => (match dn.asB, H[m]? with
      | some d, some (.tab true (.arr 127 (.int .u8)) sy) => K ⟨d, lf, tu, op, bl, sy⟩ ⟨b, t, o, (n, sz, sm), c, (la, ma, tx)⟩ [j, m, i, r]
      | _, _ => False)
    | _, _, _, _ => False)
  | _ => False
@[reducible] def pickL : Pick (Dk × Ls) := fun args H K => match args with
  | [.c (.ptr i 0)] => pickL0 i H fun d l js => K (d, l) js
  | _ => False
@[reducible] def pickLs : Pick (Dk × Ls × ByteArray) := fun args H K => match args with
  | [.c (.ptr i 0), .c (.str s)] => pickL0 i H fun d l js => K (d, l, s) js
  | _ => False
@[reducible] def pickLi : Pick (Dk × Ls × Int) := fun args H K => match args with
  | [.c (.ptr i 0), .c (.int .i64 n)] => pickL0 i H fun d l js => K (d, l, n) js
  | _ => False
def Works (d : Dk) (l : Ls) : Prop := l.br = false ∧ l.turn = d.turn ∧ l.opened = d.opened
instance (d : Dk) (l : Ls) : Decidable (Works d l) := by unfold Works; infer_instance
@[reducible] def i49 : CI := inz 49 Tryd.f49 (cx [] [])
@[reducible] def i50 : CI := inl 50 Tryd.f50 (cx [] [])
def syncL (d : Dk) (l : Ls) : Int × Dk × Ls :=
  bif decide (Works d l) then
    (bif l.dirty then ((writeL d l).1, (writeL d l).2.1, ⟨decide (¬ (writeL d l).1 = 0), (writeL d l).2.2.turn, (writeL d l).2.2.opened, (writeL d l).2.2.r, (writeL d l).2.2.dirty, (writeL d l).2.2.c⟩) else (0, d, l))
  else (6, d, l)
@[reducible] def H26 : HC where
  f := 26
  X := Dk × Ls
  Hs x := [dE x.1 1, mE x.1, lE x.2 0 3 0, sRow 0 x.2.c.2.2]
  ags _ := [.c (.ptr 2 0)]
  Pre x := DkOK x.1 ∧ CnOK x.2.c ∧ 0 ≤ x.2.r.1 ∧ x.2.r.1 ≤ 1000000
  res x := .c (.int .i64 (syncL x.1 x.2).1)
  out x := [dE (syncL x.1 x.2).2.1 4, .dead, lE (syncL x.1 x.2).2.2 0 3 0, sRow 0 x.2.c.2.2, mE (syncL x.1 x.2).2.1]
  fr _ := false
  cn := [mAt]
@[reducible] def C26 : Ctx := cx [i49, H53.ci pickL] []
def g26 (d : Dk) (l : Ls) : Prop := HVC C26 Tryd.f26 H26 (d, l)
def addC (tx : List ByteArray) (s : ByteArray) : List ByteArray := (tx ++ [s]).drop ((tx.length + 1) - 40)
def addL (l : Ls) (s : ByteArray) : Ls := ⟨l.br, l.turn, l.opened, l.r, true, (l.c.1 + 1, l.c.2.1, addC l.c.2.2 s)⟩
def refE (d : Dk) (l : Ls) : Int := bif decide (Works d l) then 1 else 6
@[reducible] def H14r : HC where
  f := 14
  X := Dk × Ls × ByteArray
  Hs x := [dE x.1 1, mE x.1, lE x.2.1 0 3 0, sRow 0 x.2.1.c.2.2]
  ags x := [.c (.ptr 2 0), .c (.str x.2.2)]
  Pre x := ¬ (Works x.1 x.2.1 ∧ x.2.2.size ≤ 24) ∧ x.2.2.size ≤ 1000000000
  res x := .tup [(false, [.int .i64 0]), (false, [.int .i64 (refE x.1 x.2.1)])]
  out x := [dE x.1 1, mE x.1, lE x.2.1 0 3 0, sRow 0 x.2.1.c.2.2]
  fr _ := false
@[reducible] def H14a : HC where
  f := 14
  X := Dk × Ls × ByteArray
  Hs x := [dE x.1 1, mE x.1, lE x.2.1 0 3 0, sRow 0 x.2.1.c.2.2]
  ags x := [.c (.ptr 2 0), .c (.str x.2.2)]
  Pre x := Works x.1 x.2.1 ∧ x.2.2.size ≤ 24 ∧ x.2.1.c.2.2.length < 40 ∧ 0 ≤ x.2.1.c.1 ∧ x.2.1.c.1 ≤ 1000000
  res x := .tup [(false, [.int .i64 (x.2.1.c.1 + 1)]), (false, [.int .i64 0])]
  out x := [dE x.1 1, mE x.1, lE (addL x.2.1 x.2.2) 0 3 1, sRow 1 (addL x.2.1 x.2.2).c.2.2]
  fr k := Nat.beq k 3
@[reducible] def H14b : HC where
  f := 14
  X := Dk × Ls × ByteArray
  Hs x := [dE x.1 1, mE x.1, lE x.2.1 0 3 0, sRow 0 x.2.1.c.2.2]
  ags x := [.c (.ptr 2 0), .c (.str x.2.2)]
  Pre x := Works x.1 x.2.1 ∧ x.2.2.size ≤ 24 ∧ x.2.1.c.2.2.length = 40 ∧ 0 ≤ x.2.1.c.1 ∧ x.2.1.c.1 ≤ 1000000
  res x := .tup [(false, [.int .i64 (x.2.1.c.1 + 1)]), (false, [.int .i64 0])]
  out x := [dE x.1 1, mE x.1, lE (addL x.2.1 x.2.2) 0 4 1, .dead, sRow 1 (addL x.2.1 x.2.2).c.2.2]
  fr _ := false
  cn := [.cell 2 11]
@[reducible] def C14 : Ctx := cx [i49, i50] []
def g14r (d : Dk) (l : Ls) (s : ByteArray) : Prop := HVC C14 Tryd.f14 H14r (d, l, s)
def g14a (d : Dk) (l : Ls) (s : ByteArray) : Prop := HVC C14 Tryd.f14 H14a (d, l, s)
def g14b (d : Dk) (l : Ls) (s : ByteArray) : Prop := HVC C14 Tryd.f14 H14b (d, l, s)
@[reducible] def i14 : CI := caseCI pickLs (fun x => Works x.1 x.2.1 ∧ x.2.2.size ≤ 24) (caseCI pickLs (fun x => x.2.1.c.2.2.length < 40) (H14a.ci pickLs) (H14b.ci pickLs)) (H14r.ci pickLs)
def markL (d : Dk) (l : Ls) (n : Int) : Int × Ls :=
  bif decide (Works d l) then (bif decide (n < 0) || decide (l.c.1 < n) then (1, l) else (0, ⟨l.br, l.turn, l.opened, l.r, true, (l.c.1, n, l.c.2.2)⟩)) else (6, l)
@[reducible] def H48 : HC where
  f := 48
  X := Dk × Ls × Int
  Hs x := [dE x.1 1, mE x.1, lE x.2.1 0 3 0, sRow 0 x.2.1.c.2.2]
  ags x := [.c (.ptr 2 0), .c (.int .i64 x.2.2)]
  Pre x := True
  res x := .c (.int .i64 (markL x.1 x.2.1 x.2.2).1)
  out x := [dE x.1 1, mE x.1, lE (markL x.1 x.2.1 x.2.2).2 0 3 0, sRow 0 x.2.1.c.2.2]
  fr _ := false
@[reducible] def C48 : Ctx := cx [i49] []
def g48 (d : Dk) (l : Ls) (n : Int) : Prop := HVC C48 Tryd.f48 H48 (d, l, n)
def entsN (l : Cn) : Nat → List (Int × ByteArray)
  | 0 => []
  | k + 1 => entsN l k ++ [(l.1 - (l.2.2.length : Int) + 1 + (k : Int), l.2.2.getD k ByteArray.empty)]
@[reducible] def eRow (v : Nat) (l : List (Int × ByteArray)) : Ent := .row 40 tEn v l
@[reducible] def H15 : HC where
  f := 15
  X := Dk × Ls
  Hs x := [dE x.1 1, mE x.1, lE x.2 0 3 0, sRow 0 x.2.c.2.2]
  ags _ := [.c (.ptr 2 0)]
  Pre x := x.2.c.2.2.length ≤ 40 ∧ 0 ≤ x.2.c.1 ∧ x.2.c.1 ≤ 1000000000
  res x := .tup [(false, [.own 4 1]), (false, [.int .i64 0])]
  out x := [dE x.1 1, mE x.1, lE x.2 0 3 0, sRow 0 x.2.c.2.2, eRow 1 (entsN x.2.c x.2.c.2.2.length)]
  fr _ := false
  cn := [.comp 0 0]
@[reducible] def A15 (c : Cn) (R : Nat) : Ann where
  τ := Nat
  pre := [(4, 40, tEn)]
  preC := []
  keep := [0, 2, 3, 20, 21]
  slots k := [(22, .c (.int .i64 k)), (4, .c (.own R 1))]
  ents k := [(R, eRow 0 (entsN c k))]
  ok k := k ≤ c.2.2.length
  m k := c.2.2.length - k
@[reducible] def C15 (x : Dk × Ls) : Ctx := cx [] [(0, fun st => A15 x.2.c st.h.length)]
def g15 (d : Dk) (l : Ls) : Prop := HVC (C15 (d, l)) Tryd.f15 H15 (d, l)
@[reducible] def i16 : CI := inl 16 Tryd.f16 (cx [] [])
@[reducible] def i17 : CI := inl 17 Tryd.f17 (cx [] [])
@[reducible] def i24 : CI := inl 24 Tryd.f24 (cx [] [])
@[reducible] def i25 : CI := inl 25 Tryd.f25 (cx [] [])
@[reducible] def pick52 : Pick X52 := fun args H K => match args with
  | [.c (.ptr i 0)] => (match glIx H 0, H[i]? with
    | some q, some (.obj _ [_, dn, .int .i64 l, .int .i64 t, .int .i64 o] (.arr 31 (.arr 127 (.int .u8))) bl [.tab m]) => (match dn.asB, H[m]?, H[q]? with
      | some b, some (.tab true (.arr 127 (.int .u8)) sy), some (.gl 0 gq (.iface ty u)) => ∃ (r : Rt) (c : Cn), K ⟨(gq, ty), u, ⟨b, l, t, o, bl, sy⟩, r, c⟩ [i, m, q]
      | _, _, _ => False)
    | _, _ => False)
  | _ => False
@[reducible] def i18 : CI := inz 18 Tryd.f18 (cx [i51, H52.ci pick52, H29.ci pickD1] [])
@[reducible] def pick19 : Pick Unit := fun _ _ K => K () []
end
end Go.SX.Pe

/- Printed by VC.lean: what the executor asks. -/
namespace Go.SX.Pe
open Go Go.Proofs
def g26_q1 (d : Dk) (l : Ls) : Prop :=
 ((True ∧ d.down = (syncL d l).snd.fst.down ∧ d.left = (syncL d l).snd.fst.left ∧ d.turn = (syncL d l).snd.fst.turn ∧ d.opened = (syncL d l).snd.fst.opened ∧ True) ∧
 (True ∧ True) ∧ d.bl = (syncL d l).snd.fst.bl) ∧
 True ∧
 (True ∧
 l.br = (syncL d l).snd.snd.br ∧
 True ∧
 l.turn = (syncL d l).snd.snd.turn ∧
 l.opened = (syncL d l).snd.snd.opened ∧
 l.r.fst = (syncL d l).snd.snd.r.fst ∧
 l.r.snd.fst = (syncL d l).snd.snd.r.snd.fst ∧
 l.r.snd.snd = (syncL d l).snd.snd.r.snd.snd ∧
 l.dirty = (syncL d l).snd.snd.dirty ∧ l.c.fst = (syncL d l).snd.snd.c.fst ∧ l.c.snd.fst = (syncL d l).snd.snd.c.snd.fst ∧ True ∧ True) ∧
 l.c.snd.snd = l.c.snd.snd ∧ d.sy = (syncL d l).snd.fst.sy ∧ True
def g26_q2 (d : Dk) (l : Ls) : Prop :=
 (6 : Int) = (syncL d l).fst ∧ g26_q1 d l
theorem g26_eq (d : Dk) (l : Ls) : g26 d l = (
 ((!l.br) = true →
 (!l.br) = true ∧
 (!l.br) = true ∧
 (!l.br) = true ∧
 (l.turn = d.turn →
 l.turn = d.turn ∧
 l.turn = d.turn ∧
 l.turn = d.turn ∧
 (¬l.opened = d.opened → ¬l.opened = d.opened ∧ ¬l.opened = d.opened ∧ g26_q2 d l) ∧
 (¬¬l.opened = d.opened →
 ¬¬l.opened = d.opened ∧
 ¬¬l.opened = d.opened ∧
 ((!l.dirty) = true → (!l.dirty) = true ∧ (!l.dirty) = true ∧ (0 : Int) = (syncL d l).fst ∧ g26_q1 d l) ∧
 ((!l.dirty) = false →
 (!l.dirty) = false ∧
 (!l.dirty) = false ∧
 True ∧
 (((True ∧ d.down = d.down ∧ d.left = d.left ∧ d.turn = d.turn ∧ d.opened = d.opened ∧ True) ∧ (True ∧ True) ∧ d.bl = d.bl) ∧
 d.sy = d.sy ∧
 (True ∧
 l.br = l.br ∧
 True ∧
 l.turn = l.turn ∧
 l.opened = l.opened ∧
 l.r.fst = l.r.fst ∧
 l.r.snd.fst = l.r.snd.fst ∧
 l.r.snd.snd = l.r.snd.snd ∧ l.dirty = l.dirty ∧ l.c.fst = l.c.fst ∧ l.c.snd.fst = l.c.snd.fst ∧ True ∧ True) ∧
 l.c.snd.snd = l.c.snd.snd ∧ True) ∧
 (True ∧ True) ∧
 (DkOK d ∧
 (((0 : Int) ≤ l.c.fst ∧ l.c.fst < (281474976710656 : Int)) ∧
 ((0 : Int) ≤ l.c.snd.fst ∧ l.c.snd.fst < (281474976710656 : Int)) ∧
 l.c.snd.snd.length ≤ (40 : Nat) ∧ ∀ (s : ByteArray), s ∈ l.c.snd.snd → s.size ≤ (24 : Nat)) ∧
 (0 : Int) ≤ l.r.fst ∧ l.r.fst ≤ (1000000 : Int)) ∧
 True ∧
 (writeL d l).fst = (syncL d l).fst ∧
 ((True ∧
 (writeL d l).snd.fst.down = (syncL d l).snd.fst.down ∧
 (writeL d l).snd.fst.left = (syncL d l).snd.fst.left ∧
 (writeL d l).snd.fst.turn = (syncL d l).snd.fst.turn ∧ (writeL d l).snd.fst.opened = (syncL d l).snd.fst.opened ∧ True) ∧
 (True ∧ True) ∧ (writeL d l).snd.fst.bl = (syncL d l).snd.fst.bl) ∧
 True ∧
 (True ∧
 (decide ¬(writeL d l).fst = (0 : Int)) = (syncL d l).snd.snd.br ∧
 True ∧
 (writeL d l).snd.snd.turn = (syncL d l).snd.snd.turn ∧
 (writeL d l).snd.snd.opened = (syncL d l).snd.snd.opened ∧
 (writeL d l).snd.snd.r.fst = (syncL d l).snd.snd.r.fst ∧
 (writeL d l).snd.snd.r.snd.fst = (syncL d l).snd.snd.r.snd.fst ∧
 (writeL d l).snd.snd.r.snd.snd = (syncL d l).snd.snd.r.snd.snd ∧
 (writeL d l).snd.snd.dirty = (syncL d l).snd.snd.dirty ∧
 (writeL d l).snd.snd.c.fst = (syncL d l).snd.snd.c.fst ∧
 (writeL d l).snd.snd.c.snd.fst = (syncL d l).snd.snd.c.snd.fst ∧ True ∧ True) ∧
 l.c.snd.snd = l.c.snd.snd ∧ (writeL d l).snd.fst.sy = (syncL d l).snd.fst.sy ∧ True))) ∧
 (¬l.turn = d.turn → ¬l.turn = d.turn ∧ ¬l.turn = d.turn ∧ ¬l.turn = d.turn ∧ g26_q2 d l)) ∧
 ((!l.br) = false → (!l.br) = false ∧ (!l.br) = false ∧ (!l.br) = false ∧ g26_q2 d l)) := by
 kernel_rfl
def g14r_q1 (d : Dk) (l : Ls) (_s : ByteArray) : Prop :=
 ((True ∧ d.down = d.down ∧ d.left = d.left ∧ d.turn = d.turn ∧ d.opened = d.opened ∧ True) ∧ (True ∧ True) ∧ d.bl = d.bl) ∧
 d.sy = d.sy ∧
 (True ∧
 l.br = l.br ∧
 True ∧
 l.turn = l.turn ∧
 l.opened = l.opened ∧
 l.r.fst = l.r.fst ∧ l.r.snd.fst = l.r.snd.fst ∧ l.r.snd.snd = l.r.snd.snd ∧ l.dirty = l.dirty ∧ l.c.fst = l.c.fst ∧ l.c.snd.fst = l.c.snd.fst ∧ True ∧ True) ∧
 l.c.snd.snd = l.c.snd.snd ∧ True
def g14r_q2 (d : Dk) (l : Ls) (s : ByteArray) : Prop :=
 (((0 : Int) = (0 : Int) ∧ True) ∧ ((6 : Int) = refE d l ∧ True) ∧ True) ∧ g14r_q1 d l s
def g14a_q1 (d : Dk) (l : Ls) (s : ByteArray) : Prop :=
 ((True ∧ d.down = d.down ∧ d.left = d.left ∧ d.turn = d.turn ∧ d.opened = d.opened ∧ True) ∧ (True ∧ True) ∧ d.bl = d.bl) ∧
 d.sy = d.sy ∧
 (True ∧
 l.br = l.br ∧
 True ∧
 l.turn = l.turn ∧
 l.opened = l.opened ∧
 l.r.fst = l.r.fst ∧
 l.r.snd.fst = l.r.snd.fst ∧ l.r.snd.snd = l.r.snd.snd ∧ l.dirty = true ∧ l.c.fst = l.c.fst + (1 : Int) ∧ l.c.snd.fst = l.c.snd.fst ∧ True ∧ True) ∧
 l.c.snd.snd = addC l.c.snd.snd s ∧ True
def g14a_q2 (d : Dk) (l : Ls) (s : ByteArray) : Prop :=
 (((0 : Int) = l.c.fst + (1 : Int) ∧ True) ∧ ((6 : Int) = (0 : Int) ∧ True) ∧ True) ∧ g14a_q1 d l s
def g14a_q3 (_d : Dk) (l : Ls) (_s : ByteArray) : Prop :=
 (l.c.fst + (1 : Int) = l.c.fst + (1 : Int) ∧ True) ∧ ((0 : Int) = (0 : Int) ∧ True) ∧ True
theorem g14a_eq (d : Dk) (l : Ls) (s : ByteArray) : g14a d l s = (
 ((!l.br) = true →
 (!l.br) = true ∧
 (!l.br) = true ∧
 (!l.br) = true ∧
 (l.turn = d.turn →
 l.turn = d.turn ∧
 l.turn = d.turn ∧
 l.turn = d.turn ∧
 (¬l.opened = d.opened → ¬l.opened = d.opened ∧ ¬l.opened = d.opened ∧ g14a_q2 d l s) ∧
 (¬¬l.opened = d.opened →
 ¬¬l.opened = d.opened ∧
 ¬¬l.opened = d.opened ∧
 ((24 : Int) < (↑s.size : Int) →
 (24 : Int) < (↑s.size : Int) ∧
 (24 : Int) < (↑s.size : Int) ∧ (((0 : Int) = l.c.fst + (1 : Int) ∧ True) ∧ ((1 : Int) = (0 : Int) ∧ True) ∧ True) ∧ g14a_q1 d l s) ∧
 (¬(24 : Int) < (↑s.size : Int) →
 ¬(24 : Int) < (↑s.size : Int) ∧
 ¬(24 : Int) < (↑s.size : Int) ∧
 Small (l.c.snd.snd.length + ((0 : Nat) + (1 : Nat))) ∧
 Fits IntKind.i64 (l.c.fst + (1 : Int)) ∧
 ((40 : Int) < (↑(l.c.snd.snd ++ [s]).length : Int) →
 (40 : Int) < (↑(l.c.snd.snd ++ [s]).length : Int) ∧
 ((0 : Int) ≤ (1 : Int) ∧ (1 : Int) ≤ (↑(l.c.snd.snd ++ [s]).length : Int)) ∧
 Int.toNat (1 : Int) < (l.c.snd.snd ++ [s]).length ∧
 Int.toNat (1 : Int) < (l.c.snd.snd ++ [s]).length ∧
 Small ((0 : Nat) + (List.drop (Int.toNat (1 : Int)) (l.c.snd.snd ++ [s])).length) ∧
 g14a_q3 d l s ∧
 ((True ∧ d.down = d.down ∧ d.left = d.left ∧ d.turn = d.turn ∧ d.opened = d.opened ∧ True) ∧ (True ∧ True) ∧ d.bl = d.bl) ∧
 d.sy = d.sy ∧
 (True ∧
 l.br = l.br ∧
 True ∧
 l.turn = l.turn ∧
 l.opened = l.opened ∧
 l.r.fst = l.r.fst ∧
 l.r.snd.fst = l.r.snd.fst ∧
 l.r.snd.snd = l.r.snd.snd ∧
 true = true ∧ l.c.fst + (1 : Int) = l.c.fst + (1 : Int) ∧ l.c.snd.fst = l.c.snd.fst ∧ False ∧ True) ∧
 l.c.snd.snd ++ [s] = addC l.c.snd.snd s ∧ True) ∧
 (¬(40 : Int) < (↑(l.c.snd.snd ++ [s]).length : Int) →
 ¬(40 : Int) < (↑(l.c.snd.snd ++ [s]).length : Int) ∧
 g14a_q3 d l s ∧
 ((True ∧ d.down = d.down ∧ d.left = d.left ∧ d.turn = d.turn ∧ d.opened = d.opened ∧ True) ∧ (True ∧ True) ∧ d.bl = d.bl) ∧
 d.sy = d.sy ∧
 (True ∧
 l.br = l.br ∧
 True ∧
 l.turn = l.turn ∧
 l.opened = l.opened ∧
 l.r.fst = l.r.fst ∧
 l.r.snd.fst = l.r.snd.fst ∧
 l.r.snd.snd = l.r.snd.snd ∧
 true = true ∧ l.c.fst + (1 : Int) = l.c.fst + (1 : Int) ∧ l.c.snd.fst = l.c.snd.fst ∧ True ∧ True) ∧
 l.c.snd.snd ++ [s] = addC l.c.snd.snd s ∧ True)))) ∧
 (¬l.turn = d.turn → ¬l.turn = d.turn ∧ ¬l.turn = d.turn ∧ ¬l.turn = d.turn ∧ g14a_q2 d l s)) ∧
 ((!l.br) = false → (!l.br) = false ∧ (!l.br) = false ∧ (!l.br) = false ∧ g14a_q2 d l s)) := by
 kernel_rfl
def g14b_q1 (d : Dk) (l : Ls) (_s : ByteArray) : Prop :=
 ((True ∧ d.down = d.down ∧ d.left = d.left ∧ d.turn = d.turn ∧ d.opened = d.opened ∧ True) ∧ (True ∧ True) ∧ d.bl = d.bl) ∧
 d.sy = d.sy ∧
 (True ∧
 l.br = l.br ∧
 True ∧
 l.turn = l.turn ∧
 l.opened = l.opened ∧
 l.r.fst = l.r.fst ∧
 l.r.snd.fst = l.r.snd.fst ∧ l.r.snd.snd = l.r.snd.snd ∧ l.dirty = true ∧ l.c.fst = l.c.fst + (1 : Int) ∧ l.c.snd.fst = l.c.snd.fst ∧ True ∧ True) ∧
 True ∧ False ∧ True
def g14b_q2 (d : Dk) (l : Ls) (s : ByteArray) : Prop :=
 (((0 : Int) = l.c.fst + (1 : Int) ∧ True) ∧ ((6 : Int) = (0 : Int) ∧ True) ∧ True) ∧ g14b_q1 d l s
def g14b_q3 (_d : Dk) (l : Ls) (_s : ByteArray) : Prop :=
 (l.c.fst + (1 : Int) = l.c.fst + (1 : Int) ∧ True) ∧ ((0 : Int) = (0 : Int) ∧ True) ∧ True
def g14b_q4 (_d : Dk) (l : Ls) (_s : ByteArray) : Prop :=
 True ∧
 l.br = l.br ∧
 True ∧
 l.turn = l.turn ∧
 l.opened = l.opened ∧
 l.r.fst = l.r.fst ∧
 l.r.snd.fst = l.r.snd.fst ∧ l.r.snd.snd = l.r.snd.snd ∧ true = true ∧ l.c.fst + (1 : Int) = l.c.fst + (1 : Int) ∧ l.c.snd.fst = l.c.snd.fst ∧ True ∧ True
def g48_q1 (d : Dk) (l : Ls) (n : Int) : Prop :=
 ((True ∧ d.down = d.down ∧ d.left = d.left ∧ d.turn = d.turn ∧ d.opened = d.opened ∧ True) ∧ (True ∧ True) ∧ d.bl = d.bl) ∧
 d.sy = d.sy ∧
 (True ∧
 l.br = (markL d l n).snd.br ∧
 True ∧
 l.turn = (markL d l n).snd.turn ∧
 l.opened = (markL d l n).snd.opened ∧
 l.r.fst = (markL d l n).snd.r.fst ∧
 l.r.snd.fst = (markL d l n).snd.r.snd.fst ∧
 l.r.snd.snd = (markL d l n).snd.r.snd.snd ∧
 l.dirty = (markL d l n).snd.dirty ∧ l.c.fst = (markL d l n).snd.c.fst ∧ l.c.snd.fst = (markL d l n).snd.c.snd.fst ∧ True ∧ True) ∧
 l.c.snd.snd = l.c.snd.snd ∧ True
def g48_q2 (d : Dk) (l : Ls) (n : Int) : Prop :=
 (6 : Int) = (markL d l n).fst ∧ g48_q1 d l n
def g48_q3 (d : Dk) (l : Ls) (n : Int) : Prop :=
 (1 : Int) = (markL d l n).fst ∧ g48_q1 d l n
theorem g48_eq (d : Dk) (l : Ls) (n : Int) : g48 d l n = (
 ((!l.br) = true →
 (!l.br) = true ∧
 (!l.br) = true ∧
 (!l.br) = true ∧
 (l.turn = d.turn →
 l.turn = d.turn ∧
 l.turn = d.turn ∧
 l.turn = d.turn ∧
 (¬l.opened = d.opened → ¬l.opened = d.opened ∧ ¬l.opened = d.opened ∧ g48_q2 d l n) ∧
 (¬¬l.opened = d.opened →
 ¬¬l.opened = d.opened ∧
 ¬¬l.opened = d.opened ∧
 (n < (0 : Int) → n < (0 : Int) ∧ n < (0 : Int) ∧ g48_q3 d l n) ∧
 (¬n < (0 : Int) →
 ¬n < (0 : Int) ∧
 ¬n < (0 : Int) ∧
 (l.c.fst < n → l.c.fst < n ∧ l.c.fst < n ∧ l.c.fst < n ∧ g48_q3 d l n) ∧
 (¬l.c.fst < n →
 ¬l.c.fst < n ∧
 ¬l.c.fst < n ∧
 ¬l.c.fst < n ∧
 (0 : Int) = (markL d l n).fst ∧
 ((True ∧ d.down = d.down ∧ d.left = d.left ∧ d.turn = d.turn ∧ d.opened = d.opened ∧ True) ∧ (True ∧ True) ∧ d.bl = d.bl) ∧
 d.sy = d.sy ∧
 (True ∧
 l.br = (markL d l n).snd.br ∧
 True ∧
 l.turn = (markL d l n).snd.turn ∧
 l.opened = (markL d l n).snd.opened ∧
 l.r.fst = (markL d l n).snd.r.fst ∧
 l.r.snd.fst = (markL d l n).snd.r.snd.fst ∧
 l.r.snd.snd = (markL d l n).snd.r.snd.snd ∧
 true = (markL d l n).snd.dirty ∧
 l.c.fst = (markL d l n).snd.c.fst ∧ n = (markL d l n).snd.c.snd.fst ∧ True ∧ True) ∧
 l.c.snd.snd = l.c.snd.snd ∧ True)))) ∧
 (¬l.turn = d.turn → ¬l.turn = d.turn ∧ ¬l.turn = d.turn ∧ ¬l.turn = d.turn ∧ g48_q2 d l n)) ∧
 ((!l.br) = false → (!l.br) = false ∧ (!l.br) = false ∧ (!l.br) = false ∧ g48_q2 d l n)) := by
 kernel_rfl
def g15_q1 (_d : Dk) (l : Ls) : Prop :=
 True ∧
 l.br = l.br ∧
 True ∧
 l.turn = l.turn ∧
 l.opened = l.opened ∧
 l.r.fst = l.r.fst ∧ l.r.snd.fst = l.r.snd.fst ∧ l.r.snd.snd = l.r.snd.snd ∧ l.dirty = l.dirty ∧ l.c.fst = l.c.fst ∧ l.c.snd.fst = l.c.snd.fst ∧ True ∧ True
def g15_q2 (_d : Dk) (l : Ls) : Prop :=
 True ∧
 (↑l.c.snd.snd.length : Int) = (↑l.c.snd.snd.length : Int) ∧
 True ∧ (0 : Int) = (0 : Int) ∧ Value.slice none (0 : Nat) (0 : Nat) = Value.slice none (0 : Nat) (0 : Nat) ∧ True ∧ True
theorem g15_eq (d : Dk) (l : Ls) : g15 d l = (
 (∃ (x0 : Nat),
 x0 ≤ l.c.snd.snd.length ∧
 (((True ∧ d.down = d.down ∧ d.left = d.left ∧ d.turn = d.turn ∧ d.opened = d.opened ∧ True) ∧ (True ∧ True) ∧ d.bl = d.bl) ∧
 d.sy = d.sy ∧ g15_q1 d l ∧ l.c.snd.snd = l.c.snd.snd ∧ nilT (Int × ByteArray) = entsN l.c x0 ∧ True) ∧
 (0 : Int) = (↑x0 : Int) ∧ g15_q2 d l) ∧
 ∀ (x : Nat),
 x ≤ l.c.snd.snd.length →
 ((↑x : Int) < (↑l.c.snd.snd.length : Int) →
 (↑x : Int) < (↑l.c.snd.snd.length : Int) ∧
 ((0 : Int) ≤ (↑x : Int) ∧ (↑x : Int) < (↑l.c.snd.snd.length : Int)) ∧
 Fits IntKind.i64 (l.c.fst - (↑l.c.snd.snd.length : Int)) ∧
 Fits IntKind.i64 (l.c.fst - (↑l.c.snd.snd.length : Int) + (1 : Int)) ∧
 Fits IntKind.i64 (l.c.fst - (↑l.c.snd.snd.length : Int) + (1 : Int) + (↑x : Int)) ∧
 Small ((entsN l.c x).length + ((0 : Nat) + (1 : Nat))) ∧
 Fits IntKind.i64 ((↑x : Int) + (1 : Int)) ∧
 ∃ (x' : Nat),
 x' ≤ l.c.snd.snd.length ∧
 l.c.snd.snd.length - x' < l.c.snd.snd.length - x ∧
 (((True ∧ d.down = d.down ∧ d.left = d.left ∧ d.turn = d.turn ∧ d.opened = d.opened ∧ True) ∧ (True ∧ True) ∧ d.bl = d.bl) ∧
 d.sy = d.sy ∧
 g15_q1 d l ∧
 l.c.snd.snd = l.c.snd.snd ∧
 entsN l.c x ++ [(l.c.fst - (↑l.c.snd.snd.length : Int) + (1 : Int) + (↑x : Int), l.c.snd.snd.getD (↑x : Int).toNat ByteArray.empty)] =
 entsN l.c x' ∧
 True) ∧
 (↑x : Int) + (1 : Int) = (↑x' : Int) ∧ g15_q2 d l) ∧
 (¬(↑x : Int) < (↑l.c.snd.snd.length : Int) →
 ¬(↑x : Int) < (↑l.c.snd.snd.length : Int) ∧
 ((True ∧ True) ∧ ((0 : Int) = (0 : Int) ∧ True) ∧ True) ∧
 ((True ∧ d.down = d.down ∧ d.left = d.left ∧ d.turn = d.turn ∧ d.opened = d.opened ∧ True) ∧ (True ∧ True) ∧ d.bl = d.bl) ∧
 d.sy = d.sy ∧ g15_q1 d l ∧ l.c.snd.snd = l.c.snd.snd ∧ entsN l.c x = entsN l.c l.c.snd.snd.length ∧ True)) := by
 kernel_rfl
end Go.SX.Pe

/- Chapter 10: the list's functions, proved. -/
namespace Go.SX.Pe
open Go Go.Proofs
theorem caseCI_ok {X : Type} {pick : Pick X} {q : X → Prop} {c1 c2 : CI} (hp : ∀ args H K, pick args H K → ∃ x js, K x js) (h1 : c1.OK Tryd.prog) (h2 : c2.OK Tryd.prog) (hf : c1.f = c2.f) : (caseCI pick q c1 c2).OK Tryd.prog := by
  refine ⟨⟨h1.1.1, fun B X w0 H g w args vals K hsp hs ha => ?_⟩, fun h => (by cases h)⟩
  obtain ⟨x, js, k1, k2⟩ := hp _ _ _ hsp
  by_cases hq : q x
  · exact h1.1.2 B X w0 H g w args vals K (k1 hq) hs ha
  · have h2' : SpecOK Tryd.prog c1.f c2.s := by rw [hf]; exact h2.1
    exact h2'.2 B X w0 H g w args vals K (k2 hq) hs ha
theorem zc_rep {w : World} {H : List Ent} {g : Gh} {x : SC} {v : Value} (h : x.Rep w H g v) : (zc x).Rep w H g v := by cases x <;> exact h
theorem zcs_len : (l : List SC) → (zcs l).length = l.length
  | [] => rfl
  | _ :: r => by simp [zcs, zcs_len r]
theorem zcs_get : (l : List SC) → (j : Nat) → {c : SC} → (zcs l)[j]? = some c → ∃ q, l[j]? = some q ∧ c = zc q
  | [], j, c, h => by simp [zcs] at h
  | q :: r, 0, c, h => by simp only [zcs, List.getElem?_cons_zero, Option.some.injEq] at h; exact ⟨q, by simp, h.symm⟩
  | q :: r, j + 1, c, h => by
    have h : (zcs r)[j]? = some c := by simpa only [zcs, List.getElem?_cons_succ] using h
    obtain ⟨q', h1, h2⟩ := zcs_get r j h
    exact ⟨q', by simpa using h1, h2⟩
theorem zcs_rep {w : World} {H : List Ent} {g : Gh} {l : List SC} {vs : List Value} (h : Reps w H g l vs) : Reps w H g (zcs l) vs := by
  refine ⟨by rw [zcs_len]; exact h.1, fun j c v hc hv => ?_⟩
  obtain ⟨q, q1, rfl⟩ := zcs_get l j hc
  exact zc_rep (h.2 j q v q1 hv)
theorem zps_len : (l : List (Bool × List SC)) → (zps l).length = l.length
  | [] => rfl
  | _ :: r => by simp [zps, zps_len r]
theorem zps_get : (l : List (Bool × List SC)) → (j : Nat) → {p : Bool × List SC} → (zps l)[j]? = some p → ∃ q, l[j]? = some q ∧ p = (q.1, zcs q.2)
  | [], j, p, h => by simp [zps] at h
  | q :: r, 0, p, h => by simp [zps] at h; exact ⟨q, by simp, h.symm⟩
  | q :: r, j + 1, p, h => by
    have h : (zps r)[j]? = some p := by simpa [zps] using h
    obtain ⟨q', h1, h2⟩ := zps_get r j h
    exact ⟨q', by simpa using h1, h2⟩
theorem zv_rep {w : World} {H : List Ent} {g : Gh} {x : SV} {v : Value} (h : x.Rep w H g v) : (zv x).Rep w H g v := by
  cases x with
  | c x => exact zc_rep h
  | agg l => exact h
  | dt t x => exact h
  | obj a t x b => exact h
  | tup l =>
    obtain ⟨vs, h1, h2, h3⟩ := h
    refine ⟨vs, h1, by rw [zps_len]; exact h2, fun j p u hp hu => ?_⟩
    obtain ⟨q, q1, rfl⟩ := zps_get l j hp
    obtain ⟨us, k1, k2, k3⟩ := h3 j q u q1 hu
    exact ⟨us, zcs_rep k1, k2, k3⟩
theorem inz_ok {f : FuncId} {fn : Func} {C : Ctx} (hC : CtxOK Tryd.prog C) (hf : Tryd.prog.funcs[f]? = some fn) (hn : (fn.name == "runtime.NumGoroutine") = false) (hb : fn.body.isNone = false) : (inz f fn C).OK Tryd.prog := by
  obtain ⟨h1, h2⟩ := (inl_ok hC hf hn hb).1
  refine ⟨⟨h1, fun B X w0 H g w args vals K hsp hs ha => (h2 B X w0 H g w args vals _ hsp hs ha).mono ?_⟩, fun h => (by cases h)⟩
  rintro e w' ⟨v, he, sv, H', g', k1, k2, k3, k4⟩
  exact ⟨v, he, zv sv, H', g', k1, k2, k3, zv_rep k4⟩
theorem pickL0_ok {i : Nat} {H : List Ent} {K : Dk → Ls → List Nat → Prop} (h : pickL0 i H K) : ∃ d l js, K d l js := by
  unfold pickL0 at h
  split at h
  · split at h
    · split at h
      · exact ⟨_, _, _, h⟩
      · exact h.elim
    · exact h.elim
  · exact h.elim
theorem pickL_ok : ∀ args H K, pickL args H K → ∃ x js, K x js := by
  intro args H K h
  unfold pickL at h
  split at h
  · obtain ⟨d, l, js, h⟩ := pickL0_ok h; exact ⟨_, _, h⟩
  · exact h.elim
theorem pickLs_ok : ∀ args H K, pickLs args H K → ∃ x js, K x js := by
  intro args H K h
  unfold pickLs at h
  split at h
  · obtain ⟨d, l, js, h⟩ := pickL0_ok h; exact ⟨_, _, h⟩
  · exact h.elim
theorem pickLi_ok : ∀ args H K, pickLi args H K → ∃ x js, K x js := by
  intro args H K h
  unfold pickLi at h
  split at h
  · obtain ⟨d, l, js, h⟩ := pickL0_ok h; exact ⟨_, _, h⟩
  · exact h.elim
theorem i49_ok : i49.OK Tryd.prog := inz_ok cx0 (by kernel_rfl) (by kernel_rfl) (by kernel_rfl)
theorem i50_ok : i50.OK Tryd.prog := inl_ok cx0 (by kernel_rfl) (by kernel_rfl) (by kernel_rfl)
theorem i16_ok : i16.OK Tryd.prog := inl_ok cx0 (by kernel_rfl) (by kernel_rfl) (by kernel_rfl)
theorem i17_ok : i17.OK Tryd.prog := inl_ok cx0 (by kernel_rfl) (by kernel_rfl) (by kernel_rfl)
theorem i24_ok : i24.OK Tryd.prog := inl_ok cx0 (by kernel_rfl) (by kernel_rfl) (by kernel_rfl)
theorem i25_ok : i25.OK Tryd.prog := inl_ok cx0 (by kernel_rfl) (by kernel_rfl) (by kernel_rfl)
theorem i53_ok : (H53.ci pickL).OK Tryd.prog := H53_ok.ci (fun _ => ⟨trivial, trivial, trivial, trivial, trivial⟩) pickL_ok
theorem bnot {b : Bool} : (!b) = true ↔ b = false := by cases b <;> simp
theorem bnot' {b : Bool} : (!b) = false ↔ b = true := by cases b <;> simp
theorem g26_ok {d : Dk} {l : Ls} (h : DkOK d ∧ CnOK l.c ∧ 0 ≤ l.r.1 ∧ l.r.1 ≤ 1000000) : g26 d l := by
  obtain ⟨h1, ⟨h2, h3, h4⟩, h5⟩ := h
  refine (g26_eq ..).mpr ?_
  simp only [g26_q1, g26_q2, pp1, eq_self, and_true, true_and, and_self, Decidable.not_not, bnot, bnot']
  refine ⟨fun k1 => ⟨fun k2 => ⟨fun k3 => ?_, fun k3 => ⟨fun k4 => ?_, fun k4 => ⟨⟨h1, ⟨h2, h3, h4⟩, h5⟩, ?_⟩⟩⟩, fun k2 => ?_⟩, fun k1 => ?_⟩
  · have e : syncL d l = (6, d, l) := by simp [syncL, Works, k3]
    rw [e]; simp
  · have e : syncL d l = (0, d, l) := by simp [syncL, Works, k1, k2, k3, k4]
    rw [e]; simp
  · have hw : Works d l := ⟨k1, k2, k3⟩
    have e : syncL d l = ((writeL d l).1, (writeL d l).2.1, ⟨decide (¬ (writeL d l).1 = 0), (writeL d l).2.2.turn, (writeL d l).2.2.opened, (writeL d l).2.2.r, (writeL d l).2.2.dirty, (writeL d l).2.2.c⟩) := by
      unfold syncL
      simp only [hw, decide_true, cond_true, k4]
    rw [e]; simp
  · have e : syncL d l = (6, d, l) := by simp [syncL, Works, k2]
    rw [e]; simp
  · have e : syncL d l = (6, d, l) := by simp [syncL, Works, k1]
    rw [e]; simp
theorem H26_ok : HeapOK Tryd.prog H26 := heap_flat (c := H26) (fn := Tryd.f26) (by kernel_rfl) (by kernel_rfl) (by kernel_rfl) (fun _ => ⟨trivial, trivial, trivial, trivial, trivial⟩) (fun _ => C26)
  (fun _ => cx_ok (cs := [i49, H53.ci pickL]) ⟨i49_ok, i53_ok, trivial⟩ _) (fun x hx => g26_ok hx)
theorem C14_ok : CtxOK Tryd.prog C14 := cx_ok (cs := [i49, i50]) ⟨i49_ok, i50_ok, trivial⟩ _
theorem g14a_ok {d : Dk} {l : Ls} {s : ByteArray} (hw : Works d l) (hs : s.size ≤ 24) (hl : l.c.2.2.length < 40) (h0 : 0 ≤ l.c.1) (h1 : l.c.1 ≤ 1000000) : g14a d l s := by
  refine (g14a_eq ..).mpr ?_
  simp only [g14a_q1, g14a_q2, g14a_q3, pp1, eq_self, and_true, true_and, and_self, Decidable.not_not, bnot, bnot']
  obtain ⟨w1, w2, w3⟩ := hw
  refine ⟨fun k1 => ⟨fun k2 => ⟨fun k3 => absurd w3 k3, fun k3 => ⟨fun k4 => ?_, fun k4 => ⟨sm (by omega), fi (by omega) (by omega), fun k5 => ?_, fun k5 => ?_⟩⟩⟩, fun k2 => absurd w2 k2⟩, fun k1 => ?_⟩
  · omega
  · rw [List.length_append] at k5
    simp at k5
    omega
  · unfold addC; rw [show l.c.2.2.length + 1 - 40 = 0 by omega]; simp
  · rw [w1] at k1; cases k1
theorem H14a_ok : HeapOK Tryd.prog H14a := heap_flat (c := H14a) (fn := Tryd.f14) (by kernel_rfl) (by kernel_rfl) (by kernel_rfl) (fun _ => ⟨trivial, trivial, trivial, trivial, trivial⟩) (fun _ => C14) (fun _ => C14_ok) (fun x hx => g14a_ok hx.1 hx.2.1 hx.2.2.1 hx.2.2.2.1 hx.2.2.2.2)
theorem g48_ok (d : Dk) (l : Ls) (n : Int) : g48 d l n := by
  refine (g48_eq ..).mpr ?_
  simp only [g48_q1, g48_q2, g48_q3, pp1, eq_self, and_true, true_and, and_self, Decidable.not_not, bnot, bnot']
  refine ⟨fun k1 => ⟨fun k2 => ⟨fun k3 => ?_, fun k3 => ⟨fun k4 => ?_, fun k4 => ⟨fun k5 => ?_, fun k5 => ?_⟩⟩⟩, fun k2 => ?_⟩, fun k1 => ?_⟩
  · have e : markL d l n = (6, l) := by simp [markL, Works, k3]
    rw [e]; simp
  · have e : markL d l n = (1, l) := by simp [markL, Works, k1, k2, k3, k4]
    rw [e]; simp
  · have e : markL d l n = (1, l) := by simp [markL, Works, k1, k2, k3, k5]
    rw [e]; simp
  · have e : markL d l n = (0, ⟨l.br, l.turn, l.opened, l.r, true, (l.c.1, n, l.c.2.2)⟩) := by simp [markL, Works, k1, k2, k3, k4, k5]
    rw [e]; simp
  · have e : markL d l n = (6, l) := by simp [markL, Works, k2]
    rw [e]; simp
  · have e : markL d l n = (6, l) := by simp [markL, Works, k1]
    rw [e]; simp
theorem H48_ok : HeapOK Tryd.prog H48 := heap_flat (c := H48) (fn := Tryd.f48) (by kernel_rfl) (by kernel_rfl) (by kernel_rfl) (fun _ => ⟨trivial, trivial, trivial, trivial, trivial⟩) (fun _ => C48) (fun _ => cx_ok (cs := [i49]) ⟨i49_ok, trivial⟩ _) (fun x _ => g48_ok ..)
theorem entsN_len (c : Cn) : (k : Nat) → (entsN c k).length = k
  | 0 => rfl
  | k + 1 => by simp [entsN, entsN_len c k]
theorem g15_ok {d : Dk} {l : Ls} (h : l.c.2.2.length ≤ 40) (h0 : 0 ≤ l.c.1) (h1 : l.c.1 ≤ 1000000000) : g15 d l := by
  refine (g15_eq ..).mpr ?_
  simp only [g15_q1, g15_q2, pp1, eq_self, and_true, true_and, and_self, Int.toNat_natCast]
  refine ⟨⟨0, by omega, rfl, rfl⟩, fun x hx => ⟨fun k1 => ?_, fun k1 => ?_⟩⟩
  · have hx' : x < l.c.2.2.length := by omega
    exact ⟨by omega, fi (by omega) (by omega), fi (by omega) (by omega), fi (by omega) (by omega), sm (by rw [entsN_len]; omega), fi (by omega) (by omega), x + 1, by omega, by omega, rfl, by omega⟩
  · rw [show x = l.c.2.2.length by omega]
theorem H15_ok : HeapOK Tryd.prog H15 := heap_flat (c := H15) (fn := Tryd.f15) (by kernel_rfl) (by kernel_rfl) (by kernel_rfl) (fun _ => ⟨trivial, trivial, trivial, trivial, trivial⟩) C15 (fun _ => cx_ok (cs := []) trivial _) (fun x hx => g15_ok hx.1 hx.2.1 hx.2.2)
theorem i15_ok : (H15.ci pickL).OK Tryd.prog := H15_ok.ci (fun _ => ⟨trivial, trivial, trivial, trivial, trivial⟩) pickL_ok
theorem pick52_ok : ∀ args H K, pick52 args H K → ∃ x js, K x js := by
  intro args H K h
  unfold pick52 at h
  split at h
  · split at h
    · split at h
      · obtain ⟨r, c, h⟩ := h; exact ⟨_, _, h⟩
      · exact h.elim
    · exact h.elim
  · exact h.elim
theorem i52_ok : (H52.ci pick52).OK Tryd.prog := H52_ok.ci (fun _ => ⟨trivial, trivial, trivial, trivial⟩) pick52_ok
theorem i27_ok : (H27.ci pickD).OK Tryd.prog := H27_ok.ci (fun _ => ⟨trivial, trivial, trivial⟩) pickD_ok
end Go.SX.Pe

/- Chapter 10, plain: what is written to a disk that stays up is found again. -/
namespace Go.SX.Pe
open Go Go.Proofs
theorem actF_up {d : Dk} (h : d.left = 0) : actF d = (0, d) := by simp [actF, h]
theorem writeF_calm {d : Dk} {a : Int} {b : List Int} (h0 : 0 ≤ a) (h1 : a < 32) (hb : b.length ≤ 128) (hd : d.down = false) (hl : d.left = 0) : writeF d a b = (0, wrF d a b) := by
  rw [writeF_up h0 h1 hb hd]
  exact actF_up hl
theorem syncF_calm {d : Dk} (hd : d.down = false) (hl : d.left = 0) : syncF d = (0, clearD d) := by
  unfold syncF
  rw [actF_up hl, hd]
  rfl
def setBl : List (List Int) → Nat → List (List Int) → List (List Int)
  | bl, _, [] => bl
  | bl, a, p :: r => setBl (bl.set a (layF zeroB 0 p)) (a + 1) r
theorem setBl_len : (bl : List (List Int)) → (a : Nat) → (pre : List (List Int)) → (setBl bl a pre).length = bl.length
  | _, _, [] => rfl
  | bl, a, p :: r => by unfold setBl; rw [setBl_len, List.length_set]
theorem setBl_out : (bl : List (List Int)) → (a : Nat) → (pre : List (List Int)) → (i : Nat) → (i < a ∨ a + pre.length ≤ i) → blF (setBl bl a pre) i = blF bl i
  | _, _, [], _, _ => rfl
  | bl, a, p :: r, i, h => by
    unfold setBl
    rw [List.length_cons] at h
    rw [setBl_out _ _ r i (by omega)]
    unfold blF
    simp only [List.getD]
    rw [List.getElem?_set_ne (by omega)]
theorem setBl_in : (bl : List (List Int)) → (a : Nat) → (pre : List (List Int)) → (j : Nat) → {x : List Int} → pre[j]? = some x → a + pre.length ≤ bl.length → blF (setBl bl a pre) (a + j) = layF zeroB 0 x
  | _, _, [], j, x, h, _ => by simp at h
  | bl, a, p :: r, 0, x, h, hl => by
    have : p = x := by simpa using h
    subst this
    unfold setBl
    rw [List.length_cons] at hl
    rw [setBl_out _ _ r _ (by omega)]
    unfold blF
    simp only [List.getD, Nat.add_zero]
    rw [List.getElem?_set_self (by omega)]
    rfl
  | bl, a, p :: r, j + 1, x, h, hl => by
    rw [List.length_cons] at hl
    unfold setBl
    rw [show a + (j + 1) = (a + 1) + j by omega]
    exact setBl_in _ (a + 1) r j (by simpa using h) (by rw [List.length_set]; omega)
structure Calm (d : Dk) : Prop where
  ok : DkOK d
  up : d.down = false
  left : d.left = 0
theorem wrP_calm : {d : Dk} → (a : Nat) → (pre : List (List Int)) → Calm d → a + pre.length ≤ 32 → (∀ x ∈ pre, x.length ≤ 128) →
    Calm (wrP d (a : Int) pre) ∧ (wrP d (a : Int) pre).bl = setBl d.bl a pre ∧ (wrP d (a : Int) pre).turn = d.turn ∧ (wrP d (a : Int) pre).opened = d.opened
  | d, a, [], h, _, _ => ⟨h, rfl, rfl, rfl⟩
  | d, a, p :: r, h, hl, hx => by
    rw [List.length_cons] at hl
    have hp := hx p (by simp)
    have e := writeF_calm (d := d) (a := (a : Int)) (b := p) (by omega) (by omega) hp h.up h.left
    have hc : Calm (wrF d (a : Int) p) := ⟨wrF_ok h.ok (by omega) (by omega) hp, h.up, h.left⟩
    have := wrP_calm (a + 1) r hc (by omega) fun x h => hx x (by simp [h])
    unfold wrP
    rw [e]
    rw [show ((a : Int) + 1) = ((a + 1 : Nat) : Int) by omega]
    refine ⟨this.1, ?_, this.2.2.1, this.2.2.2⟩
    rw [this.2.1]
    rfl
theorem goW_calm {d : Dk} (h : Calm d) {a : Nat} {pre : List (List Int)} {x : List Int} (hl : a + pre.length < 32) (hp : ∀ y ∈ pre, y.length ≤ 128) (hx : x.length ≤ 128) : goW d (a : Int) pre x = true := by
  obtain ⟨h1, _⟩ := wrP_calm a pre h (by omega) hp
  unfold goW
  rw [writeF_calm (by omega) (by omega) hx h1.up h1.left]
  rfl
theorem feed_calm {d : Dk} (h : Calm d) {a : Nat} : (l pre : List (List Int)) → a + pre.length + l.length ≤ 32 → (∀ y ∈ pre, y.length ≤ 128) → (∀ y ∈ l, y.length ≤ 128) → feed (goW d (a : Int)) pre l = (true, pre ++ l)
  | [], pre, _, _, _ => by simp [feed]
  | x :: l, pre, hl, hp, hx => by
    rw [List.length_cons] at hl
    rw [feed_cons, goW_calm h (by omega) hp (hx x (by simp))]
    show feed _ (pre ++ [x]) l = _
    rw [feed_calm h l (pre ++ [x]) (by rw [List.length_append]; simp; omega) (fun y hy => by
      rcases List.mem_append.1 hy with hy | hy
      · exact hp y hy
      · have : y = x := by simpa using hy
        rw [this]; exact hx x (by simp)) fun y hy => hx y (by simp [hy])]
    simp
def wroteBl (bl : List (List Int)) (l : Ls) : List (List Int) := (setBl bl (2 + (l.r.1 + 1) % 2 * 15).toNat (chs 15 (writtenF l.c))).set ((l.r.1 + 1) % 2).toNat (layF zeroB 0 (rootW (nextR l)))
theorem writeL_calm {d : Dk} {l : Ls} (h : Calm d) :
    ∃ d', writeL d l = (0, d', doneL l) ∧ Calm d' ∧ d'.turn = d.turn ∧ d'.opened = d.opened ∧ d'.sy = [] ∧ d'.bl = wroteBl d.bl l := by
  have hi : (l.r.1 + 1) % 2 = 0 ∨ (l.r.1 + 1) % 2 = 1 := by omega
  have hcnt := chs_count 15 (writtenF l.c)
  obtain ⟨a, ha⟩ : ∃ a : Nat, (2 + (l.r.1 + 1) % 2 * 15) = (a : Int) := ⟨(2 + (l.r.1 + 1) % 2 * 15).toNat, by omega⟩
  have hf := feed_calm h (a := a) (chs 15 (writtenF l.c)) [] (by simp; omega) (by simp) (chs_len 15 _)
  rw [← ha] at hf
  obtain ⟨k1, k2, k3, k4⟩ := wrP_calm a (chs 15 (writtenF l.c)) h (by omega) (chs_len 15 _)
  have e := writeL_eqs hf rfl rfl
  rw [List.nil_append, ha] at e
  dsimp only at e
  generalize hD : wrP d (a : Int) (chs 15 (writtenF l.c)) = D1 at k1 k2 k3 k4 e
  have hrl : (rootW (nextR l)).length ≤ 128 := by rw [rootW_len]; decide
  have hnx : (l.r.1 + 1, ((writtenF l.c).length : Int), sumF (writtenF l.c)) = nextR l := rfl
  rw [hnx, syncF_calm k1.up k1.left] at e
  dsimp only at e
  have c1 : Calm (clearD D1) := ⟨clearD_ok k1.ok, k1.up, k1.left⟩
  rw [writeF_calm (d := clearD D1) (a := (l.r.1 + 1) % 2) (b := rootW (nextR l)) (by omega) (by omega) hrl c1.up c1.left] at e
  dsimp only at e
  have c2 : Calm (wrF (clearD D1) ((l.r.1 + 1) % 2) (rootW (nextR l))) := ⟨wrF_ok c1.ok (by omega) (by omega) hrl, k1.up, k1.left⟩
  generalize hD2 : wrF (clearD D1) ((l.r.1 + 1) % 2) (rootW (nextR l)) = D2 at c2 e
  rw [syncF_calm c2.up c2.left] at e
  dsimp only at e
  simp only [decide_true, cond_true] at e
  refine ⟨clearD D2, e, ⟨clearD_ok c2.ok, c2.up, c2.left⟩, ?_, ?_, rfl, ?_⟩
  · rw [← k3, ← hD2]; rfl
  · rw [← k4, ← hD2]; rfl
  · have : (clearD D2).bl = D1.bl.set ((l.r.1 + 1) % 2).toNat (layF zeroB 0 (rootW (nextR l))) := by rw [← hD2]; rfl
    rw [this, k2]
    unfold wroteBl
    rw [ha, Int.toNat_natCast]
def areaG (bl : List (List Int)) (i : Nat) : Nat → List Int
  | 0 => []
  | k + 1 => blF bl i ++ areaG bl (i + 1) k
theorem areaG_snoc (bl : List (List Int)) : (k i : Nat) → areaG bl i (k + 1) = areaG bl i k ++ blF bl (i + k)
  | 0, i => by simp [areaG]
  | k + 1, i => by
    show blF bl i ++ areaG bl (i + 1) (k + 1) = _
    rw [areaG_snoc bl k (i + 1)]
    show _ = (blF bl i ++ areaG bl (i + 1) k) ++ _
    rw [List.append_assoc, show i + 1 + k = i + (k + 1) by omega]
theorem areaN_eq (bl : List (List Int)) {im : Int} (h : 0 ≤ im) : (k : Nat) → areaN bl im k = areaG bl (2 + im * 15).toNat k
  | 0 => rfl
  | k + 1 => by
    rw [areaG_snoc, ← areaN_eq bl h k]
    show _ ++ blF bl (2 + im * 15 + (k : Int)).toNat = _
    rw [show (2 + im * 15 + (k : Int)).toNat = (2 + im * 15).toNat + k by omega]
theorem lay_app {b : List Int} (h : b.length ≤ 128) : ∃ r, layF zeroB 0 b = b ++ r ∧ (b.length = 128 → r = []) ∧ ∀ x ∈ r, x = 0 := by
  refine ⟨zeroB.drop (0 + b.length), by simp [layF], fun h => ?_, fun x hx => ?_⟩
  · rw [h]; simp [zeroB]
  · have : x ∈ zeroB := List.mem_of_mem_drop hx
    exact (List.eq_of_mem_replicate this)
theorem areaG_chs {bl : List (List Int)} : (k : Nat) → (i : Nat) → (b : List Int) → b.length ≤ 128 * k → (∀ j x, (chs k b)[j]? = some x → blF bl (i + j) = layF zeroB 0 x) → ∃ r, areaG bl i k = b ++ r
  | 0, i, b, hb, _ => ⟨[], by
    have e : b = [] := List.eq_nil_of_length_eq_zero (by omega)
    subst e; rfl⟩
  | k + 1, i, b, hb, h => by
    by_cases hz : 0 < b.length
    · have hch : chs (k + 1) b = b.take 128 :: chs k (b.drop 128) := by
        show (bif _ then _ else _) = _
        simp [hz]
      rw [hch] at h
      have h0 := h 0 _ rfl
      rw [Nat.add_zero] at h0
      obtain ⟨r0, q1, q2, _⟩ := lay_app (b := b.take 128) (by rw [List.length_take]; omega)
      show ∃ r, blF bl i ++ areaG bl (i + 1) k = b ++ r
      rw [h0, q1]
      by_cases hl : b.length ≤ 128
      · exact ⟨r0 ++ areaG bl (i + 1) k, by rw [List.take_of_length_le hl, List.append_assoc]⟩
      · obtain ⟨r, hr⟩ := areaG_chs k (i + 1) (b.drop 128) (by rw [List.length_drop]; omega) fun j x hj => by
          have := h (j + 1) x (by simpa using hj)
          rw [← this]; congr 1; omega
        refine ⟨r, ?_⟩
        rw [hr, q2 (by rw [List.length_take]; omega), List.append_nil, ← List.append_assoc, List.take_append_drop]
    · have e : b = [] := List.eq_nil_of_length_eq_zero (by omega)
      subst e
      exact ⟨areaG bl i (k + 1), rfl⟩
theorem rootR_lay {r : Rt} (h1 : 0 ≤ r.1 ∧ r.1 < 281474976710656) (h2 : 0 ≤ r.2.1 ∧ r.2.1 < 281474976710656) (h3 : 0 ≤ r.2.2 ∧ r.2.2 < 281474976710656) (z : List Int) : rootR (rootW r ++ z) = r := by
  have e : rootW r ++ z = [80, 69, 65, 76] ++ (nb r.1 6 ++ (nb r.2.1 6 ++ (nb r.2.2 6 ++ (nb (sumF (rootB r)) 6 ++ z)))) := by
    show (([80, 69, 65, 76] ++ (nb r.1 6 ++ (nb r.2.1 6 ++ nb r.2.2 6))) ++ nb (sumF (rootB r)) 6) ++ z = _
    simp only [List.append_assoc]
  unfold rootR
  have d4 : (rootW r ++ z).drop 4 = nb r.1 6 ++ (nb r.2.1 6 ++ (nb r.2.2 6 ++ (nb (sumF (rootB r)) 6 ++ z))) := by rw [e]; rfl
  have d10 : (rootW r ++ z).drop 10 = nb r.2.1 6 ++ (nb r.2.2 6 ++ (nb (sumF (rootB r)) 6 ++ z)) := by
    rw [show (10 : Nat) = 4 + 6 from rfl, ← List.drop_drop, d4, drop_nb]
  have d16 : (rootW r ++ z).drop 16 = nb r.2.2 6 ++ (nb (sumF (rootB r)) 6 ++ z) := by
    rw [show (16 : Nat) = 10 + 6 from rfl, ← List.drop_drop, d10, drop_nb]
  rw [d4, d10, d16, numR_nb h1.1 h1.2, numR_nb h2.1 h2.2, numR_nb h3.1 h3.2]
theorem rootOk_lay {r : Rt} (h0 : 0 < r.1) (h1 : r.1 < 281474976710656) (h2 : 0 ≤ r.2.1 ∧ r.2.1 ≤ 1920) (h3 : 0 ≤ r.2.2 ∧ r.2.2 < 281474976710656) (z : List Int) : rootOk (rootW r ++ z) = true := by
  unfold rootOk
  rw [rootR_lay ⟨by omega, h1⟩ ⟨h2.1, by omega⟩ h3]
  have : (rootW r ++ z).take 28 = rootW r := by
    have := rootW_len r
    rw [List.take_append_of_le_length (by omega), List.take_of_length_le (by omega)]
  rw [this]
  simp [h0, h2.2]
theorem maxR_ge {l : List Rt} (hl : l.length ≤ 2) {x : Rt} (hx : x ∈ l) : x.1 ≤ (maxR l).1 := by
  match l, hl with
  | [], _ => simp at hx
  | [a], _ => have : x = a := by simpa using hx
              rw [this]; exact Int.le_refl _
  | [a, b], _ =>
    show _ ≤ (bif decide (0 < b.1 - a.1) then b else a).1
    by_cases h : 0 < b.1 - a.1
    · simp only [h, decide_true, cond_true]
      rcases List.mem_cons.1 hx with hx | hx
      · rw [hx]; omega
      · have : x = b := by simpa using hx
        rw [this]; exact Int.le_refl _
    · simp only [h, decide_false, cond_false]
      rcases List.mem_cons.1 hx with hx | hx
      · rw [hx]; exact Int.le_refl _
      · have : x = b := by simpa using hx
        rw [this]; omega
  | _ :: _ :: _ :: _, h => simp at h
theorem rootsN_two (bl : List (List Int)) : rootsN bl 2 = (bif rootOk (blF bl 0) then [rootR (blF bl 0)] else []) ++ (bif rootOk (blF bl 1) then [rootR (blF bl 1)] else []) := by
  simp [rootsN]
theorem blF_set {bl : List (List Int)} {i j : Nat} {x : List Int} (h : i < bl.length) : blF (bl.set i x) j = if j = i then x else blF bl j := by
  unfold blF
  simp only [List.getD, List.getElem?_set]
  by_cases hj : i = j
  · subst hj; simp [h]
  · rw [if_neg hj, if_neg (fun e => hj e.symm)]
theorem wrote_new {d : Dk} {l : Ls} {c0 : Cn} (hd : DkOK d) (hc : CnOK l.c) (h1 : l.r.1 ≤ 1000000) (hn : NewP d.bl l.r c0) (h0 : 0 ≤ l.r.1) : NewP (wroteBl d.bl l) (nextR l) l.c := by
  have hi : (l.r.1 + 1) % 2 = 0 ∨ (l.r.1 + 1) % 2 = 1 := by omega
  have hcnt := chs_count 15 (writtenF l.c)
  have hwl := writtenF_len hc
  have hsum := sumF_range (writtenF l.c)
  obtain ⟨z, hz, _, hz0⟩ := lay_app (b := rootW (nextR l)) (by rw [rootW_len]; decide)
  have hrr : rootR (layF zeroB 0 (rootW (nextR l))) = nextR l := by
    rw [hz]; exact rootR_lay ⟨by show 0 ≤ l.r.1 + 1; omega, by show l.r.1 + 1 < _; omega⟩ ⟨by show (0 : Int) ≤ ((writtenF l.c).length : Int); omega, by show ((writtenF l.c).length : Int) < _; omega⟩ hsum z
  have hro : rootOk (layF zeroB 0 (rootW (nextR l))) = true := by
    rw [hz]; exact rootOk_lay (by show 0 < l.r.1 + 1; omega) (by show l.r.1 + 1 < _; omega) ⟨by show (0 : Int) ≤ ((writtenF l.c).length : Int); omega, by show ((writtenF l.c).length : Int) ≤ _; omega⟩ hsum z
  have hrb : Byts (layF zeroB 0 (rootW (nextR l))) := by
    rw [hz]; exact (rootW_byts _).append fun x hx => by rw [hz0 x hx]; omega
  have hsl : (setBl d.bl (2 + (l.r.1 + 1) % 2 * 15).toNat (chs 15 (writtenF l.c))).length = 32 := by rw [setBl_len]; exact hd.bl
  obtain ⟨k, hk⟩ : ∃ k : Nat, ((l.r.1 + 1) % 2).toNat = k := ⟨_, rfl⟩
  have hk2 : k < 2 := by omega
  have hb : ∀ j, blF (wroteBl d.bl l) j = if j = k then layF zeroB 0 (rootW (nextR l)) else blF (setBl d.bl (2 + (l.r.1 + 1) % 2 * 15).toNat (chs 15 (writtenF l.c))) j := fun j => by
    unfold wroteBl
    rw [hk]
    exact blF_set (by omega)
  have hbk : blF (wroteBl d.bl l) k = layF zeroB 0 (rootW (nextR l)) := by rw [hb, if_pos rfl]
  have hbo : ∀ j, j < 2 → j ≠ k → blF (wroteBl d.bl l) j = blF d.bl j := fun j hj hne => by
    rw [hb, if_neg hne, setBl_out _ _ _ _ (by omega)]
  have hold : ∀ j, j < 2 → rootOk (blF d.bl j) = true → (rootR (blF d.bl j)).1 ≤ l.r.1 := fun j hj ho => by
    have hm : rootR (blF d.bl j) ∈ rootsN d.bl 2 := by
      rw [rootsN_two]
      have : j = 0 ∨ j = 1 := by omega
      rcases this with rfl | rfl <;> simp [ho]
    have hne : rootsN d.bl 2 ≠ [] := fun e => by rw [e] at hm; simp at hm
    have := (hn.some hne).1
    rw [this]
    exact maxR_ge (rootsN_len _ 2) hm
  have hnx : (nextR l).1 = l.r.1 + 1 := rfl
  have hmax : rootsN (wroteBl d.bl l) 2 ≠ [] ∧ nextR l = maxR (rootsN (wroteBl d.bl l) 2) := by
    rw [rootsN_two]
    have hk01 : k = 0 ∨ k = 1 := by omega
    rcases hk01 with rfl | rfl
    · rw [hbk, hro, hrr, hbo 1 (by omega) (by omega)]
      cases h2 : rootOk (blF d.bl 1) with
      | false => simp [maxR]
      | true =>
        have := hold 1 (by omega) h2
        have hlt : ¬ (nextR l).1 < (rootR (blF d.bl 1)).1 := by omega
        simp [maxR, hlt]
    · rw [hbk, hro, hrr, hbo 0 (by omega) (by omega)]
      cases h2 : rootOk (blF d.bl 0) with
      | false => simp [maxR]
      | true =>
        have := hold 0 (by omega) h2
        have hlt : (rootR (blF d.bl 0)).1 < (nextR l).1 := by omega
        simp [maxR, hlt]
  refine ⟨fun i hi => ?_, fun i hi => ?_, fun e => absurd e hmax.1, fun _ => ⟨hmax.2, hc, ?_, rfl⟩⟩
  · by_cases hik : i = k
    · rw [hik, hbk]; exact hrb
    · rw [hbo i hi hik]; exact hn.byts i hi
  · by_cases hik : i = k
    · rw [hik, hbk]; exact .inl hro
    · rw [hbo i hi hik]; exact hn.zero i hi
  · rw [areaN_eq _ (by show 0 ≤ (nextR l).1 % 2; omega)]
    obtain ⟨r, hr⟩ := areaG_chs (bl := wroteBl d.bl l) 15 (2 + (nextR l).1 % 2 * 15).toNat (writtenF l.c) (by omega) fun j x hj => by
      have hjl : j < (chs 15 (writtenF l.c)).length := (List.getElem?_eq_some_iff.1 hj).1
      rw [hb, if_neg (by rw [hnx]; omega)]
      exact setBl_in _ _ _ j hj (by rw [hd.bl]; omega)
    rw [hr]
    show List.take ((writtenF l.c).length : Int).toNat _ = _
    rw [Int.toNat_natCast, List.take_left]
theorem newP_new : NewP newD.bl (0, 0, 0) (0, 0, []) := by
  have hz : ∀ i, i < 2 → blF newD.bl i = zeroB := fun i hi => by
    have : i = 0 ∨ i = 1 := by omega
    rcases this with rfl | rfl <;> rfl
  have h0 : ∀ x ∈ zeroB, x = 0 := fun x hx => List.eq_of_mem_replicate hx
  have hr : rootOk zeroB = false := by
    have : (rootR zeroB).1 = 0 := by
      show numR (zeroB.drop 4) 6 = 0
      exact numR_zero (fun c hc => h0 c (List.mem_of_mem_drop hc)) 6 (by omega)
    unfold rootOk
    rw [this]; rfl
  refine ⟨fun i hi => ?_, fun i hi => .inr (by rw [hz i hi]; exact h0), fun _ => ⟨rfl, rfl⟩, fun hne => absurd ?_ hne⟩
  · rw [hz i hi]
    exact fun x hx => by rw [h0 x hx]; omega
  · rw [rootsN_two, hz 0 (by omega), hz 1 (by omega), hr]; rfl
theorem newD_calm : Calm newD := ⟨newD_ok, rfl, rfl⟩
end Go.SX.Pe

/- Chapter 10: opening and syncing where all goes well, and where it does not. -/
namespace Go.SX.Pe
open Go Go.Proofs
theorem _root_.Go.SX.HeapOK.sub {P : Program} {c c' : HC} (h : HeapOK P c) (hf : c'.f = c.f) (φ : c'.X → c.X) (hp : ∀ x, c'.Pre x → c.Pre (φ x) ∧ c'.Hs x = c.Hs (φ x) ∧ c'.ags x = c.ags (φ x) ∧ c'.res x = c.res (φ x) ∧ c'.out x = c.out (φ x)) : HeapOK P c' := by
  refine ⟨by rw [hf]; exact h.1, fun x hx => ?_⟩
  obtain ⟨h1, h2, h3, h4, h5⟩ := hp x hx
  rw [hf, h2, h3, h4, h5]
  exact h.2 (φ x) h1
noncomputable section
def upD (d : Dk) : Dk := ⟨d.down, d.left, d.turn, d.opened + 1, d.bl, d.sy⟩
def openD (d : Dk) : Dk := (syncF (upD d)).2
def openL (x : X52) : Ls := ⟨false, (openD x.d).turn, (openD x.d).opened, x.r, false, x.c⟩
@[reducible] def H18 : HC where
  f := 18
  X := X52
  Hs x := [dE x.d 1, mE x.d, gE x.t x.u]
  ags x := [.c (.ptr 0 0)]
  Pre x := DkOK x.d ∧ NewP x.d.bl x.r x.c ∧ x.d.down = false ∧ (syncF (upD x.d)).1 = 0 ∧ 0 ≤ x.d.opened ∧ x.d.opened ≤ 1000000
  res x := .tup [(false, [.ptr 3 0]), (false, [.int .i64 0])]
  out x := [dE (openD x.d) 5, .dead, gE x.t x.u, lE (openL x) 0 4 0, sRow 0 x.c.2.2, mE (openD x.d)]
  fr _ := false
  cn := [.comp 0 0, .cell 3 11, .cell 0 4101]
@[reducible] def H18d : HC where
  f := 18
  X := Dk
  Hs x := [dE x 1, mE x]
  ags x := [.c (.ptr 0 0)]
  Pre x := x.down = true
  res x := .tup [(false, [.raw (.pointer none)]), (false, [.int .i64 8])]
  out x := [dE x 1, mE x]
  fr _ := false
@[reducible] def H18e : HC where
  f := 18
  X := X52
  Hs x := [dE x.d 1, mE x.d, gE x.t x.u]
  ags x := [.c (.ptr 0 0)]
  Pre x := DkOK x.d ∧ NewP x.d.bl x.r x.c ∧ x.d.down = false ∧ (syncF (upD x.d)).1 = 8 ∧ 0 ≤ x.d.opened ∧ x.d.opened ≤ 1000000
  res x := .tup [(false, [.raw (.pointer none)]), (false, [.int .i64 8])]
  out x := [dE (openD x.d) 3, .dead, gE x.t x.u, mE (openD x.d)]
  fr _ := false
  cn := [mAt]
@[reducible] def C18 : Ctx := cx [i51, H52.ci pick52, H29.ci pickD1] []
def g18 (x : X52) : Prop := HVC C18 Tryd.f18 H18 x
def g18d (x : Dk) : Prop := HVC C18 Tryd.f18 H18d x
def g18e (x : X52) : Prop := HVC C18 Tryd.f18 H18e x
@[reducible] def H26w : HC where
  f := 26
  X := Dk × Ls
  Hs x := [dE x.1 1, mE x.1, lE x.2 0 3 0, sRow 0 x.2.c.2.2]
  ags _ := [.c (.ptr 2 0)]
  Pre x := (DkOK x.1 ∧ CnOK x.2.c ∧ 0 ≤ x.2.r.1 ∧ x.2.r.1 ≤ 1000000) ∧ Works x.1 x.2 ∧ x.2.dirty = true ∧ (writeL x.1 x.2).1 = 0
  res x := .c (.int .i64 0)
  out x := [dE (writeL x.1 x.2).2.1 4, .dead, lE (doneL x.2) 0 3 0, sRow 0 x.2.c.2.2, mE (writeL x.1 x.2).2.1]
  fr _ := false
  cn := [mAt]
@[reducible] def H26c : HC where
  f := 26
  X := Dk × Ls
  Hs x := [dE x.1 1, mE x.1, lE x.2 0 3 0, sRow 0 x.2.c.2.2]
  ags _ := [.c (.ptr 2 0)]
  Pre x := (DkOK x.1 ∧ CnOK x.2.c ∧ 0 ≤ x.2.r.1 ∧ x.2.r.1 ≤ 1000000) ∧ ¬ Works x.1 x.2
  res x := .c (.int .i64 6)
  out x := [dE x.1 4, .dead, lE x.2 0 3 0, sRow 0 x.2.c.2.2, mE x.1]
  fr _ := false
  cn := [mAt]
@[reducible] def H48k : HC where
  f := 48
  X := Dk × Ls × Int
  Hs x := [dE x.1 1, mE x.1, lE x.2.1 0 3 0, sRow 0 x.2.1.c.2.2]
  ags x := [.c (.ptr 2 0), .c (.int .i64 x.2.2)]
  Pre x := Works x.1 x.2.1 ∧ 0 ≤ x.2.2 ∧ x.2.2 ≤ x.2.1.c.1
  res x := .c (.int .i64 0)
  out x := [dE x.1 1, mE x.1, lE ⟨x.2.1.br, x.2.1.turn, x.2.1.opened, x.2.1.r, true, (x.2.1.c.1, x.2.2, x.2.1.c.2.2)⟩ 0 3 0, sRow 0 x.2.1.c.2.2]
  fr _ := false
@[reducible] def H48a : HC where
  f := 48
  X := Dk × Ls × Int
  Hs x := [dE x.1 1, mE x.1, lE x.2.1 0 3 0, sRow 0 x.2.1.c.2.2]
  ags x := [.c (.ptr 2 0), .c (.int .i64 x.2.2)]
  Pre x := Works x.1 x.2.1 ∧ (x.2.2 < 0 ∨ x.2.1.c.1 < x.2.2)
  res x := .c (.int .i64 1)
  out x := [dE x.1 1, mE x.1, lE x.2.1 0 3 0, sRow 0 x.2.1.c.2.2]
  fr _ := false
theorem H26w_ok : HeapOK Tryd.prog H26w := by
  refine H26_ok.sub rfl id fun x hx => ?_
  obtain ⟨h1, h2, h3, h4⟩ := hx
  have e : writeL x.1 x.2 = (0, (writeL x.1 x.2).2.1, doneL x.2) := by
    obtain ⟨f, hf⟩ : ∃ f, feed (goW x.1 (2 + (x.2.r.1 + 1) % 2 * 15)) [] (chs 15 (writtenF x.2.c)) = f := ⟨_, rfl⟩
    have e := writeL_eqs hf rfl rfl
    rw [e] at h4 ⊢
    revert h4
    cases f.1 with
    | false => intro h4; simp at h4
    | true =>
      simp only [cond_true]
      by_cases k1 : (syncF (wrP x.1 (2 + (x.2.r.1 + 1) % 2 * 15) f.2)).1 = 0
      · simp only [k1, decide_true, cond_true]
        by_cases k2 : (writeF (syncF (wrP x.1 (2 + (x.2.r.1 + 1) % 2 * 15) f.2)).2 ((x.2.r.1 + 1) % 2) (rootW (x.2.r.1 + 1, ((writtenF x.2.c).length : Int), sumF (writtenF x.2.c)))).1 = 0
        · simp only [k2, decide_true, cond_true]
          by_cases k3 : (syncF (writeF (syncF (wrP x.1 (2 + (x.2.r.1 + 1) % 2 * 15) f.2)).2 ((x.2.r.1 + 1) % 2) (rootW (x.2.r.1 + 1, ((writtenF x.2.c).length : Int), sumF (writtenF x.2.c)))).2).1 = 0
          · simp only [k3, decide_true, cond_true]; simp
          · simp only [k3, decide_false, cond_false]; intro h; first | exact h.elim | exact absurd h k3
        · simp only [k2, decide_false, cond_false]; intro h; first | exact h.elim | exact absurd h k2
      · simp only [k1, decide_false, cond_false]; intro h; first | exact h.elim | exact absurd h k1
  have e2 : syncL x.1 x.2 = (0, (writeL x.1 x.2).2.1, doneL x.2) := by
    have e3 : syncL x.1 x.2 = ((writeL x.1 x.2).1, (writeL x.1 x.2).2.1, ⟨decide (¬ (writeL x.1 x.2).1 = 0), (writeL x.1 x.2).2.2.turn, (writeL x.1 x.2).2.2.opened, (writeL x.1 x.2).2.2.r, (writeL x.1 x.2).2.2.dirty, (writeL x.1 x.2).2.2.c⟩) := by
      unfold syncL
      simp only [h2, decide_true, cond_true, h3]
    rw [e3, h4, show (writeL x.1 x.2).2.2 = doneL x.2 by rw [e]]
    simp [doneL, h2.1]
  refine ⟨h1, rfl, rfl, ?_, ?_⟩
  · show SV.c (.int .i64 0) = .c (.int .i64 (syncL x.1 x.2).1)
    rw [e2]
  · show [dE (writeL x.1 x.2).2.1 4, .dead, lE (doneL x.2) 0 3 0, sRow 0 x.2.c.2.2, mE (writeL x.1 x.2).2.1] = [dE (syncL x.1 x.2).2.1 4, .dead, lE (syncL x.1 x.2).2.2 0 3 0, sRow 0 x.2.c.2.2, mE (syncL x.1 x.2).2.1]
    rw [e2]
theorem H26c_ok : HeapOK Tryd.prog H26c := by
  refine H26_ok.sub rfl id fun x hx => ?_
  have e : syncL x.1 x.2 = (6, x.1, x.2) := by unfold syncL; simp [hx.2]
  refine ⟨hx.1, rfl, rfl, ?_, ?_⟩
  · show SV.c (.int .i64 6) = .c (.int .i64 (syncL x.1 x.2).1)
    rw [e]
  · show [dE x.1 4, .dead, lE x.2 0 3 0, sRow 0 x.2.c.2.2, mE x.1] = [dE (syncL x.1 x.2).2.1 4, .dead, lE (syncL x.1 x.2).2.2 0 3 0, sRow 0 x.2.c.2.2, mE (syncL x.1 x.2).2.1]
    rw [e]
theorem H48k_ok : HeapOK Tryd.prog H48k := by
  refine H48_ok.sub rfl id fun x hx => ?_
  obtain ⟨h1, h2, h3⟩ := hx
  have e : markL x.1 x.2.1 x.2.2 = (0, ⟨x.2.1.br, x.2.1.turn, x.2.1.opened, x.2.1.r, true, (x.2.1.c.1, x.2.2, x.2.1.c.2.2)⟩) := by
    have k1 : ¬ x.2.2 < 0 := by omega
    have k2 : ¬ x.2.1.c.1 < x.2.2 := by omega
    unfold markL; simp [h1, k1, k2]
  refine ⟨trivial, rfl, rfl, ?_, ?_⟩
  · show SV.c (.int .i64 0) = .c (.int .i64 (markL x.1 x.2.1 x.2.2).1)
    rw [e]
  · show [dE x.1 1, mE x.1, lE ⟨x.2.1.br, x.2.1.turn, x.2.1.opened, x.2.1.r, true, (x.2.1.c.1, x.2.2, x.2.1.c.2.2)⟩ 0 3 0, sRow 0 x.2.1.c.2.2] = [dE x.1 1, mE x.1, lE (markL x.1 x.2.1 x.2.2).2 0 3 0, sRow 0 x.2.1.c.2.2]
    rw [e]
theorem H48a_ok : HeapOK Tryd.prog H48a := by
  refine H48_ok.sub rfl id fun x hx => ?_
  obtain ⟨h1, h2⟩ := hx
  have e : markL x.1 x.2.1 x.2.2 = (1, x.2.1) := by
    unfold markL; rcases h2 with h2 | h2 <;> simp [h1, h2]
  refine ⟨trivial, rfl, rfl, ?_, ?_⟩
  · show SV.c (.int .i64 1) = .c (.int .i64 (markL x.1 x.2.1 x.2.2).1)
    rw [e]
  · show [dE x.1 1, mE x.1, lE x.2.1 0 3 0, sRow 0 x.2.1.c.2.2] = [dE x.1 1, mE x.1, lE (markL x.1 x.2.1 x.2.2).2 0 3 0, sRow 0 x.2.1.c.2.2]
    rw [e]
end
end Go.SX.Pe

/- Printed by VC.lean: what the executor asks. -/
namespace Go.SX.Pe
open Go Go.Proofs
def g18_q1 (x : X52) : Prop :=
 (True ∧
 (syncF (Dk.mk x.d.down x.d.left x.d.turn (x.d.opened + (1 : Int)) x.d.bl x.d.sy)).snd.down = (openD x.d).down ∧
 (syncF (Dk.mk x.d.down x.d.left x.d.turn (x.d.opened + (1 : Int)) x.d.bl x.d.sy)).snd.left = (openD x.d).left ∧
 (syncF (Dk.mk x.d.down x.d.left x.d.turn (x.d.opened + (1 : Int)) x.d.bl x.d.sy)).snd.turn = (openD x.d).turn ∧
 (syncF (Dk.mk x.d.down x.d.left x.d.turn (x.d.opened + (1 : Int)) x.d.bl x.d.sy)).snd.opened = (openD x.d).opened ∧ True) ∧
 (True ∧ True) ∧ (syncF (Dk.mk x.d.down x.d.left x.d.turn (x.d.opened + (1 : Int)) x.d.bl x.d.sy)).snd.bl = (openD x.d).bl
theorem g18_eq (x : X52) : g18 x = (
 (x.d.down = true →
 x.d.down = true ∧
 x.d.down = true ∧
 ((False ∧ True) ∧ ((8 : Int) = (0 : Int) ∧ True) ∧ True) ∧
 ((True ∧ x.d.down = (openD x.d).down ∧ x.d.left = (openD x.d).left ∧ x.d.turn = (openD x.d).turn ∧ x.d.opened = (openD x.d).opened ∧ True) ∧
 (True ∧ True) ∧ x.d.bl = (openD x.d).bl) ∧
 True ∧ Ent.gl (0 : Nat) x.t.fst (Value.iface x.t.snd x.u) = Ent.gl (0 : Nat) x.t.fst (Value.iface x.t.snd x.u) ∧ False ∧ False ∧ x.d.sy = (openD x.d).sy ∧ True) ∧
 (x.d.down = false →
 x.d.down = false ∧
 x.d.down = false ∧
 ∃ (r : Rt),
 ∃ (c : Cn),
 True ∧
 (((True ∧ x.d.down = x.d.down ∧ x.d.left = x.d.left ∧ x.d.turn = x.d.turn ∧ x.d.opened = x.d.opened ∧ True) ∧ (True ∧ True) ∧ x.d.bl = x.d.bl) ∧
 x.d.sy = x.d.sy ∧ Ent.gl (0 : Nat) x.t.fst (Value.iface x.t.snd x.u) = Ent.gl (0 : Nat) x.t.fst (Value.iface x.t.snd x.u) ∧ True) ∧
 (True ∧ True) ∧
 (DkOK x.d ∧ NewP x.d.bl r c) ∧
 True ∧
 Fits IntKind.i64 (x.d.opened + (1 : Int)) ∧
 True ∧
 (((True ∧ x.d.down = x.d.down ∧ x.d.left = x.d.left ∧ x.d.turn = x.d.turn ∧ x.d.opened + (1 : Int) = x.d.opened + (1 : Int) ∧ True) ∧
 (True ∧ True) ∧ x.d.bl = x.d.bl) ∧
 x.d.sy = x.d.sy ∧ True) ∧
 (True ∧ True) ∧
 DkOK (Dk.mk x.d.down x.d.left x.d.turn (x.d.opened + (1 : Int)) x.d.bl x.d.sy) ∧
 True ∧
 (¬(syncF (Dk.mk x.d.down x.d.left x.d.turn (x.d.opened + (1 : Int)) x.d.bl x.d.sy)).fst = (0 : Int) →
 ¬(syncF (Dk.mk x.d.down x.d.left x.d.turn (x.d.opened + (1 : Int)) x.d.bl x.d.sy)).fst = (0 : Int) ∧
 ((False ∧ True) ∧ ((syncF (Dk.mk x.d.down x.d.left x.d.turn (x.d.opened + (1 : Int)) x.d.bl x.d.sy)).fst = (0 : Int) ∧ True) ∧ True) ∧
 g18_q1 x ∧
 True ∧
 Ent.gl (0 : Nat) x.t.fst (Value.iface x.t.snd x.u) = Ent.gl (0 : Nat) x.t.fst (Value.iface x.t.snd x.u) ∧
 False ∧ False ∧ (syncF (Dk.mk x.d.down x.d.left x.d.turn (x.d.opened + (1 : Int)) x.d.bl x.d.sy)).snd.sy = (openD x.d).sy ∧ True) ∧
 (¬¬(syncF (Dk.mk x.d.down x.d.left x.d.turn (x.d.opened + (1 : Int)) x.d.bl x.d.sy)).fst = (0 : Int) →
 ¬¬(syncF (Dk.mk x.d.down x.d.left x.d.turn (x.d.opened + (1 : Int)) x.d.bl x.d.sy)).fst = (0 : Int) ∧
 ((True ∧ True) ∧ ((0 : Int) = (0 : Int) ∧ True) ∧ True) ∧
 g18_q1 x ∧
 True ∧
 Ent.gl (0 : Nat) x.t.fst (Value.iface x.t.snd x.u) = Ent.gl (0 : Nat) x.t.fst (Value.iface x.t.snd x.u) ∧
 (True ∧
 false = false ∧
 True ∧
 (syncF (Dk.mk x.d.down x.d.left x.d.turn (x.d.opened + (1 : Int)) x.d.bl x.d.sy)).snd.turn = (openD x.d).turn ∧
 (syncF (Dk.mk x.d.down x.d.left x.d.turn (x.d.opened + (1 : Int)) x.d.bl x.d.sy)).snd.opened = (openD x.d).opened ∧
 r.fst = x.r.fst ∧
 r.snd.fst = x.r.snd.fst ∧
 r.snd.snd = x.r.snd.snd ∧ false = false ∧ c.fst = x.c.fst ∧ c.snd.fst = x.c.snd.fst ∧ True ∧ True) ∧
 c.snd.snd = x.c.snd.snd ∧
 (syncF (Dk.mk x.d.down x.d.left x.d.turn (x.d.opened + (1 : Int)) x.d.bl x.d.sy)).snd.sy = (openD x.d).sy ∧ True))) := by
 kernel_rfl
theorem g18d_eq (x : Dk) : g18d x = (
 (x.down = true →
 x.down = true ∧
 x.down = true ∧
 ((Value.pointer none = Value.pointer none ∧ True) ∧ ((8 : Int) = (8 : Int) ∧ True) ∧ True) ∧
 ((True ∧ x.down = x.down ∧ x.left = x.left ∧ x.turn = x.turn ∧ x.opened = x.opened ∧ True) ∧ (True ∧ True) ∧ x.bl = x.bl) ∧ x.sy = x.sy ∧ True) ∧
 (x.down = false → x.down = false ∧ x.down = false ∧ False)) := by
 kernel_rfl
def g18e_q1 (x : X52) : Prop :=
 ((True ∧
 (syncF (Dk.mk x.d.down x.d.left x.d.turn (x.d.opened + (1 : Int)) x.d.bl x.d.sy)).snd.down = (openD x.d).down ∧
 (syncF (Dk.mk x.d.down x.d.left x.d.turn (x.d.opened + (1 : Int)) x.d.bl x.d.sy)).snd.left = (openD x.d).left ∧
 (syncF (Dk.mk x.d.down x.d.left x.d.turn (x.d.opened + (1 : Int)) x.d.bl x.d.sy)).snd.turn = (openD x.d).turn ∧
 (syncF (Dk.mk x.d.down x.d.left x.d.turn (x.d.opened + (1 : Int)) x.d.bl x.d.sy)).snd.opened = (openD x.d).opened ∧ True) ∧
 (True ∧ True) ∧ (syncF (Dk.mk x.d.down x.d.left x.d.turn (x.d.opened + (1 : Int)) x.d.bl x.d.sy)).snd.bl = (openD x.d).bl) ∧
 True ∧
 Ent.gl (0 : Nat) x.t.fst (Value.iface x.t.snd x.u) = Ent.gl (0 : Nat) x.t.fst (Value.iface x.t.snd x.u) ∧
 (syncF (Dk.mk x.d.down x.d.left x.d.turn (x.d.opened + (1 : Int)) x.d.bl x.d.sy)).snd.sy = (openD x.d).sy ∧ True
theorem g18e_eq (x : X52) : g18e x = (
 (x.d.down = true →
 x.d.down = true ∧
 x.d.down = true ∧
 ((Value.pointer none = Value.pointer none ∧ True) ∧ ((8 : Int) = (8 : Int) ∧ True) ∧ True) ∧
 ((True ∧ x.d.down = (openD x.d).down ∧ x.d.left = (openD x.d).left ∧ x.d.turn = (openD x.d).turn ∧ x.d.opened = (openD x.d).opened ∧ True) ∧
 (True ∧ True) ∧ x.d.bl = (openD x.d).bl) ∧
 True ∧ Ent.gl (0 : Nat) x.t.fst (Value.iface x.t.snd x.u) = Ent.gl (0 : Nat) x.t.fst (Value.iface x.t.snd x.u) ∧ x.d.sy = (openD x.d).sy ∧ True) ∧
 (x.d.down = false →
 x.d.down = false ∧
 x.d.down = false ∧
 ∃ (r : Rt),
 ∃ (c : Cn),
 True ∧
 (((True ∧ x.d.down = x.d.down ∧ x.d.left = x.d.left ∧ x.d.turn = x.d.turn ∧ x.d.opened = x.d.opened ∧ True) ∧ (True ∧ True) ∧ x.d.bl = x.d.bl) ∧
 x.d.sy = x.d.sy ∧ Ent.gl (0 : Nat) x.t.fst (Value.iface x.t.snd x.u) = Ent.gl (0 : Nat) x.t.fst (Value.iface x.t.snd x.u) ∧ True) ∧
 (True ∧ True) ∧
 (DkOK x.d ∧ NewP x.d.bl r c) ∧
 True ∧
 Fits IntKind.i64 (x.d.opened + (1 : Int)) ∧
 True ∧
 (((True ∧ x.d.down = x.d.down ∧ x.d.left = x.d.left ∧ x.d.turn = x.d.turn ∧ x.d.opened + (1 : Int) = x.d.opened + (1 : Int) ∧ True) ∧
 (True ∧ True) ∧ x.d.bl = x.d.bl) ∧
 x.d.sy = x.d.sy ∧ True) ∧
 (True ∧ True) ∧
 DkOK (Dk.mk x.d.down x.d.left x.d.turn (x.d.opened + (1 : Int)) x.d.bl x.d.sy) ∧
 True ∧
 (¬(syncF (Dk.mk x.d.down x.d.left x.d.turn (x.d.opened + (1 : Int)) x.d.bl x.d.sy)).fst = (0 : Int) →
 ¬(syncF (Dk.mk x.d.down x.d.left x.d.turn (x.d.opened + (1 : Int)) x.d.bl x.d.sy)).fst = (0 : Int) ∧
 ((Value.pointer none = Value.pointer none ∧ True) ∧
 ((syncF (Dk.mk x.d.down x.d.left x.d.turn (x.d.opened + (1 : Int)) x.d.bl x.d.sy)).fst = (8 : Int) ∧ True) ∧ True) ∧
 g18e_q1 x) ∧
 (¬¬(syncF (Dk.mk x.d.down x.d.left x.d.turn (x.d.opened + (1 : Int)) x.d.bl x.d.sy)).fst = (0 : Int) →
 ¬¬(syncF (Dk.mk x.d.down x.d.left x.d.turn (x.d.opened + (1 : Int)) x.d.bl x.d.sy)).fst = (0 : Int) ∧
 ((False ∧ True) ∧ ((0 : Int) = (8 : Int) ∧ True) ∧ True) ∧ g18e_q1 x))) := by
 kernel_rfl
end Go.SX.Pe

/- Chapter 10: opening, proved. -/
namespace Go.SX.Pe
open Go Go.Proofs
theorem upD_ok {d : Dk} (h : DkOK d) : DkOK (upD d) := ⟨h.left0, h.left1, h.bl, h.each, h.nd, h.sy⟩
theorem C18_ok : CtxOK Tryd.prog C18 := cx_ok (cs := [i51, H52.ci pick52, H29.ci pickD1]) ⟨i51_ok, i52_ok, i29_ok, trivial⟩ []
theorem g18_ok {x : X52} (h : H18.Pre x) : g18 x := by
  obtain ⟨h1, h2, h3, h4, h5, h6⟩ := h
  have hs : syncF ⟨x.d.down, x.d.left, x.d.turn, x.d.opened + 1, x.d.bl, x.d.sy⟩ = syncF (upD x.d) := rfl
  have hu : (⟨x.d.down, x.d.left, x.d.turn, x.d.opened + 1, x.d.bl, x.d.sy⟩ : Dk) = upD x.d := rfl
  refine (g18_eq ..).mpr ?_
  simp only [g18_q1, pp1, eq_self, and_true, true_and, and_self, hs, hu, Decidable.not_not]
  refine ⟨fun k => ?_, fun k => ⟨x.r, x.c, ⟨h1, h2⟩, fi (by omega) (by omega), upD_ok h1, fun k2 => absurd h4 k2, fun k2 => ?_⟩⟩
  · rw [h3] at k; cases k
  · refine ⟨⟨⟨rfl, rfl, rfl, rfl⟩, rfl⟩, ⟨rfl, rfl, rfl, rfl, rfl, rfl, rfl⟩, rfl, rfl⟩
theorem g18d_ok {x : Dk} (h : H18d.Pre x) : g18d x := by
  have h : x.down = true := h
  refine (g18d_eq ..).mpr ?_
  simp only [pp1, eq_self, and_true, true_and, and_self, h]
  first | trivial | (refine ⟨fun _ => ?_, fun k => by cases k⟩; first | trivial | rfl) | (intro k; cases k)
theorem g18e_ok {x : X52} (h : H18e.Pre x) : g18e x := by
  obtain ⟨h1, h2, h3, h4, h5, h6⟩ := h
  have hs : syncF ⟨x.d.down, x.d.left, x.d.turn, x.d.opened + 1, x.d.bl, x.d.sy⟩ = syncF (upD x.d) := rfl
  have hu : (⟨x.d.down, x.d.left, x.d.turn, x.d.opened + 1, x.d.bl, x.d.sy⟩ : Dk) = upD x.d := rfl
  refine (g18e_eq ..).mpr ?_
  simp only [g18e_q1, pp1, eq_self, and_true, true_and, and_self, hs, hu, Decidable.not_not]
  refine ⟨fun k => ?_, fun k => ⟨x.r, x.c, ⟨h1, h2⟩, fi (by omega) (by omega), upD_ok h1, fun k2 => ⟨h4, ⟨⟨rfl, rfl, rfl, rfl⟩, rfl⟩, rfl⟩, fun k2 => ?_⟩⟩
  · rw [h3] at k; cases k
  · rw [h4] at k2; cases k2
theorem H18_ok : HeapOK Tryd.prog H18 := heap_flat (c := H18) (fn := Tryd.f18) (by kernel_rfl) (by kernel_rfl) (by kernel_rfl) (fun _ => ⟨trivial, trivial, trivial, trivial⟩) (fun _ => C18) (fun _ => C18_ok) (fun _ hx => g18_ok hx)
theorem H18d_ok : HeapOK Tryd.prog H18d := heap_flat (c := H18d) (fn := Tryd.f18) (by kernel_rfl) (by kernel_rfl) (by kernel_rfl) (fun _ => ⟨trivial, trivial, trivial⟩) (fun _ => C18) (fun _ => C18_ok) (fun _ hx => g18d_ok hx)
theorem H18e_ok : HeapOK Tryd.prog H18e := heap_flat (c := H18e) (fn := Tryd.f18) (by kernel_rfl) (by kernel_rfl) (by kernel_rfl) (fun _ => ⟨trivial, trivial, trivial, trivial⟩) (fun _ => C18) (fun _ => C18_ok) (fun _ hx => g18e_ok hx)
end Go.SX.Pe
