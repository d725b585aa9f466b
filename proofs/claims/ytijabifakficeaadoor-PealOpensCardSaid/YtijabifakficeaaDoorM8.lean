/- Parts of the proof, one after the other: Pe9 Pe9E Pe9Q PeR PeN PeNE PeNQ. -/
import Derived.Test.YtijabifakficeaaDoorM6
import Derived.Test.YtijabifakficeaaDoorM7
import Derived.Stop.LaidErr
/- Chapter 10: the document's examples, what is asked. -/
namespace Go.SX.Pe
open Go Go.Proofs
noncomputable section
structure Nd where
  d : Dk
  new : d = newD
@[reducible] def H19v : HC where
  f := 19
  X := Nd
  Hs _ := []
  ags _ := []
  Pre _ := True
  res _ := .c (.ptr 0 0)
  out x := [dE x.d 1, mE x.d]
  fr _ := false
  cn := [.slot 0, mAt]
@[reducible] def pick19v (n : Nd) : Pick Nd := fun _ _ K => K n []
structure Xg where
  t : GT
  u : Value
  n : Nd
@[reducible] def H12 : HC where
  f := 12
  X := Xg
  Hs x := [gE x.t x.u]
  ags _ := []
  Pre _ := True
  res _ := .c (.kb true)
  out x := [gE x.t x.u]
  fr _ := false
@[reducible] def oneArg : List SV → Bool
  | [_, .c (.int _ n)] => decide (n = 1)
  | _ => false
@[reducible] def C12 (x : Xg) : Ctx := cx [H19v.ci (pick19v x.n), H18.ci pick52, H14a.ci pickLs, orCI oneArg (H48k.ci pickLi) (H48a.ci pickLi), caseCI pickL (fun y => Works y.1 y.2) (H26w.ci pickL) (H26c.ci pickL), H27.ci pickD, H15.ci pickL, i16, i17] []
def g12 (t : GT) (u : Value) (n : Nd) : Prop := HVC (C12 ⟨t, u, n⟩) Tryd.f12 H12 ⟨t, u, n⟩
end
end Go.SX.Pe

/- Printed by VC.lean: what the executor asks. -/
namespace Go.SX.Pe
open Go Go.Proofs
def g12_q1 (t : GT) (u : Value) (_n : Nd) : Prop :=
 ¬(0 : Int) = (0 : Int) ∧ ¬(0 : Int) = (0 : Int) ∧ False ∧ Ent.gl (0 : Nat) t.fst (Value.iface t.snd u) = Ent.gl (0 : Nat) t.fst (Value.iface t.snd u) ∧ True
def g12_q2 (t : GT) (u : Value) (n : Nd) : Prop :=
 ¬(0 : Int) = (0 : Int) → g12_q1 t u n
def g12_q3 (_t : GT) (_u : Value) (n : Nd) : Prop :=
 (True ∧ (openD n.d).down = (openD n.d).down ∧ (openD n.d).left = (openD n.d).left ∧ (openD n.d).turn = (openD n.d).turn ∧ (openD n.d).opened = (openD n.d).opened ∧ True) ∧
 (True ∧ True) ∧ (openD n.d).bl = (openD n.d).bl
def g12_q4 (t : GT) (u : Value) (n : Nd) : Prop :=
 ¬(0 : Int) = (0 : Int) → ¬(0 : Int) = (0 : Int) ∧ g12_q1 t u n
def g12_q5 (t : GT) (u : Value) (_n : Nd) : Prop :=
 ¬(0 : Int) = (6 : Int) →
 ¬(0 : Int) = (6 : Int) ∧ ¬(0 : Int) = (6 : Int) ∧ False ∧ Ent.gl (0 : Nat) t.fst (Value.iface t.snd u) = Ent.gl (0 : Nat) t.fst (Value.iface t.snd u) ∧ True
def g12_q6 (t : GT) (u : Value) (_n : Nd) : Prop :=
 ¬(6 : Int) = (6 : Int) →
 ¬(6 : Int) = (6 : Int) ∧ ¬(6 : Int) = (6 : Int) ∧ False ∧ Ent.gl (0 : Nat) t.fst (Value.iface t.snd u) = Ent.gl (0 : Nat) t.fst (Value.iface t.snd u) ∧ True
def g12_q7 (_t : GT) (_u : Value) (n : Nd) : Prop :=
 (True ∧
 false = false ∧ (0 : Int) = (0 : Int) ∧ (openD n.d).turn + (1 : Int) = (openD n.d).turn + (1 : Int) ∧ (openD n.d).opened + (1 : Int) = (openD n.d).opened + (1 : Int) ∧ True) ∧
 (True ∧ True) ∧
 tearN (0 : Int) (openD n.d).sy (keysF (openD n.d).sy) (openD n.d).bl (keysF (openD n.d).sy).length =
 tearN (0 : Int) (openD n.d).sy (keysF (openD n.d).sy) (openD n.d).bl (keysF (openD n.d).sy).length
def g12_q8 (_t : GT) (_u : Value) (n : Nd) : Prop :=
 DkOK
 (Dk.mk false (0 : Int) ((openD n.d).turn + (1 : Int)) ((openD n.d).opened + (1 : Int))
 (tearN (0 : Int) (openD n.d).sy (keysF (openD n.d).sy) (openD n.d).bl (keysF (openD n.d).sy).length) [])
theorem g12_eq (t : GT) (u : Value) (n : Nd) : g12 t u n = (
 True ∧
 True ∧
 True ∧
 True ∧
 True ∧
 ∃ (r : Rt),
 ∃ (c : Cn),
 True ∧
 (((True ∧ n.d.down = n.d.down ∧ n.d.left = n.d.left ∧ n.d.turn = n.d.turn ∧ n.d.opened = n.d.opened ∧ True) ∧ (True ∧ True) ∧ n.d.bl = n.d.bl) ∧
 n.d.sy = n.d.sy ∧ Ent.gl (0 : Nat) t.fst (Value.iface t.snd u) = Ent.gl (0 : Nat) t.fst (Value.iface t.snd u) ∧ True) ∧
 (True ∧ True) ∧
 (DkOK n.d ∧ NewP n.d.bl r c ∧ n.d.down = false ∧ (syncF (upD n.d)).fst = (0 : Int) ∧ (0 : Int) ≤ n.d.opened ∧ n.d.opened ≤ (1000000 : Int)) ∧
 True ∧
 g12_q2 t u n ∧
 (¬¬(0 : Int) = (0 : Int) →
 ¬¬(0 : Int) = (0 : Int) ∧
 ¬¬(0 : Int) = (0 : Int) ∧
 True ∧
 (g12_q3 t u n ∧
 (openD n.d).sy = (openD n.d).sy ∧
 (True ∧
 false = false ∧
 True ∧
 (openD n.d).turn = (openD n.d).turn ∧
 (openD n.d).opened = (openD n.d).opened ∧
 r.fst = r.fst ∧
 r.snd.fst = r.snd.fst ∧ r.snd.snd = r.snd.snd ∧ false = false ∧ c.fst = c.fst ∧ c.snd.fst = c.snd.fst ∧ True ∧ True) ∧
 c.snd.snd = c.snd.snd ∧ True) ∧
 (True ∧ ByteArray.mk #[(97 : UInt8)] = ByteArray.mk #[(97 : UInt8)] ∧ True) ∧
 ((false = false ∧ (openD n.d).turn = (openD n.d).turn ∧ (openD n.d).opened = (openD n.d).opened) ∧
 (ByteArray.mk #[(97 : UInt8)]).size ≤ (24 : Nat) ∧ c.snd.snd.length < (40 : Nat) ∧ (0 : Int) ≤ c.fst ∧ c.fst ≤ (1000000 : Int)) ∧
 True ∧
 True ∧
 (g12_q3 t u n ∧
 (openD n.d).sy = (openD n.d).sy ∧
 (True ∧
 false = false ∧
 True ∧
 (openD n.d).turn = (openD n.d).turn ∧
 (openD n.d).opened = (openD n.d).opened ∧
 r.fst = r.fst ∧
 r.snd.fst = r.snd.fst ∧
 r.snd.snd = r.snd.snd ∧
 true = true ∧ c.fst + (1 : Int) = c.fst + (1 : Int) ∧ c.snd.fst = c.snd.fst ∧ True ∧ True) ∧
 addC c.snd.snd (ByteArray.mk #[(97 : UInt8)]) = addC c.snd.snd (ByteArray.mk #[(97 : UInt8)]) ∧ True) ∧
 (True ∧ ByteArray.mk #[(98 : UInt8)] = ByteArray.mk #[(98 : UInt8)] ∧ True) ∧
 ((false = false ∧ (openD n.d).turn = (openD n.d).turn ∧ (openD n.d).opened = (openD n.d).opened) ∧
 (ByteArray.mk #[(98 : UInt8)]).size ≤ (24 : Nat) ∧
 (addC c.snd.snd (ByteArray.mk #[(97 : UInt8)])).length < (40 : Nat) ∧
 (0 : Int) ≤ c.fst + (1 : Int) ∧ c.fst + (1 : Int) ≤ (1000000 : Int)) ∧
 True ∧
 (¬c.fst + (1 : Int) = (1 : Int) →
 ¬c.fst + (1 : Int) = (1 : Int) ∧
 ¬c.fst + (1 : Int) = (1 : Int) ∧
 False ∧ Ent.gl (0 : Nat) t.fst (Value.iface t.snd u) = Ent.gl (0 : Nat) t.fst (Value.iface t.snd u) ∧ True) ∧
 (¬¬c.fst + (1 : Int) = (1 : Int) →
 ¬¬c.fst + (1 : Int) = (1 : Int) ∧
 ¬¬c.fst + (1 : Int) = (1 : Int) ∧
 g12_q4 t u n ∧
 (¬¬(0 : Int) = (0 : Int) →
 ¬¬(0 : Int) = (0 : Int) ∧
 ¬¬(0 : Int) = (0 : Int) ∧
 ¬¬(0 : Int) = (0 : Int) ∧
 (¬c.fst + (1 : Int) + (1 : Int) = (2 : Int) →
 ¬c.fst + (1 : Int) + (1 : Int) = (2 : Int) ∧
 ¬c.fst + (1 : Int) + (1 : Int) = (2 : Int) ∧
 ¬c.fst + (1 : Int) + (1 : Int) = (2 : Int) ∧
 False ∧
 Ent.gl (0 : Nat) t.fst (Value.iface t.snd u) = Ent.gl (0 : Nat) t.fst (Value.iface t.snd u) ∧
 True) ∧
 (¬¬c.fst + (1 : Int) + (1 : Int) = (2 : Int) →
 ¬¬c.fst + (1 : Int) + (1 : Int) = (2 : Int) ∧
 ¬¬c.fst + (1 : Int) + (1 : Int) = (2 : Int) ∧
 ¬¬c.fst + (1 : Int) + (1 : Int) = (2 : Int) ∧
 g12_q4 t u n ∧
 (¬¬(0 : Int) = (0 : Int) →
 ¬¬(0 : Int) = (0 : Int) ∧
 ¬¬(0 : Int) = (0 : Int) ∧
 ¬¬(0 : Int) = (0 : Int) ∧
 True ∧
 (g12_q3 t u n ∧
 (openD n.d).sy = (openD n.d).sy ∧
 (True ∧
 false = false ∧
 True ∧
 (openD n.d).turn = (openD n.d).turn ∧
 (openD n.d).opened = (openD n.d).opened ∧
 r.fst = r.fst ∧
 r.snd.fst = r.snd.fst ∧
 r.snd.snd = r.snd.snd ∧
 true = true ∧
 c.fst + (1 : Int) + (1 : Int) =
 c.fst + (1 : Int) + (1 : Int) ∧
 c.snd.fst = c.snd.fst ∧ True ∧ True) ∧
 addC (addC c.snd.snd (ByteArray.mk #[(97 : UInt8)]))
 (ByteArray.mk #[(98 : UInt8)]) =
 addC (addC c.snd.snd (ByteArray.mk #[(97 : UInt8)]))
 (ByteArray.mk #[(98 : UInt8)]) ∧
 True) ∧
 (True ∧ (1 : Int) = (1 : Int) ∧ True) ∧
 ((false = false ∧
 (openD n.d).turn = (openD n.d).turn ∧
 (openD n.d).opened = (openD n.d).opened) ∧
 (0 : Int) ≤ (1 : Int) ∧ (1 : Int) ≤ c.fst + (1 : Int) + (1 : Int)) ∧
 True ∧
 g12_q4 t u n ∧
 (¬¬(0 : Int) = (0 : Int) →
 ¬¬(0 : Int) = (0 : Int) ∧
 ¬¬(0 : Int) = (0 : Int) ∧
 ¬¬(0 : Int) = (0 : Int) ∧
 True ∧
 (g12_q3 t u n ∧
 (openD n.d).sy = (openD n.d).sy ∧
 (True ∧
 false = false ∧
 True ∧
 (openD n.d).turn = (openD n.d).turn ∧
 (openD n.d).opened = (openD n.d).opened ∧
 r.fst = r.fst ∧
 r.snd.fst = r.snd.fst ∧
 r.snd.snd = r.snd.snd ∧
 true = true ∧
 c.fst + (1 : Int) + (1 : Int) =
 c.fst + (1 : Int) + (1 : Int) ∧
 (1 : Int) = (1 : Int) ∧ True ∧ True) ∧
 addC (addC c.snd.snd (ByteArray.mk #[(97 : UInt8)]))
 (ByteArray.mk #[(98 : UInt8)]) =
 addC (addC c.snd.snd (ByteArray.mk #[(97 : UInt8)]))
 (ByteArray.mk #[(98 : UInt8)]) ∧
 True) ∧
 (True ∧ (3 : Int) = (3 : Int) ∧ True) ∧
 ((false = false ∧
 (openD n.d).turn = (openD n.d).turn ∧
 (openD n.d).opened = (openD n.d).opened) ∧
 ((3 : Int) < (0 : Int) ∨
 c.fst + (1 : Int) + (1 : Int) < (3 : Int))) ∧
 True ∧
 (¬(1 : Int) = (1 : Int) →
 ¬(1 : Int) = (1 : Int) ∧
 ¬(1 : Int) = (1 : Int) ∧
 ¬(1 : Int) = (1 : Int) ∧
 False ∧
 Ent.gl (0 : Nat) t.fst (Value.iface t.snd u) =
 Ent.gl (0 : Nat) t.fst
 (Value.iface t.snd u) ∧
 True) ∧
 (¬¬(1 : Int) = (1 : Int) →
 ¬¬(1 : Int) = (1 : Int) ∧
 ¬¬(1 : Int) = (1 : Int) ∧
 ¬¬(1 : Int) = (1 : Int) ∧
 (false = false ∧
 (openD n.d).turn = (openD n.d).turn ∧
 (openD n.d).opened = (openD n.d).opened →
 True ∧
 (g12_q3 t u n ∧
 (openD n.d).sy = (openD n.d).sy ∧
 (True ∧
 false = false ∧
 True ∧
 (openD n.d).turn =
 (openD n.d).turn ∧
 (openD n.d).opened =
 (openD n.d).opened ∧
 r.fst = r.fst ∧
 r.snd.fst = r.snd.fst ∧
 r.snd.snd =
 r.snd.snd ∧
 true = true ∧
 c.fst +
 (1 :
 Int) +
 (1 : Int) =
 c.fst +
 (1 :
 Int) +
 (1 : Int) ∧
 (1 : Int) =
 (1 : Int) ∧
 True ∧ True) ∧
 addC
 (addC c.snd.snd
 (ByteArray.mk
 #[(97 : UInt8)]))
 (ByteArray.mk
 #[(98 : UInt8)]) =
 addC
 (addC c.snd.snd
 (ByteArray.mk
 #[(97 : UInt8)]))
 (ByteArray.mk
 #[(98 : UInt8)]) ∧
 True) ∧
 (True ∧ True) ∧
 ((DkOK (openD n.d) ∧
 (((0 : Int) ≤
 c.fst + (1 : Int) +
 (1 : Int) ∧
 c.fst + (1 : Int) +
 (1 : Int) <
 (281474976710656 : Int)) ∧
 ((0 : Int) ≤ (1 : Int) ∧
 (1 : Int) <
 (281474976710656 :
 Int)) ∧
 (addC
 (addC c.snd.snd
 (ByteArray.mk
 #[(97 :
 UInt8)]))
 (ByteArray.mk
 #[(98 :
 UInt8)])).length ≤
 (40 : Nat) ∧
 ∀ (s : ByteArray),
 s ∈
 addC
 (addC c.snd.snd
 (ByteArray.mk
 #[(97 :
 UInt8)]))
 (ByteArray.mk
 #[(98 :
 UInt8)]) →
 s.size ≤ (24 : Nat)) ∧
 (0 : Int) ≤ r.fst ∧
 r.fst ≤ (1000000 : Int)) ∧
 (false = false ∧
 (openD n.d).turn =
 (openD n.d).turn ∧
 (openD n.d).opened =
 (openD n.d).opened) ∧
 true = true ∧
 (writeL (openD n.d)
 (Ls.mk false
 (openD n.d).turn
 (openD n.d).opened r
 true
 (c.fst + (1 : Int) +
 (1 : Int),
 (1 : Int),
 addC
 (addC c.snd.snd
 (ByteArray.mk
 #[(97 :
 UInt8)]))
 (ByteArray.mk
 #[(98 :
 UInt8)])))).fst =
 (0 : Int)) ∧
 True ∧
 g12_q2 t u n ∧
 (¬¬(0 : Int) = (0 : Int) →
 ¬¬(0 : Int) = (0 : Int) ∧
 ¬¬(0 : Int) = (0 : Int) ∧
 True ∧
 (((True ∧
 (writeL
 (openD
 n.d)
 (Ls.mk
 false
 (openD
 n.d).turn
 (openD
 n.d).opened
 r
 true
 (c.fst +
 (1 :
 Int) +
 (1 :
 Int),
 (1 :
 Int),
 addC
 (addC
 c.snd.snd
 (ByteArray.mk
 #[(97 :
 UInt8)]))
 (ByteArray.mk
 #[(98 :
 UInt8)])))).snd.fst.down =
 (writeL
 (openD
 n.d)
 (Ls.mk
 false
 (openD
 n.d).turn
 (openD
 n.d).opened
 r
 true
 (c.fst +
 (1 :
 Int) +
 (1 :
 Int),
 (1 :
 Int),
 addC
 (addC
 c.snd.snd
 (ByteArray.mk
 #[(97 :
 UInt8)]))
 (ByteArray.mk
 #[(98 :
 UInt8)])))).snd.fst.down ∧
 (writeL
 (openD
 n.d)
 (Ls.mk
 false
 (openD
 n.d).turn
 (openD
 n.d).opened
 r
 true
 (c.fst +
 (1 :
 Int) +
 (1 :
 Int),
 (1 :
 Int),
 addC
 (addC
 c.snd.snd
 (ByteArray.mk
 #[(97 :
 UInt8)]))
 (ByteArray.mk
 #[(98 :
 UInt8)])))).snd.fst.left =
 (writeL
 (openD
 n.d)
 (Ls.mk
 false
 (openD
 n.d).turn
 (openD
 n.d).opened
 r
 true
 (c.fst +
 (1 :
 Int) +
 (1 :
 Int),
 (1 :
 Int),
 addC
 (addC
 c.snd.snd
 (ByteArray.mk
 #[(97 :
 UInt8)]))
 (ByteArray.mk
 #[(98 :
 UInt8)])))).snd.fst.left ∧
 (writeL
 (openD
 n.d)
 (Ls.mk
 false
 (openD
 n.d).turn
 (openD
 n.d).opened
 r
 true
 (c.fst +
 (1 :
 Int) +
 (1 :
 Int),
 (1 :
 Int),
 addC
 (addC
 c.snd.snd
 (ByteArray.mk
 #[(97 :
 UInt8)]))
 (ByteArray.mk
 #[(98 :
 UInt8)])))).snd.fst.turn =
 (writeL
 (openD
 n.d)
 (Ls.mk
 false
 (openD
 n.d).turn
 (openD
 n.d).opened
 r
 true
 (c.fst +
 (1 :
 Int) +
 (1 :
 Int),
 (1 :
 Int),
 addC
 (addC
 c.snd.snd
 (ByteArray.mk
 #[(97 :
 UInt8)]))
 (ByteArray.mk
 #[(98 :
 UInt8)])))).snd.fst.turn ∧
 (writeL
 (openD
 n.d)
 (Ls.mk
 false
 (openD
 n.d).turn
 (openD
 n.d).opened
 r
 true
 (c.fst +
 (1 :
 Int) +
 (1 :
 Int),
 (1 :
 Int),
 addC
 (addC
 c.snd.snd
 (ByteArray.mk
 #[(97 :
 UInt8)]))
 (ByteArray.mk
 #[(98 :
 UInt8)])))).snd.fst.opened =
 (writeL
 (openD
 n.d)
 (Ls.mk
 false
 (openD
 n.d).turn
 (openD
 n.d).opened
 r
 true
 (c.fst +
 (1 :
 Int) +
 (1 :
 Int),
 (1 :
 Int),
 addC
 (addC
 c.snd.snd
 (ByteArray.mk
 #[(97 :
 UInt8)]))
 (ByteArray.mk
 #[(98 :
 UInt8)])))).snd.fst.opened ∧
 True) ∧
 (True ∧ True) ∧
 (writeL
 (openD
 n.d)
 (Ls.mk
 false
 (openD
 n.d).turn
 (openD
 n.d).opened
 r true
 (c.fst +
 (1 :
 Int) +
 (1 :
 Int),
 (1 :
 Int),
 addC
 (addC
 c.snd.snd
 (ByteArray.mk
 #[(97 :
 UInt8)]))
 (ByteArray.mk
 #[(98 :
 UInt8)])))).snd.fst.bl =
 (writeL
 (openD
 n.d)
 (Ls.mk
 false
 (openD
 n.d).turn
 (openD
 n.d).opened
 r true
 (c.fst +
 (1 :
 Int) +
 (1 :
 Int),
 (1 :
 Int),
 addC
 (addC
 c.snd.snd
 (ByteArray.mk
 #[(97 :
 UInt8)]))
 (ByteArray.mk
 #[(98 :
 UInt8)])))).snd.fst.bl) ∧
 (writeL (openD n.d)
 (Ls.mk
 false
 (openD
 n.d).turn
 (openD
 n.d).opened
 r true
 (c.fst +
 (1 :
 Int) +
 (1 :
 Int),
 (1 :
 Int),
 addC
 (addC
 c.snd.snd
 (ByteArray.mk
 #[(97 :
 UInt8)]))
 (ByteArray.mk
 #[(98 :
 UInt8)])))).snd.fst.sy =
 (writeL
 (openD
 n.d)
 (Ls.mk
 false
 (openD
 n.d).turn
 (openD
 n.d).opened
 r true
 (c.fst +
 (1 :
 Int) +
 (1 :
 Int),
 (1 :
 Int),
 addC
 (addC
 c.snd.snd
 (ByteArray.mk
 #[(97 :
 UInt8)]))
 (ByteArray.mk
 #[(98 :
 UInt8)])))).snd.fst.sy ∧
 True) ∧
 (True ∧
 (0 : Int) =
 (0 : Int) ∧
 True) ∧
 (DkOK
 (writeL
 (openD
 n.d)
 (Ls.mk
 false
 (openD
 n.d).turn
 (openD
 n.d).opened
 r true
 (c.fst +
 (1 :
 Int) +
 (1 :
 Int),
 (1 :
 Int),
 addC
 (addC
 c.snd.snd
 (ByteArray.mk
 #[(97 :
 UInt8)]))
 (ByteArray.mk
 #[(98 :
 UInt8)])))).snd.fst ∧
 (0 : Int) ≤
 (writeL
 (openD
 n.d)
 (Ls.mk
 false
 (openD
 n.d).turn
 (openD
 n.d).opened
 r
 true
 (c.fst +
 (1 :
 Int) +
 (1 :
 Int),
 (1 :
 Int),
 addC
 (addC
 c.snd.snd
 (ByteArray.mk
 #[(97 :
 UInt8)]))
 (ByteArray.mk
 #[(98 :
 UInt8)])))).snd.fst.turn ∧
 (writeL
 (openD
 n.d)
 (Ls.mk
 false
 (openD
 n.d).turn
 (openD
 n.d).opened
 r
 true
 (c.fst +
 (1 :
 Int) +
 (1 :
 Int),
 (1 :
 Int),
 addC
 (addC
 c.snd.snd
 (ByteArray.mk
 #[(97 :
 UInt8)]))
 (ByteArray.mk
 #[(98 :
 UInt8)])))).snd.fst.turn ≤
 (1000000 :
 Int)) ∧
 True ∧
 ∃ (r_1 : Rt),
 ∃ (c_1 : Cn),
 True ∧
 (((True ∧
 false =
 false ∧
 (0 :
 Int) =
 (0 :
 Int) ∧
 (writeL
 (openD
 n.d)
 (Ls.mk
 false
 (openD
 n.d).turn
 (openD
 n.d).opened
 r
 true
 (c.fst +
 (1 :
 Int) +
 (1 :
 Int),
 (1 :
 Int),
 addC
 (addC
 c.snd.snd
 (ByteArray.mk
 #[(97 :
 UInt8)]))
 (ByteArray.mk
 #[(98 :
 UInt8)])))).snd.fst.turn +
 (1 :
 Int) =
 (writeL
 (openD
 n.d)
 (Ls.mk
 false
 (openD
 n.d).turn
 (openD
 n.d).opened
 r
 true
 (c.fst +
 (1 :
 Int) +
 (1 :
 Int),
 (1 :
 Int),
 addC
 (addC
 c.snd.snd
 (ByteArray.mk
 #[(97 :
 UInt8)]))
 (ByteArray.mk
 #[(98 :
 UInt8)])))).snd.fst.turn +
 (1 :
 Int) ∧
 (writeL
 (openD
 n.d)
 (Ls.mk
 false
 (openD
 n.d).turn
 (openD
 n.d).opened
 r
 true
 (c.fst +
 (1 :
 Int) +
 (1 :
 Int),
 (1 :
 Int),
 addC
 (addC
 c.snd.snd
 (ByteArray.mk
 #[(97 :
 UInt8)]))
 (ByteArray.mk
 #[(98 :
 UInt8)])))).snd.fst.opened =
 (writeL
 (openD
 n.d)
 (Ls.mk
 false
 (openD
 n.d).turn
 (openD
 n.d).opened
 r
 true
 (c.fst +
 (1 :
 Int) +
 (1 :
 Int),
 (1 :
 Int),
 addC
 (addC
 c.snd.snd
 (ByteArray.mk
 #[(97 :
 UInt8)]))
 (ByteArray.mk
 #[(98 :
 UInt8)])))).snd.fst.opened ∧
 True) ∧
 (True ∧
 True) ∧
 tearN
 (0 :
 Int)
 (writeL
 (openD
 n.d)
 (Ls.mk
 false
 (openD
 n.d).turn
 (openD
 n.d).opened
 r
 true
 (c.fst +
 (1 :
 Int) +
 (1 :
 Int),
 (1 :
 Int),
 addC
 (addC
 c.snd.snd
 (ByteArray.mk
 #[(97 :
 UInt8)]))
 (ByteArray.mk
 #[(98 :
 UInt8)])))).snd.fst.sy
 (keysF
 (writeL
 (openD
 n.d)
 (Ls.mk
 false
 (openD
 n.d).turn
 (openD
 n.d).opened
 r
 true
 (c.fst +
 (1 :
 Int) +
 (1 :
 Int),
 (1 :
 Int),
 addC
 (addC
 c.snd.snd
 (ByteArray.mk
 #[(97 :
 UInt8)]))
 (ByteArray.mk
 #[(98 :
 UInt8)])))).snd.fst.sy)
 (writeL
 (openD
 n.d)
 (Ls.mk
 false
 (openD
 n.d).turn
 (openD
 n.d).opened
 r
 true
 (c.fst +
 (1 :
 Int) +
 (1 :
 Int),
 (1 :
 Int),
 addC
 (addC
 c.snd.snd
 (ByteArray.mk
 #[(97 :
 UInt8)]))
 (ByteArray.mk
 #[(98 :
 UInt8)])))).snd.fst.bl
 (keysF
 (writeL
 (openD
 n.d)
 (Ls.mk
 false
 (openD
 n.d).turn
 (openD
 n.d).opened
 r
 true
 (c.fst +
 (1 :
 Int) +
 (1 :
 Int),
 (1 :
 Int),
 addC
 (addC
 c.snd.snd
 (ByteArray.mk
 #[(97 :
 UInt8)]))
 (ByteArray.mk
 #[(98 :
 UInt8)])))).snd.fst.sy).length =
 tearN
 (0 :
 Int)
 (writeL
 (openD
 n.d)
 (Ls.mk
 false
 (openD
 n.d).turn
 (openD
 n.d).opened
 r
 true
 (c.fst +
 (1 :
 Int) +
 (1 :
 Int),
 (1 :
 Int),
 addC
 (addC
 c.snd.snd
 (ByteArray.mk
 #[(97 :
 UInt8)]))
 (ByteArray.mk
 #[(98 :
 UInt8)])))).snd.fst.sy
 (keysF
 (writeL
 (openD
 n.d)
 (Ls.mk
 false
 (openD
 n.d).turn
 (openD
 n.d).opened
 r
 true
 (c.fst +
 (1 :
 Int) +
 (1 :
 Int),
 (1 :
 Int),
 addC
 (addC
 c.snd.snd
 (ByteArray.mk
 #[(97 :
 UInt8)]))
 (ByteArray.mk
 #[(98 :
 UInt8)])))).snd.fst.sy)
 (writeL
 (openD
 n.d)
 (Ls.mk
 false
 (openD
 n.d).turn
 (openD
 n.d).opened
 r
 true
 (c.fst +
 (1 :
 Int) +
 (1 :
 Int),
 (1 :
 Int),
 addC
 (addC
 c.snd.snd
 (ByteArray.mk
 #[(97 :
 UInt8)]))
 (ByteArray.mk
 #[(98 :
 UInt8)])))).snd.fst.bl
 (keysF
 (writeL
 (openD
 n.d)
 (Ls.mk
 false
 (openD
 n.d).turn
 (openD
 n.d).opened
 r
 true
 (c.fst +
 (1 :
 Int) +
 (1 :
 Int),
 (1 :
 Int),
 addC
 (addC
 c.snd.snd
 (ByteArray.mk
 #[(97 :
 UInt8)]))
 (ByteArray.mk
 #[(98 :
 UInt8)])))).snd.fst.sy).length) ∧
 nilT
 (Int ×
 List
 Int) =
 nilT
 (Int ×
 List
 Int) ∧
 Ent.gl
 (0 :
 Nat)
 t.fst
 (Value.iface
 t.snd
 u) =
 Ent.gl
 (0 :
 Nat)
 t.fst
 (Value.iface
 t.snd
 u) ∧
 True) ∧
 (True ∧
 True) ∧
 (DkOK
 (Dk.mk
 false
 (0 :
 Int)
 ((writeL
 (openD
 n.d)
 (Ls.mk
 false
 (openD
 n.d).turn
 (openD
 n.d).opened
 r
 true
 (c.fst +
 (1 :
 Int) +
 (1 :
 Int),
 (1 :
 Int),
 addC
 (addC
 c.snd.snd
 (ByteArray.mk
 #[(97 :
 UInt8)]))
 (ByteArray.mk
 #[(98 :
 UInt8)])))).snd.fst.turn +
 (1 :
 Int))
 (writeL
 (openD
 n.d)
 (Ls.mk
 false
 (openD
 n.d).turn
 (openD
 n.d).opened
 r
 true
 (c.fst +
 (1 :
 Int) +
 (1 :
 Int),
 (1 :
 Int),
 addC
 (addC
 c.snd.snd
 (ByteArray.mk
 #[(97 :
 UInt8)]))
 (ByteArray.mk
 #[(98 :
 UInt8)])))).snd.fst.opened
 (tearN
 (0 :
 Int)
 (writeL
 (openD
 n.d)
 (Ls.mk
 false
 (openD
 n.d).turn
 (openD
 n.d).opened
 r
 true
 (c.fst +
 (1 :
 Int) +
 (1 :
 Int),
 (1 :
 Int),
 addC
 (addC
 c.snd.snd
 (ByteArray.mk
 #[(97 :
 UInt8)]))
 (ByteArray.mk
 #[(98 :
 UInt8)])))).snd.fst.sy
 (keysF
 (writeL
 (openD
 n.d)
 (Ls.mk
 false
 (openD
 n.d).turn
 (openD
 n.d).opened
 r
 true
 (c.fst +
 (1 :
 Int) +
 (1 :
 Int),
 (1 :
 Int),
 addC
 (addC
 c.snd.snd
 (ByteArray.mk
 #[(97 :
 UInt8)]))
 (ByteArray.mk
 #[(98 :
 UInt8)])))).snd.fst.sy)
 (writeL
 (openD
 n.d)
 (Ls.mk
 false
 (openD
 n.d).turn
 (openD
 n.d).opened
 r
 true
 (c.fst +
 (1 :
 Int) +
 (1 :
 Int),
 (1 :
 Int),
 addC
 (addC
 c.snd.snd
 (ByteArray.mk
 #[(97 :
 UInt8)]))
 (ByteArray.mk
 #[(98 :
 UInt8)])))).snd.fst.bl
 (keysF
 (writeL
 (openD
 n.d)
 (Ls.mk
 false
 (openD
 n.d).turn
 (openD
 n.d).opened
 r
 true
 (c.fst +
 (1 :
 Int) +
 (1 :
 Int),
 (1 :
 Int),
 addC
 (addC
 c.snd.snd
 (ByteArray.mk
 #[(97 :
 UInt8)]))
 (ByteArray.mk
 #[(98 :
 UInt8)])))).snd.fst.sy).length)
 []) ∧
 NewP
 (tearN
 (0 :
 Int)
 (writeL
 (openD
 n.d)
 (Ls.mk
 false
 (openD
 n.d).turn
 (openD
 n.d).opened
 r
 true
 (c.fst +
 (1 :
 Int) +
 (1 :
 Int),
 (1 :
 Int),
 addC
 (addC
 c.snd.snd
 (ByteArray.mk
 #[(97 :
 UInt8)]))
 (ByteArray.mk
 #[(98 :
 UInt8)])))).snd.fst.sy
 (keysF
 (writeL
 (openD
 n.d)
 (Ls.mk
 false
 (openD
 n.d).turn
 (openD
 n.d).opened
 r
 true
 (c.fst +
 (1 :
 Int) +
 (1 :
 Int),
 (1 :
 Int),
 addC
 (addC
 c.snd.snd
 (ByteArray.mk
 #[(97 :
 UInt8)]))
 (ByteArray.mk
 #[(98 :
 UInt8)])))).snd.fst.sy)
 (writeL
 (openD
 n.d)
 (Ls.mk
 false
 (openD
 n.d).turn
 (openD
 n.d).opened
 r
 true
 (c.fst +
 (1 :
 Int) +
 (1 :
 Int),
 (1 :
 Int),
 addC
 (addC
 c.snd.snd
 (ByteArray.mk
 #[(97 :
 UInt8)]))
 (ByteArray.mk
 #[(98 :
 UInt8)])))).snd.fst.bl
 (keysF
 (writeL
 (openD
 n.d)
 (Ls.mk
 false
 (openD
 n.d).turn
 (openD
 n.d).opened
 r
 true
 (c.fst +
 (1 :
 Int) +
 (1 :
 Int),
 (1 :
 Int),
 addC
 (addC
 c.snd.snd
 (ByteArray.mk
 #[(97 :
 UInt8)]))
 (ByteArray.mk
 #[(98 :
 UInt8)])))).snd.fst.sy).length)
 r_1
 c_1 ∧
 false =
 false ∧
 (syncF
 (upD
 (Dk.mk
 false
 (0 :
 Int)
 ((writeL
 (openD
 n.d)
 (Ls.mk
 false
 (openD
 n.d).turn
 (openD
 n.d).opened
 r
 true
 (c.fst +
 (1 :
 Int) +
 (1 :
 Int),
 (1 :
 Int),
 addC
 (addC
 c.snd.snd
 (ByteArray.mk
 #[(97 :
 UInt8)]))
 (ByteArray.mk
 #[(98 :
 UInt8)])))).snd.fst.turn +
 (1 :
 Int))
 (writeL
 (openD
 n.d)
 (Ls.mk
 false
 (openD
 n.d).turn
 (openD
 n.d).opened
 r
 true
 (c.fst +
 (1 :
 Int) +
 (1 :
 Int),
 (1 :
 Int),
 addC
 (addC
 c.snd.snd
 (ByteArray.mk
 #[(97 :
 UInt8)]))
 (ByteArray.mk
 #[(98 :
 UInt8)])))).snd.fst.opened
 (tearN
 (0 :
 Int)
 (writeL
 (openD
 n.d)
 (Ls.mk
 false
 (openD
 n.d).turn
 (openD
 n.d).opened
 r
 true
 (c.fst +
 (1 :
 Int) +
 (1 :
 Int),
 (1 :
 Int),
 addC
 (addC
 c.snd.snd
 (ByteArray.mk
 #[(97 :
 UInt8)]))
 (ByteArray.mk
 #[(98 :
 UInt8)])))).snd.fst.sy
 (keysF
 (writeL
 (openD
 n.d)
 (Ls.mk
 false
 (openD
 n.d).turn
 (openD
 n.d).opened
 r
 true
 (c.fst +
 (1 :
 Int) +
 (1 :
 Int),
 (1 :
 Int),
 addC
 (addC
 c.snd.snd
 (ByteArray.mk
 #[(97 :
 UInt8)]))
 (ByteArray.mk
 #[(98 :
 UInt8)])))).snd.fst.sy)
 (writeL
 (openD
 n.d)
 (Ls.mk
 false
 (openD
 n.d).turn
 (openD
 n.d).opened
 r
 true
 (c.fst +
 (1 :
 Int) +
 (1 :
 Int),
 (1 :
 Int),
 addC
 (addC
 c.snd.snd
 (ByteArray.mk
 #[(97 :
 UInt8)]))
 (ByteArray.mk
 #[(98 :
 UInt8)])))).snd.fst.bl
 (keysF
 (writeL
 (openD
 n.d)
 (Ls.mk
 false
 (openD
 n.d).turn
 (openD
 n.d).opened
 r
 true
 (c.fst +
 (1 :
 Int) +
 (1 :
 Int),
 (1 :
 Int),
 addC
 (addC
 c.snd.snd
 (ByteArray.mk
 #[(97 :
 UInt8)]))
 (ByteArray.mk
 #[(98 :
 UInt8)])))).snd.fst.sy).length)
 (nilT
 (Int ×
 List
 Int))))).fst =
 (0 :
 Int) ∧
 (0 :
 Int) ≤
 (writeL
 (openD
 n.d)
 (Ls.mk
 false
 (openD
 n.d).turn
 (openD
 n.d).opened
 r
 true
 (c.fst +
 (1 :
 Int) +
 (1 :
 Int),
 (1 :
 Int),
 addC
 (addC
 c.snd.snd
 (ByteArray.mk
 #[(97 :
 UInt8)]))
 (ByteArray.mk
 #[(98 :
 UInt8)])))).snd.fst.opened ∧
 (writeL
 (openD
 n.d)
 (Ls.mk
 false
 (openD
 n.d).turn
 (openD
 n.d).opened
 r
 true
 (c.fst +
 (1 :
 Int) +
 (1 :
 Int),
 (1 :
 Int),
 addC
 (addC
 c.snd.snd
 (ByteArray.mk
 #[(97 :
 UInt8)]))
 (ByteArray.mk
 #[(98 :
 UInt8)])))).snd.fst.opened ≤
 (1000000 :
 Int)) ∧
 True ∧
 g12_q4
 t
 u
 n ∧
 (¬¬(0 :
 Int) =
 (0 :
 Int) →
 ¬¬(0 :
 Int) =
 (0 :
 Int) ∧
 ¬¬(0 :
 Int) =
 (0 :
 Int) ∧
 ¬¬(0 :
 Int) =
 (0 :
 Int) ∧
 (false =
 false ∧
 (openD
 n.d).turn =
 (writeL
 (openD
 n.d)
 (Ls.mk
 false
 (openD
 n.d).turn
 (openD
 n.d).opened
 r
 true
 (c.fst +
 (1 :
 Int) +
 (1 :
 Int),
 (1 :
 Int),
 addC
 (addC
 c.snd.snd
 (ByteArray.mk
 #[(97 :
 UInt8)]))
 (ByteArray.mk
 #[(98 :
 UInt8)])))).snd.fst.turn +
 (1 :
 Int) ∧
 (openD
 n.d).opened =
 (writeL
 (openD
 n.d)
 (Ls.mk
 false
 (openD
 n.d).turn
 (openD
 n.d).opened
 r
 true
 (c.fst +
 (1 :
 Int) +
 (1 :
 Int),
 (1 :
 Int),
 addC
 (addC
 c.snd.snd
 (ByteArray.mk
 #[(97 :
 UInt8)]))
 (ByteArray.mk
 #[(98 :
 UInt8)])))).snd.fst.opened +
 (1 :
 Int) →
 True ∧
 (((True ∧
 false =
 false ∧
 (0 :
 Int) =
 (0 :
 Int) ∧
 (writeL
 (openD
 n.d)
 (Ls.mk
 false
 (openD
 n.d).turn
 (openD
 n.d).opened
 r
 true
 (c.fst +
 (1 :
 Int) +
 (1 :
 Int),
 (1 :
 Int),
 addC
 (addC
 c.snd.snd
 (ByteArray.mk
 #[(97 :
 UInt8)]))
 (ByteArray.mk
 #[(98 :
 UInt8)])))).snd.fst.turn +
 (1 :
 Int) =
 (writeL
 (openD
 n.d)
 (Ls.mk
 false
 (openD
 n.d).turn
 (openD
 n.d).opened
 r
 true
 (c.fst +
 (1 :
 Int) +
 (1 :
 Int),
 (1 :
 Int),
 addC
 (addC
 c.snd.snd
 (ByteArray.mk
 #[(97 :
 UInt8)]))
 (ByteArray.mk
 #[(98 :
 UInt8)])))).snd.fst.turn +
 (1 :
 Int) ∧
 (writeL
 (openD
 n.d)
 (Ls.mk
 false
 (openD
 n.d).turn
 (openD
 n.d).opened
 r
 true
 (c.fst +
 (1 :
 Int) +
 (1 :
 Int),
 (1 :
 Int),
 addC
 (addC
 c.snd.snd
 (ByteArray.mk
 #[(97 :
 UInt8)]))
 (ByteArray.mk
 #[(98 :
 UInt8)])))).snd.fst.opened +
 (1 :
 Int) =
 (writeL
 (openD
 n.d)
 (Ls.mk
 false
 (openD
 n.d).turn
 (openD
 n.d).opened
 r
 true
 (c.fst +
 (1 :
 Int) +
 (1 :
 Int),
 (1 :
 Int),
 addC
 (addC
 c.snd.snd
 (ByteArray.mk
 #[(97 :
 UInt8)]))
 (ByteArray.mk
 #[(98 :
 UInt8)])))).snd.fst.opened +
 (1 :
 Int) ∧
 True) ∧
 (True ∧
 True) ∧
 tearN
 (0 :
 Int)
 (writeL
 (openD
 n.d)
 (Ls.mk
 false
 (openD
 n.d).turn
 (openD
 n.d).opened
 r
 true
 (c.fst +
 (1 :
 Int) +
 (1 :
 Int),
 (1 :
 Int),
 addC
 (addC
 c.snd.snd
 (ByteArray.mk
 #[(97 :
 UInt8)]))
 (ByteArray.mk
 #[(98 :
 UInt8)])))).snd.fst.sy
 (keysF
 (writeL
 (openD
 n.d)
 (Ls.mk
 false
 (openD
 n.d).turn
 (openD
 n.d).opened
 r
 true
 (c.fst +
 (1 :
 Int) +
 (1 :
 Int),
 (1 :
 Int),
 addC
 (addC
 c.snd.snd
 (ByteArray.mk
 #[(97 :
 UInt8)]))
 (ByteArray.mk
 #[(98 :
 UInt8)])))).snd.fst.sy)
 (writeL
 (openD
 n.d)
 (Ls.mk
 false
 (openD
 n.d).turn
 (openD
 n.d).opened
 r
 true
 (c.fst +
 (1 :
 Int) +
 (1 :
 Int),
 (1 :
 Int),
 addC
 (addC
 c.snd.snd
 (ByteArray.mk
 #[(97 :
 UInt8)]))
 (ByteArray.mk
 #[(98 :
 UInt8)])))).snd.fst.bl
 (keysF
 (writeL
 (openD
 n.d)
 (Ls.mk
 false
 (openD
 n.d).turn
 (openD
 n.d).opened
 r
 true
 (c.fst +
 (1 :
 Int) +
 (1 :
 Int),
 (1 :
 Int),
 addC
 (addC
 c.snd.snd
 (ByteArray.mk
 #[(97 :
 UInt8)]))
 (ByteArray.mk
 #[(98 :
 UInt8)])))).snd.fst.sy).length =
 tearN
 (0 :
 Int)
 (writeL
 (openD
 n.d)
 (Ls.mk
 false
 (openD
 n.d).turn
 (openD
 n.d).opened
 r
 true
 (c.fst +
 (1 :
 Int) +
 (1 :
 Int),
 (1 :
 Int),
 addC
 (addC
 c.snd.snd
 (ByteArray.mk
 #[(97 :
 UInt8)]))
 (ByteArray.mk
 #[(98 :
 UInt8)])))).snd.fst.sy
 (keysF
 (writeL
 (openD
 n.d)
 (Ls.mk
 false
 (openD
 n.d).turn
 (openD
 n.d).opened
 r
 true
 (c.fst +
 (1 :
 Int) +
 (1 :
 Int),
 (1 :
 Int),
 addC
 (addC
 c.snd.snd
 (ByteArray.mk
 #[(97 :
 UInt8)]))
 (ByteArray.mk
 #[(98 :
 UInt8)])))).snd.fst.sy)
 (writeL
 (openD
 n.d)
 (Ls.mk
 false
 (openD
 n.d).turn
 (openD
 n.d).opened
 r
 true
 (c.fst +
 (1 :
 Int) +
 (1 :
 Int),
 (1 :
 Int),
 addC
 (addC
 c.snd.snd
 (ByteArray.mk
 #[(97 :
 UInt8)]))
 (ByteArray.mk
 #[(98 :
 UInt8)])))).snd.fst.bl
 (keysF
 (writeL
 (openD
 n.d)
 (Ls.mk
 false
 (openD
 n.d).turn
 (openD
 n.d).opened
 r
 true
 (c.fst +
 (1 :
 Int) +
 (1 :
 Int),
 (1 :
 Int),
 addC
 (addC
 c.snd.snd
 (ByteArray.mk
 #[(97 :
 UInt8)]))
 (ByteArray.mk
 #[(98 :
 UInt8)])))).snd.fst.sy).length) ∧
 nilT
 (Int ×
 List
 Int) =
 nilT
 (Int ×
 List
 Int) ∧
 (True ∧
 false =
 false ∧
 True ∧
 (openD
 n.d).turn =
 (openD
 n.d).turn ∧
 (openD
 n.d).opened =
 (openD
 n.d).opened ∧
 (nextR
 (Ls.mk
 false
 (openD
 n.d).turn
 (openD
 n.d).opened
 r
 true
 (c.fst +
 (1 :
 Int) +
 (1 :
 Int),
 (1 :
 Int),
 addC
 (addC
 c.snd.snd
 (ByteArray.mk
 #[(97 :
 UInt8)]))
 (ByteArray.mk
 #[(98 :
 UInt8)])))).fst =
 (nextR
 (Ls.mk
 false
 (openD
 n.d).turn
 (openD
 n.d).opened
 r
 true
 (c.fst +
 (1 :
 Int) +
 (1 :
 Int),
 (1 :
 Int),
 addC
 (addC
 c.snd.snd
 (ByteArray.mk
 #[(97 :
 UInt8)]))
 (ByteArray.mk
 #[(98 :
 UInt8)])))).fst ∧
 (nextR
 (Ls.mk
 false
 (openD
 n.d).turn
 (openD
 n.d).opened
 r
 true
 (c.fst +
 (1 :
 Int) +
 (1 :
 Int),
 (1 :
 Int),
 addC
 (addC
 c.snd.snd
 (ByteArray.mk
 #[(97 :
 UInt8)]))
 (ByteArray.mk
 #[(98 :
 UInt8)])))).snd.fst =
 (nextR
 (Ls.mk
 false
 (openD
 n.d).turn
 (openD
 n.d).opened
 r
 true
 (c.fst +
 (1 :
 Int) +
 (1 :
 Int),
 (1 :
 Int),
 addC
 (addC
 c.snd.snd
 (ByteArray.mk
 #[(97 :
 UInt8)]))
 (ByteArray.mk
 #[(98 :
 UInt8)])))).snd.fst ∧
 (nextR
 (Ls.mk
 false
 (openD
 n.d).turn
 (openD
 n.d).opened
 r
 true
 (c.fst +
 (1 :
 Int) +
 (1 :
 Int),
 (1 :
 Int),
 addC
 (addC
 c.snd.snd
 (ByteArray.mk
 #[(97 :
 UInt8)]))
 (ByteArray.mk
 #[(98 :
 UInt8)])))).snd.snd =
 (nextR
 (Ls.mk
 false
 (openD
 n.d).turn
 (openD
 n.d).opened
 r
 true
 (c.fst +
 (1 :
 Int) +
 (1 :
 Int),
 (1 :
 Int),
 addC
 (addC
 c.snd.snd
 (ByteArray.mk
 #[(97 :
 UInt8)]))
 (ByteArray.mk
 #[(98 :
 UInt8)])))).snd.snd ∧
 false =
 false ∧
 c.fst +
 (1 :
 Int) +
 (1 :
 Int) =
 c.fst +
 (1 :
 Int) +
 (1 :
 Int) ∧
 (1 :
 Int) =
 (1 :
 Int) ∧
 True ∧
 True) ∧
 addC
 (addC
 c.snd.snd
 (ByteArray.mk
 #[(97 :
 UInt8)]))
 (ByteArray.mk
 #[(98 :
 UInt8)]) =
 addC
 (addC
 c.snd.snd
 (ByteArray.mk
 #[(97 :
 UInt8)]))
 (ByteArray.mk
 #[(98 :
 UInt8)]) ∧
 True) ∧
 (True ∧
 True) ∧
 ((DkOK
 (Dk.mk
 false
 (0 :
 Int)
 ((writeL
 (openD
 n.d)
 (Ls.mk
 false
 (openD
 n.d).turn
 (openD
 n.d).opened
 r
 true
 (c.fst +
 (1 :
 Int) +
 (1 :
 Int),
 (1 :
 Int),
 addC
 (addC
 c.snd.snd
 (ByteArray.mk
 #[(97 :
 UInt8)]))
 (ByteArray.mk
 #[(98 :
 UInt8)])))).snd.fst.turn +
 (1 :
 Int))
 ((writeL
 (openD
 n.d)
 (Ls.mk
 false
 (openD
 n.d).turn
 (openD
 n.d).opened
 r
 true
 (c.fst +
 (1 :
 Int) +
 (1 :
 Int),
 (1 :
 Int),
 addC
 (addC
 c.snd.snd
 (ByteArray.mk
 #[(97 :
 UInt8)]))
 (ByteArray.mk
 #[(98 :
 UInt8)])))).snd.fst.opened +
 (1 :
 Int))
 (tearN
 (0 :
 Int)
 (writeL
 (openD
 n.d)
 (Ls.mk
 false
 (openD
 n.d).turn
 (openD
 n.d).opened
 r
 true
 (c.fst +
 (1 :
 Int) +
 (1 :
 Int),
 (1 :
 Int),
 addC
 (addC
 c.snd.snd
 (ByteArray.mk
 #[(97 :
 UInt8)]))
 (ByteArray.mk
 #[(98 :
 UInt8)])))).snd.fst.sy
 (keysF
 (writeL
 (openD
 n.d)
 (Ls.mk
 false
 (openD
 n.d).turn
 (openD
 n.d).opened
 r
 true
 (c.fst +
 (1 :
 Int) +
 (1 :
 Int),
 (1 :
 Int),
 addC
 (addC
 c.snd.snd
 (ByteArray.mk
 #[(97 :
 UInt8)]))
 (ByteArray.mk
 #[(98 :
 UInt8)])))).snd.fst.sy)
 (writeL
 (openD
 n.d)
 (Ls.mk
 false
 (openD
 n.d).turn
 (openD
 n.d).opened
 r
 true
 (c.fst +
 (1 :
 Int) +
 (1 :
 Int),
 (1 :
 Int),
 addC
 (addC
 c.snd.snd
 (ByteArray.mk
 #[(97 :
 UInt8)]))
 (ByteArray.mk
 #[(98 :
 UInt8)])))).snd.fst.bl
 (keysF
 (writeL
 (openD
 n.d)
 (Ls.mk
 false
 (openD
 n.d).turn
 (openD
 n.d).opened
 r
 true
 (c.fst +
 (1 :
 Int) +
 (1 :
 Int),
 (1 :
 Int),
 addC
 (addC
 c.snd.snd
 (ByteArray.mk
 #[(97 :
 UInt8)]))
 (ByteArray.mk
 #[(98 :
 UInt8)])))).snd.fst.sy).length)
 []) ∧
 (((0 :
 Int) ≤
 c.fst +
 (1 :
 Int) +
 (1 :
 Int) ∧
 c.fst +
 (1 :
 Int) +
 (1 :
 Int) <
 (281474976710656 :
 Int)) ∧
 ((0 :
 Int) ≤
 (1 :
 Int) ∧
 (1 :
 Int) <
 (281474976710656 :
 Int)) ∧
 (addC
 (addC
 c.snd.snd
 (ByteArray.mk
 #[(97 :
 UInt8)]))
 (ByteArray.mk
 #[(98 :
 UInt8)])).length ≤
 (40 :
 Nat) ∧
 ∀
 (s :
 ByteArray),
 s ∈
 addC
 (addC
 c.snd.snd
 (ByteArray.mk
 #[(97 :
 UInt8)]))
 (ByteArray.mk
 #[(98 :
 UInt8)]) →
 s.size ≤
 (24 :
 Nat)) ∧
 (0 :
 Int) ≤
 (nextR
 (Ls.mk
 false
 (openD
 n.d).turn
 (openD
 n.d).opened
 r
 true
 (c.fst +
 (1 :
 Int) +
 (1 :
 Int),
 (1 :
 Int),
 addC
 (addC
 c.snd.snd
 (ByteArray.mk
 #[(97 :
 UInt8)]))
 (ByteArray.mk
 #[(98 :
 UInt8)])))).fst ∧
 (nextR
 (Ls.mk
 false
 (openD
 n.d).turn
 (openD
 n.d).opened
 r
 true
 (c.fst +
 (1 :
 Int) +
 (1 :
 Int),
 (1 :
 Int),
 addC
 (addC
 c.snd.snd
 (ByteArray.mk
 #[(97 :
 UInt8)]))
 (ByteArray.mk
 #[(98 :
 UInt8)])))).fst ≤
 (1000000 :
 Int)) ∧
 (false =
 false ∧
 (openD
 n.d).turn =
 (writeL
 (openD
 n.d)
 (Ls.mk
 false
 (openD
 n.d).turn
 (openD
 n.d).opened
 r
 true
 (c.fst +
 (1 :
 Int) +
 (1 :
 Int),
 (1 :
 Int),
 addC
 (addC
 c.snd.snd
 (ByteArray.mk
 #[(97 :
 UInt8)]))
 (ByteArray.mk
 #[(98 :
 UInt8)])))).snd.fst.turn +
 (1 :
 Int) ∧
 (openD
 n.d).opened =
 (writeL
 (openD
 n.d)
 (Ls.mk
 false
 (openD
 n.d).turn
 (openD
 n.d).opened
 r
 true
 (c.fst +
 (1 :
 Int) +
 (1 :
 Int),
 (1 :
 Int),
 addC
 (addC
 c.snd.snd
 (ByteArray.mk
 #[(97 :
 UInt8)]))
 (ByteArray.mk
 #[(98 :
 UInt8)])))).snd.fst.opened +
 (1 :
 Int)) ∧
 false =
 true ∧
 (writeL
 (Dk.mk
 false
 (0 :
 Int)
 ((writeL
 (openD
 n.d)
 (Ls.mk
 false
 (openD
 n.d).turn
 (openD
 n.d).opened
 r
 true
 (c.fst +
 (1 :
 Int) +
 (1 :
 Int),
 (1 :
 Int),
 addC
 (addC
 c.snd.snd
 (ByteArray.mk
 #[(97 :
 UInt8)]))
 (ByteArray.mk
 #[(98 :
 UInt8)])))).snd.fst.turn +
 (1 :
 Int))
 ((writeL
 (openD
 n.d)
 (Ls.mk
 false
 (openD
 n.d).turn
 (openD
 n.d).opened
 r
 true
 (c.fst +
 (1 :
 Int) +
 (1 :
 Int),
 (1 :
 Int),
 addC
 (addC
 c.snd.snd
 (ByteArray.mk
 #[(97 :
 UInt8)]))
 (ByteArray.mk
 #[(98 :
 UInt8)])))).snd.fst.opened +
 (1 :
 Int))
 (tearN
 (0 :
 Int)
 (writeL
 (openD
 n.d)
 (Ls.mk
 false
 (openD
 n.d).turn
 (openD
 n.d).opened
 r
 true
 (c.fst +
 (1 :
 Int) +
 (1 :
 Int),
 (1 :
 Int),
 addC
 (addC
 c.snd.snd
 (ByteArray.mk
 #[(97 :
 UInt8)]))
 (ByteArray.mk
 #[(98 :
 UInt8)])))).snd.fst.sy
 (keysF
 (writeL
 (openD
 n.d)
 (Ls.mk
 false
 (openD
 n.d).turn
 (openD
 n.d).opened
 r
 true
 (c.fst +
 (1 :
 Int) +
 (1 :
 Int),
 (1 :
 Int),
 addC
 (addC
 c.snd.snd
 (ByteArray.mk
 #[(97 :
 UInt8)]))
 (ByteArray.mk
 #[(98 :
 UInt8)])))).snd.fst.sy)
 (writeL
 (openD
 n.d)
 (Ls.mk
 false
 (openD
 n.d).turn
 (openD
 n.d).opened
 r
 true
 (c.fst +
 (1 :
 Int) +
 (1 :
 Int),
 (1 :
 Int),
 addC
 (addC
 c.snd.snd
 (ByteArray.mk
 #[(97 :
 UInt8)]))
 (ByteArray.mk
 #[(98 :
 UInt8)])))).snd.fst.bl
 (keysF
 (writeL
 (openD
 n.d)
 (Ls.mk
 false
 (openD
 n.d).turn
 (openD
 n.d).opened
 r
 true
 (c.fst +
 (1 :
 Int) +
 (1 :
 Int),
 (1 :
 Int),
 addC
 (addC
 c.snd.snd
 (ByteArray.mk
 #[(97 :
 UInt8)]))
 (ByteArray.mk
 #[(98 :
 UInt8)])))).snd.fst.sy).length)
 (nilT
 (Int ×
 List
 Int)))
 (Ls.mk
 false
 (openD
 n.d).turn
 (openD
 n.d).opened
 (nextR
 (Ls.mk
 false
 (openD
 n.d).turn
 (openD
 n.d).opened
 r
 true
 (c.fst +
 (1 :
 Int) +
 (1 :
 Int),
 (1 :
 Int),
 addC
 (addC
 c.snd.snd
 (ByteArray.mk
 #[(97 :
 UInt8)]))
 (ByteArray.mk
 #[(98 :
 UInt8)]))))
 false
 (c.fst +
 (1 :
 Int) +
 (1 :
 Int),
 (1 :
 Int),
 addC
 (addC
 c.snd.snd
 (ByteArray.mk
 #[(97 :
 UInt8)]))
 (ByteArray.mk
 #[(98 :
 UInt8)])))).fst =
 (0 :
 Int)) ∧
 True ∧
 g12_q5
 t
 u
 n ∧
 (¬¬(0 :
 Int) =
 (6 :
 Int) →
 ¬¬(0 :
 Int) =
 (6 :
 Int) ∧
 ¬¬(0 :
 Int) =
 (6 :
 Int) ∧
 True ∧
 (((True ∧
 (writeL
 (Dk.mk
 false
 (0 :
 Int)
 ((writeL
 (openD
 n.d)
 (Ls.mk
 false
 (openD
 n.d).turn
 (openD
 n.d).opened
 r
 true
 (c.fst +
 (1 :
 Int) +
 (1 :
 Int),
 (1 :
 Int),
 addC
 (addC
 c.snd.snd
 (ByteArray.mk
 #[(97 :
 UInt8)]))
 (ByteArray.mk
 #[(98 :
 UInt8)])))).snd.fst.turn +
 (1 :
 Int))
 ((writeL
 (openD
 n.d)
 (Ls.mk
 false
 (openD
 n.d).turn
 (openD
 n.d).opened
 r
 true
 (c.fst +
 (1 :
 Int) +
 (1 :
 Int),
 (1 :
 Int),
 addC
 (addC
 c.snd.snd
 (ByteArray.mk
 #[(97 :
 UInt8)]))
 (ByteArray.mk
 #[(98 :
 UInt8)])))).snd.fst.opened +
 (1 :
 Int))
 (tearN
 (0 :
 Int)
 (writeL
 (openD
 n.d)
 (Ls.mk
 false
 (openD
 n.d).turn
 (openD
 n.d).opened
 r
 true
 (c.fst +
 (1 :
 Int) +
 (1 :
 Int),
 (1 :
 Int),
 addC
 (addC
 c.snd.snd
 (ByteArray.mk
 #[(97 :
 UInt8)]))
 (ByteArray.mk
 #[(98 :
 UInt8)])))).snd.fst.sy
 (keysF
 (writeL
 (openD
 n.d)
 (Ls.mk
 false
 (openD
 n.d).turn
 (openD
 n.d).opened
 r
 true
 (c.fst +
 (1 :
 Int) +
 (1 :
 Int),
 (1 :
 Int),
 addC
 (addC
 c.snd.snd
 (ByteArray.mk
 #[(97 :
 UInt8)]))
 (ByteArray.mk
 #[(98 :
 UInt8)])))).snd.fst.sy)
 (writeL
 (openD
 n.d)
 (Ls.mk
 false
 (openD
 n.d).turn
 (openD
 n.d).opened
 r
 true
 (c.fst +
 (1 :
 Int) +
 (1 :
 Int),
 (1 :
 Int),
 addC
 (addC
 c.snd.snd
 (ByteArray.mk
 #[(97 :
 UInt8)]))
 (ByteArray.mk
 #[(98 :
 UInt8)])))).snd.fst.bl
 (keysF
 (writeL
 (openD
 n.d)
 (Ls.mk
 false
 (openD
 n.d).turn
 (openD
 n.d).opened
 r
 true
 (c.fst +
 (1 :
 Int) +
 (1 :
 Int),
 (1 :
 Int),
 addC
 (addC
 c.snd.snd
 (ByteArray.mk
 #[(97 :
 UInt8)]))
 (ByteArray.mk
 #[(98 :
 UInt8)])))).snd.fst.sy).length)
 (nilT
 (Int ×
 List
 Int)))
 (Ls.mk
 false
 (openD
 n.d).turn
 (openD
 n.d).opened
 (nextR
 (Ls.mk
 false
 (openD
 n.d).turn
 (openD
 n.d).opened
 r
 true
 (c.fst +
 (1 :
 Int) +
 (1 :
 Int),
 (1 :
 Int),
 addC
 (addC
 c.snd.snd
 (ByteArray.mk
 #[(97 :
 UInt8)]))
 (ByteArray.mk
 #[(98 :
 UInt8)]))))
 false
 (c.fst +
 (1 :
 Int) +
 (1 :
 Int),
 (1 :
 Int),
 addC
 (addC
 c.snd.snd
 (ByteArray.mk
 #[(97 :
 UInt8)]))
 (ByteArray.mk
 #[(98 :
 UInt8)])))).snd.fst.down =
 (writeL
 (Dk.mk
 false
 (0 :
 Int)
 ((writeL
 (openD
 n.d)
 (Ls.mk
 false
 (openD
 n.d).turn
 (openD
 n.d).opened
 r
 true
 (c.fst +
 (1 :
 Int) +
 (1 :
 Int),
 (1 :
 Int),
 addC
 (addC
 c.snd.snd
 (ByteArray.mk
 #[(97 :
 UInt8)]))
 (ByteArray.mk
 #[(98 :
 UInt8)])))).snd.fst.turn +
 (1 :
 Int))
 ((writeL
 (openD
 n.d)
 (Ls.mk
 false
 (openD
 n.d).turn
 (openD
 n.d).opened
 r
 true
 (c.fst +
 (1 :
 Int) +
 (1 :
 Int),
 (1 :
 Int),
 addC
 (addC
 c.snd.snd
 (ByteArray.mk
 #[(97 :
 UInt8)]))
 (ByteArray.mk
 #[(98 :
 UInt8)])))).snd.fst.opened +
 (1 :
 Int))
 (tearN
 (0 :
 Int)
 (writeL
 (openD
 n.d)
 (Ls.mk
 false
 (openD
 n.d).turn
 (openD
 n.d).opened
 r
 true
 (c.fst +
 (1 :
 Int) +
 (1 :
 Int),
 (1 :
 Int),
 addC
 (addC
 c.snd.snd
 (ByteArray.mk
 #[(97 :
 UInt8)]))
 (ByteArray.mk
 #[(98 :
 UInt8)])))).snd.fst.sy
 (keysF
 (writeL
 (openD
 n.d)
 (Ls.mk
 false
 (openD
 n.d).turn
 (openD
 n.d).opened
 r
 true
 (c.fst +
 (1 :
 Int) +
 (1 :
 Int),
 (1 :
 Int),
 addC
 (addC
 c.snd.snd
 (ByteArray.mk
 #[(97 :
 UInt8)]))
 (ByteArray.mk
 #[(98 :
 UInt8)])))).snd.fst.sy)
 (writeL
 (openD
 n.d)
 (Ls.mk
 false
 (openD
 n.d).turn
 (openD
 n.d).opened
 r
 true
 (c.fst +
 (1 :
 Int) +
 (1 :
 Int),
 (1 :
 Int),
 addC
 (addC
 c.snd.snd
 (ByteArray.mk
 #[(97 :
 UInt8)]))
 (ByteArray.mk
 #[(98 :
 UInt8)])))).snd.fst.bl
 (keysF
 (writeL
 (openD
 n.d)
 (Ls.mk
 false
 (openD
 n.d).turn
 (openD
 n.d).opened
 r
 true
 (c.fst +
 (1 :
 Int) +
 (1 :
 Int),
 (1 :
 Int),
 addC
 (addC
 c.snd.snd
 (ByteArray.mk
 #[(97 :
 UInt8)]))
 (ByteArray.mk
 #[(98 :
 UInt8)])))).snd.fst.sy).length)
 (nilT
 (Int ×
 List
 Int)))
 (Ls.mk
 false
 (openD
 n.d).turn
 (openD
 n.d).opened
 (nextR
 (Ls.mk
 false
 (openD
 n.d).turn
 (openD
 n.d).opened
 r
 true
 (c.fst +
 (1 :
 Int) +
 (1 :
 Int),
 (1 :
 Int),
 addC
 (addC
 c.snd.snd
 (ByteArray.mk
 #[(97 :
 UInt8)]))
 (ByteArray.mk
 #[(98 :
 UInt8)]))))
 false
 (c.fst +
 (1 :
 Int) +
 (1 :
 Int),
 (1 :
 Int),
 addC
 (addC
 c.snd.snd
 (ByteArray.mk
 #[(97 :
 UInt8)]))
 (ByteArray.mk
 #[(98 :
 UInt8)])))).snd.fst.down ∧
 (writeL
 (Dk.mk
 false
 (0 :
 Int)
 ((writeL
 (openD
 n.d)
 (Ls.mk
 false
 (openD
 n.d).turn
 (openD
 n.d).opened
 r
 true
 (c.fst +
 (1 :
 Int) +
 (1 :
 Int),
 (1 :
 Int),
 addC
 (addC
 c.snd.snd
 (ByteArray.mk
 #[(97 :
 UInt8)]))
 (ByteArray.mk
 #[(98 :
 UInt8)])))).snd.fst.turn +
 (1 :
 Int))
 ((writeL
 (openD
 n.d)
 (Ls.mk
 false
 (openD
 n.d).turn
 (openD
 n.d).opened
 r
 true
 (c.fst +
 (1 :
 Int) +
 (1 :
 Int),
 (1 :
 Int),
 addC
 (addC
 c.snd.snd
 (ByteArray.mk
 #[(97 :
 UInt8)]))
 (ByteArray.mk
 #[(98 :
 UInt8)])))).snd.fst.opened +
 (1 :
 Int))
 (tearN
 (0 :
 Int)
 (writeL
 (openD
 n.d)
 (Ls.mk
 false
 (openD
 n.d).turn
 (openD
 n.d).opened
 r
 true
 (c.fst +
 (1 :
 Int) +
 (1 :
 Int),
 (1 :
 Int),
 addC
 (addC
 c.snd.snd
 (ByteArray.mk
 #[(97 :
 UInt8)]))
 (ByteArray.mk
 #[(98 :
 UInt8)])))).snd.fst.sy
 (keysF
 (writeL
 (openD
 n.d)
 (Ls.mk
 false
 (openD
 n.d).turn
 (openD
 n.d).opened
 r
 true
 (c.fst +
 (1 :
 Int) +
 (1 :
 Int),
 (1 :
 Int),
 addC
 (addC
 c.snd.snd
 (ByteArray.mk
 #[(97 :
 UInt8)]))
 (ByteArray.mk
 #[(98 :
 UInt8)])))).snd.fst.sy)
 (writeL
 (openD
 n.d)
 (Ls.mk
 false
 (openD
 n.d).turn
 (openD
 n.d).opened
 r
 true
 (c.fst +
 (1 :
 Int) +
 (1 :
 Int),
 (1 :
 Int),
 addC
 (addC
 c.snd.snd
 (ByteArray.mk
 #[(97 :
 UInt8)]))
 (ByteArray.mk
 #[(98 :
 UInt8)])))).snd.fst.bl
 (keysF
 (writeL
 (openD
 n.d)
 (Ls.mk
 false
 (openD
 n.d).turn
 (openD
 n.d).opened
 r
 true
 (c.fst +
 (1 :
 Int) +
 (1 :
 Int),
 (1 :
 Int),
 addC
 (addC
 c.snd.snd
 (ByteArray.mk
 #[(97 :
 UInt8)]))
 (ByteArray.mk
 #[(98 :
 UInt8)])))).snd.fst.sy).length)
 (nilT
 (Int ×
 List
 Int)))
 (Ls.mk
 false
 (openD
 n.d).turn
 (openD
 n.d).opened
 (nextR
 (Ls.mk
 false
 (openD
 n.d).turn
 (openD
 n.d).opened
 r
 true
 (c.fst +
 (1 :
 Int) +
 (1 :
 Int),
 (1 :
 Int),
 addC
 (addC
 c.snd.snd
 (ByteArray.mk
 #[(97 :
 UInt8)]))
 (ByteArray.mk
 #[(98 :
 UInt8)]))))
 false
 (c.fst +
 (1 :
 Int) +
 (1 :
 Int),
 (1 :
 Int),
 addC
 (addC
 c.snd.snd
 (ByteArray.mk
 #[(97 :
 UInt8)]))
 (ByteArray.mk
 #[(98 :
 UInt8)])))).snd.fst.left =
 (writeL
 (Dk.mk
 false
 (0 :
 Int)
 ((writeL
 (openD
 n.d)
 (Ls.mk
 false
 (openD
 n.d).turn
 (openD
 n.d).opened
 r
 true
 (c.fst +
 (1 :
 Int) +
 (1 :
 Int),
 (1 :
 Int),
 addC
 (addC
 c.snd.snd
 (ByteArray.mk
 #[(97 :
 UInt8)]))
 (ByteArray.mk
 #[(98 :
 UInt8)])))).snd.fst.turn +
 (1 :
 Int))
 ((writeL
 (openD
 n.d)
 (Ls.mk
 false
 (openD
 n.d).turn
 (openD
 n.d).opened
 r
 true
 (c.fst +
 (1 :
 Int) +
 (1 :
 Int),
 (1 :
 Int),
 addC
 (addC
 c.snd.snd
 (ByteArray.mk
 #[(97 :
 UInt8)]))
 (ByteArray.mk
 #[(98 :
 UInt8)])))).snd.fst.opened +
 (1 :
 Int))
 (tearN
 (0 :
 Int)
 (writeL
 (openD
 n.d)
 (Ls.mk
 false
 (openD
 n.d).turn
 (openD
 n.d).opened
 r
 true
 (c.fst +
 (1 :
 Int) +
 (1 :
 Int),
 (1 :
 Int),
 addC
 (addC
 c.snd.snd
 (ByteArray.mk
 #[(97 :
 UInt8)]))
 (ByteArray.mk
 #[(98 :
 UInt8)])))).snd.fst.sy
 (keysF
 (writeL
 (openD
 n.d)
 (Ls.mk
 false
 (openD
 n.d).turn
 (openD
 n.d).opened
 r
 true
 (c.fst +
 (1 :
 Int) +
 (1 :
 Int),
 (1 :
 Int),
 addC
 (addC
 c.snd.snd
 (ByteArray.mk
 #[(97 :
 UInt8)]))
 (ByteArray.mk
 #[(98 :
 UInt8)])))).snd.fst.sy)
 (writeL
 (openD
 n.d)
 (Ls.mk
 false
 (openD
 n.d).turn
 (openD
 n.d).opened
 r
 true
 (c.fst +
 (1 :
 Int) +
 (1 :
 Int),
 (1 :
 Int),
 addC
 (addC
 c.snd.snd
 (ByteArray.mk
 #[(97 :
 UInt8)]))
 (ByteArray.mk
 #[(98 :
 UInt8)])))).snd.fst.bl
 (keysF
 (writeL
 (openD
 n.d)
 (Ls.mk
 false
 (openD
 n.d).turn
 (openD
 n.d).opened
 r
 true
 (c.fst +
 (1 :
 Int) +
 (1 :
 Int),
 (1 :
 Int),
 addC
 (addC
 c.snd.snd
 (ByteArray.mk
 #[(97 :
 UInt8)]))
 (ByteArray.mk
 #[(98 :
 UInt8)])))).snd.fst.sy).length)
 (nilT
 (Int ×
 List
 Int)))
 (Ls.mk
 false
 (openD
 n.d).turn
 (openD
 n.d).opened
 (nextR
 (Ls.mk
 false
 (openD
 n.d).turn
 (openD
 n.d).opened
 r
 true
 (c.fst +
 (1 :
 Int) +
 (1 :
 Int),
 (1 :
 Int),
 addC
 (addC
 c.snd.snd
 (ByteArray.mk
 #[(97 :
 UInt8)]))
 (ByteArray.mk
 #[(98 :
 UInt8)]))))
 false
 (c.fst +
 (1 :
 Int) +
 (1 :
 Int),
 (1 :
 Int),
 addC
 (addC
 c.snd.snd
 (ByteArray.mk
 #[(97 :
 UInt8)]))
 (ByteArray.mk
 #[(98 :
 UInt8)])))).snd.fst.left ∧
 (writeL
 (Dk.mk
 false
 (0 :
 Int)
 ((writeL
 (openD
 n.d)
 (Ls.mk
 false
 (openD
 n.d).turn
 (openD
 n.d).opened
 r
 true
 (c.fst +
 (1 :
 Int) +
 (1 :
 Int),
 (1 :
 Int),
 addC
 (addC
 c.snd.snd
 (ByteArray.mk
 #[(97 :
 UInt8)]))
 (ByteArray.mk
 #[(98 :
 UInt8)])))).snd.fst.turn +
 (1 :
 Int))
 ((writeL
 (openD
 n.d)
 (Ls.mk
 false
 (openD
 n.d).turn
 (openD
 n.d).opened
 r
 true
 (c.fst +
 (1 :
 Int) +
 (1 :
 Int),
 (1 :
 Int),
 addC
 (addC
 c.snd.snd
 (ByteArray.mk
 #[(97 :
 UInt8)]))
 (ByteArray.mk
 #[(98 :
 UInt8)])))).snd.fst.opened +
 (1 :
 Int))
 (tearN
 (0 :
 Int)
 (writeL
 (openD
 n.d)
 (Ls.mk
 false
 (openD
 n.d).turn
 (openD
 n.d).opened
 r
 true
 (c.fst +
 (1 :
 Int) +
 (1 :
 Int),
 (1 :
 Int),
 addC
 (addC
 c.snd.snd
 (ByteArray.mk
 #[(97 :
 UInt8)]))
 (ByteArray.mk
 #[(98 :
 UInt8)])))).snd.fst.sy
 (keysF
 (writeL
 (openD
 n.d)
 (Ls.mk
 false
 (openD
 n.d).turn
 (openD
 n.d).opened
 r
 true
 (c.fst +
 (1 :
 Int) +
 (1 :
 Int),
 (1 :
 Int),
 addC
 (addC
 c.snd.snd
 (ByteArray.mk
 #[(97 :
 UInt8)]))
 (ByteArray.mk
 #[(98 :
 UInt8)])))).snd.fst.sy)
 (writeL
 (openD
 n.d)
 (Ls.mk
 false
 (openD
 n.d).turn
 (openD
 n.d).opened
 r
 true
 (c.fst +
 (1 :
 Int) +
 (1 :
 Int),
 (1 :
 Int),
 addC
 (addC
 c.snd.snd
 (ByteArray.mk
 #[(97 :
 UInt8)]))
 (ByteArray.mk
 #[(98 :
 UInt8)])))).snd.fst.bl
 (keysF
 (writeL
 (openD
 n.d)
 (Ls.mk
 false
 (openD
 n.d).turn
 (openD
 n.d).opened
 r
 true
 (c.fst +
 (1 :
 Int) +
 (1 :
 Int),
 (1 :
 Int),
 addC
 (addC
 c.snd.snd
 (ByteArray.mk
 #[(97 :
 UInt8)]))
 (ByteArray.mk
 #[(98 :
 UInt8)])))).snd.fst.sy).length)
 (nilT
 (Int ×
 List
 Int)))
 (Ls.mk
 false
 (openD
 n.d).turn
 (openD
 n.d).opened
 (nextR
 (Ls.mk
 false
 (openD
 n.d).turn
 (openD
 n.d).opened
 r
 true
 (c.fst +
 (1 :
 Int) +
 (1 :
 Int),
 (1 :
 Int),
 addC
 (addC
 c.snd.snd
 (ByteArray.mk
 #[(97 :
 UInt8)]))
 (ByteArray.mk
 #[(98 :
 UInt8)]))))
 false
 (c.fst +
 (1 :
 Int) +
 (1 :
 Int),
 (1 :
 Int),
 addC
 (addC
 c.snd.snd
 (ByteArray.mk
 #[(97 :
 UInt8)]))
 (ByteArray.mk
 #[(98 :
 UInt8)])))).snd.fst.turn =
 (writeL
 (Dk.mk
 false
 (0 :
 Int)
 ((writeL
 (openD
 n.d)
 (Ls.mk
 false
 (openD
 n.d).turn
 (openD
 n.d).opened
 r
 true
 (c.fst +
 (1 :
 Int) +
 (1 :
 Int),
 (1 :
 Int),
 addC
 (addC
 c.snd.snd
 (ByteArray.mk
 #[(97 :
 UInt8)]))
 (ByteArray.mk
 #[(98 :
 UInt8)])))).snd.fst.turn +
 (1 :
 Int))
 ((writeL
 (openD
 n.d)
 (Ls.mk
 false
 (openD
 n.d).turn
 (openD
 n.d).opened
 r
 true
 (c.fst +
 (1 :
 Int) +
 (1 :
 Int),
 (1 :
 Int),
 addC
 (addC
 c.snd.snd
 (ByteArray.mk
 #[(97 :
 UInt8)]))
 (ByteArray.mk
 #[(98 :
 UInt8)])))).snd.fst.opened +
 (1 :
 Int))
 (tearN
 (0 :
 Int)
 (writeL
 (openD
 n.d)
 (Ls.mk
 false
 (openD
 n.d).turn
 (openD
 n.d).opened
 r
 true
 (c.fst +
 (1 :
 Int) +
 (1 :
 Int),
 (1 :
 Int),
 addC
 (addC
 c.snd.snd
 (ByteArray.mk
 #[(97 :
 UInt8)]))
 (ByteArray.mk
 #[(98 :
 UInt8)])))).snd.fst.sy
 (keysF
 (writeL
 (openD
 n.d)
 (Ls.mk
 false
 (openD
 n.d).turn
 (openD
 n.d).opened
 r
 true
 (c.fst +
 (1 :
 Int) +
 (1 :
 Int),
 (1 :
 Int),
 addC
 (addC
 c.snd.snd
 (ByteArray.mk
 #[(97 :
 UInt8)]))
 (ByteArray.mk
 #[(98 :
 UInt8)])))).snd.fst.sy)
 (writeL
 (openD
 n.d)
 (Ls.mk
 false
 (openD
 n.d).turn
 (openD
 n.d).opened
 r
 true
 (c.fst +
 (1 :
 Int) +
 (1 :
 Int),
 (1 :
 Int),
 addC
 (addC
 c.snd.snd
 (ByteArray.mk
 #[(97 :
 UInt8)]))
 (ByteArray.mk
 #[(98 :
 UInt8)])))).snd.fst.bl
 (keysF
 (writeL
 (openD
 n.d)
 (Ls.mk
 false
 (openD
 n.d).turn
 (openD
 n.d).opened
 r
 true
 (c.fst +
 (1 :
 Int) +
 (1 :
 Int),
 (1 :
 Int),
 addC
 (addC
 c.snd.snd
 (ByteArray.mk
 #[(97 :
 UInt8)]))
 (ByteArray.mk
 #[(98 :
 UInt8)])))).snd.fst.sy).length)
 (nilT
 (Int ×
 List
 Int)))
 (Ls.mk
 false
 (openD
 n.d).turn
 (openD
 n.d).opened
 (nextR
 (Ls.mk
 false
 (openD
 n.d).turn
 (openD
 n.d).opened
 r
 true
 (c.fst +
 (1 :
 Int) +
 (1 :
 Int),
 (1 :
 Int),
 addC
 (addC
 c.snd.snd
 (ByteArray.mk
 #[(97 :
 UInt8)]))
 (ByteArray.mk
 #[(98 :
 UInt8)]))))
 false
 (c.fst +
 (1 :
 Int) +
 (1 :
 Int),
 (1 :
 Int),
 addC
 (addC
 c.snd.snd
 (ByteArray.mk
 #[(97 :
 UInt8)]))
 (ByteArray.mk
 #[(98 :
 UInt8)])))).snd.fst.turn ∧
 (writeL
 (Dk.mk
 false
 (0 :
 Int)
 ((writeL
 (openD
 n.d)
 (Ls.mk
 false
 (openD
 n.d).turn
 (openD
 n.d).opened
 r
 true
 (c.fst +
 (1 :
 Int) +
 (1 :
 Int),
 (1 :
 Int),
 addC
 (addC
 c.snd.snd
 (ByteArray.mk
 #[(97 :
 UInt8)]))
 (ByteArray.mk
 #[(98 :
 UInt8)])))).snd.fst.turn +
 (1 :
 Int))
 ((writeL
 (openD
 n.d)
 (Ls.mk
 false
 (openD
 n.d).turn
 (openD
 n.d).opened
 r
 true
 (c.fst +
 (1 :
 Int) +
 (1 :
 Int),
 (1 :
 Int),
 addC
 (addC
 c.snd.snd
 (ByteArray.mk
 #[(97 :
 UInt8)]))
 (ByteArray.mk
 #[(98 :
 UInt8)])))).snd.fst.opened +
 (1 :
 Int))
 (tearN
 (0 :
 Int)
 (writeL
 (openD
 n.d)
 (Ls.mk
 false
 (openD
 n.d).turn
 (openD
 n.d).opened
 r
 true
 (c.fst +
 (1 :
 Int) +
 (1 :
 Int),
 (1 :
 Int),
 addC
 (addC
 c.snd.snd
 (ByteArray.mk
 #[(97 :
 UInt8)]))
 (ByteArray.mk
 #[(98 :
 UInt8)])))).snd.fst.sy
 (keysF
 (writeL
 (openD
 n.d)
 (Ls.mk
 false
 (openD
 n.d).turn
 (openD
 n.d).opened
 r
 true
 (c.fst +
 (1 :
 Int) +
 (1 :
 Int),
 (1 :
 Int),
 addC
 (addC
 c.snd.snd
 (ByteArray.mk
 #[(97 :
 UInt8)]))
 (ByteArray.mk
 #[(98 :
 UInt8)])))).snd.fst.sy)
 (writeL
 (openD
 n.d)
 (Ls.mk
 false
 (openD
 n.d).turn
 (openD
 n.d).opened
 r
 true
 (c.fst +
 (1 :
 Int) +
 (1 :
 Int),
 (1 :
 Int),
 addC
 (addC
 c.snd.snd
 (ByteArray.mk
 #[(97 :
 UInt8)]))
 (ByteArray.mk
 #[(98 :
 UInt8)])))).snd.fst.bl
 (keysF
 (writeL
 (openD
 n.d)
 (Ls.mk
 false
 (openD
 n.d).turn
 (openD
 n.d).opened
 r
 true
 (c.fst +
 (1 :
 Int) +
 (1 :
 Int),
 (1 :
 Int),
 addC
 (addC
 c.snd.snd
 (ByteArray.mk
 #[(97 :
 UInt8)]))
 (ByteArray.mk
 #[(98 :
 UInt8)])))).snd.fst.sy).length)
 (nilT
 (Int ×
 List
 Int)))
 (Ls.mk
 false
 (openD
 n.d).turn
 (openD
 n.d).opened
 (nextR
 (Ls.mk
 false
 (openD
 n.d).turn
 (openD
 n.d).opened
 r
 true
 (c.fst +
 (1 :
 Int) +
 (1 :
 Int),
 (1 :
 Int),
 addC
 (addC
 c.snd.snd
 (ByteArray.mk
 #[(97 :
 UInt8)]))
 (ByteArray.mk
 #[(98 :
 UInt8)]))))
 false
 (c.fst +
 (1 :
 Int) +
 (1 :
 Int),
 (1 :
 Int),
 addC
 (addC
 c.snd.snd
 (ByteArray.mk
 #[(97 :
 UInt8)]))
 (ByteArray.mk
 #[(98 :
 UInt8)])))).snd.fst.opened =
 (writeL
 (Dk.mk
 false
 (0 :
 Int)
 ((writeL
 (openD
 n.d)
 (Ls.mk
 false
 (openD
 n.d).turn
 (openD
 n.d).opened
 r
 true
 (c.fst +
 (1 :
 Int) +
 (1 :
 Int),
 (1 :
 Int),
 addC
 (addC
 c.snd.snd
 (ByteArray.mk
 #[(97 :
 UInt8)]))
 (ByteArray.mk
 #[(98 :
 UInt8)])))).snd.fst.turn +
 (1 :
 Int))
 ((writeL
 (openD
 n.d)
 (Ls.mk
 false
 (openD
 n.d).turn
 (openD
 n.d).opened
 r
 true
 (c.fst +
 (1 :
 Int) +
 (1 :
 Int),
 (1 :
 Int),
 addC
 (addC
 c.snd.snd
 (ByteArray.mk
 #[(97 :
 UInt8)]))
 (ByteArray.mk
 #[(98 :
 UInt8)])))).snd.fst.opened +
 (1 :
 Int))
 (tearN
 (0 :
 Int)
 (writeL
 (openD
 n.d)
 (Ls.mk
 false
 (openD
 n.d).turn
 (openD
 n.d).opened
 r
 true
 (c.fst +
 (1 :
 Int) +
 (1 :
 Int),
 (1 :
 Int),
 addC
 (addC
 c.snd.snd
 (ByteArray.mk
 #[(97 :
 UInt8)]))
 (ByteArray.mk
 #[(98 :
 UInt8)])))).snd.fst.sy
 (keysF
 (writeL
 (openD
 n.d)
 (Ls.mk
 false
 (openD
 n.d).turn
 (openD
 n.d).opened
 r
 true
 (c.fst +
 (1 :
 Int) +
 (1 :
 Int),
 (1 :
 Int),
 addC
 (addC
 c.snd.snd
 (ByteArray.mk
 #[(97 :
 UInt8)]))
 (ByteArray.mk
 #[(98 :
 UInt8)])))).snd.fst.sy)
 (writeL
 (openD
 n.d)
 (Ls.mk
 false
 (openD
 n.d).turn
 (openD
 n.d).opened
 r
 true
 (c.fst +
 (1 :
 Int) +
 (1 :
 Int),
 (1 :
 Int),
 addC
 (addC
 c.snd.snd
 (ByteArray.mk
 #[(97 :
 UInt8)]))
 (ByteArray.mk
 #[(98 :
 UInt8)])))).snd.fst.bl
 (keysF
 (writeL
 (openD
 n.d)
 (Ls.mk
 false
 (openD
 n.d).turn
 (openD
 n.d).opened
 r
 true
 (c.fst +
 (1 :
 Int) +
 (1 :
 Int),
 (1 :
 Int),
 addC
 (addC
 c.snd.snd
 (ByteArray.mk
 #[(97 :
 UInt8)]))
 (ByteArray.mk
 #[(98 :
 UInt8)])))).snd.fst.sy).length)
 (nilT
 (Int ×
 List
 Int)))
 (Ls.mk
 false
 (openD
 n.d).turn
 (openD
 n.d).opened
 (nextR
 (Ls.mk
 false
 (openD
 n.d).turn
 (openD
 n.d).opened
 r
 true
 (c.fst +
 (1 :
 Int) +
 (1 :
 Int),
 (1 :
 Int),
 addC
 (addC
 c.snd.snd
 (ByteArray.mk
 #[(97 :
 UInt8)]))
 (ByteArray.mk
 #[(98 :
 UInt8)]))))
 false
 (c.fst +
 (1 :
 Int) +
 (1 :
 Int),
 (1 :
 Int),
 addC
 (addC
 c.snd.snd
 (ByteArray.mk
 #[(97 :
 UInt8)]))
 (ByteArray.mk
 #[(98 :
 UInt8)])))).snd.fst.opened ∧
 True) ∧
 (True ∧
 True) ∧
 (writeL
 (Dk.mk
 false
 (0 :
 Int)
 ((writeL
 (openD
 n.d)
 (Ls.mk
 false
 (openD
 n.d).turn
 (openD
 n.d).opened
 r
 true
 (c.fst +
 (1 :
 Int) +
 (1 :
 Int),
 (1 :
 Int),
 addC
 (addC
 c.snd.snd
 (ByteArray.mk
 #[(97 :
 UInt8)]))
 (ByteArray.mk
 #[(98 :
 UInt8)])))).snd.fst.turn +
 (1 :
 Int))
 ((writeL
 (openD
 n.d)
 (Ls.mk
 false
 (openD
 n.d).turn
 (openD
 n.d).opened
 r
 true
 (c.fst +
 (1 :
 Int) +
 (1 :
 Int),
 (1 :
 Int),
 addC
 (addC
 c.snd.snd
 (ByteArray.mk
 #[(97 :
 UInt8)]))
 (ByteArray.mk
 #[(98 :
 UInt8)])))).snd.fst.opened +
 (1 :
 Int))
 (tearN
 (0 :
 Int)
 (writeL
 (openD
 n.d)
 (Ls.mk
 false
 (openD
 n.d).turn
 (openD
 n.d).opened
 r
 true
 (c.fst +
 (1 :
 Int) +
 (1 :
 Int),
 (1 :
 Int),
 addC
 (addC
 c.snd.snd
 (ByteArray.mk
 #[(97 :
 UInt8)]))
 (ByteArray.mk
 #[(98 :
 UInt8)])))).snd.fst.sy
 (keysF
 (writeL
 (openD
 n.d)
 (Ls.mk
 false
 (openD
 n.d).turn
 (openD
 n.d).opened
 r
 true
 (c.fst +
 (1 :
 Int) +
 (1 :
 Int),
 (1 :
 Int),
 addC
 (addC
 c.snd.snd
 (ByteArray.mk
 #[(97 :
 UInt8)]))
 (ByteArray.mk
 #[(98 :
 UInt8)])))).snd.fst.sy)
 (writeL
 (openD
 n.d)
 (Ls.mk
 false
 (openD
 n.d).turn
 (openD
 n.d).opened
 r
 true
 (c.fst +
 (1 :
 Int) +
 (1 :
 Int),
 (1 :
 Int),
 addC
 (addC
 c.snd.snd
 (ByteArray.mk
 #[(97 :
 UInt8)]))
 (ByteArray.mk
 #[(98 :
 UInt8)])))).snd.fst.bl
 (keysF
 (writeL
 (openD
 n.d)
 (Ls.mk
 false
 (openD
 n.d).turn
 (openD
 n.d).opened
 r
 true
 (c.fst +
 (1 :
 Int) +
 (1 :
 Int),
 (1 :
 Int),
 addC
 (addC
 c.snd.snd
 (ByteArray.mk
 #[(97 :
 UInt8)]))
 (ByteArray.mk
 #[(98 :
 UInt8)])))).snd.fst.sy).length)
 (nilT
 (Int ×
 List
 Int)))
 (Ls.mk
 false
 (openD
 n.d).turn
 (openD
 n.d).opened
 (nextR
 (Ls.mk
 false
 (openD
 n.d).turn
 (openD
 n.d).opened
 r
 true
 (c.fst +
 (1 :
 Int) +
 (1 :
 Int),
 (1 :
 Int),
 addC
 (addC
 c.snd.snd
 (ByteArray.mk
 #[(97 :
 UInt8)]))
 (ByteArray.mk
 #[(98 :
 UInt8)]))))
 false
 (c.fst +
 (1 :
 Int) +
 (1 :
 Int),
 (1 :
 Int),
 addC
 (addC
 c.snd.snd
 (ByteArray.mk
 #[(97 :
 UInt8)]))
 (ByteArray.mk
 #[(98 :
 UInt8)])))).snd.fst.bl =
 (writeL
 (Dk.mk
 false
 (0 :
 Int)
 ((writeL
 (openD
 n.d)
 (Ls.mk
 false
 (openD
 n.d).turn
 (openD
 n.d).opened
 r
 true
 (c.fst +
 (1 :
 Int) +
 (1 :
 Int),
 (1 :
 Int),
 addC
 (addC
 c.snd.snd
 (ByteArray.mk
 #[(97 :
 UInt8)]))
 (ByteArray.mk
 #[(98 :
 UInt8)])))).snd.fst.turn +
 (1 :
 Int))
 ((writeL
 (openD
 n.d)
 (Ls.mk
 false
 (openD
 n.d).turn
 (openD
 n.d).opened
 r
 true
 (c.fst +
 (1 :
 Int) +
 (1 :
 Int),
 (1 :
 Int),
 addC
 (addC
 c.snd.snd
 (ByteArray.mk
 #[(97 :
 UInt8)]))
 (ByteArray.mk
 #[(98 :
 UInt8)])))).snd.fst.opened +
 (1 :
 Int))
 (tearN
 (0 :
 Int)
 (writeL
 (openD
 n.d)
 (Ls.mk
 false
 (openD
 n.d).turn
 (openD
 n.d).opened
 r
 true
 (c.fst +
 (1 :
 Int) +
 (1 :
 Int),
 (1 :
 Int),
 addC
 (addC
 c.snd.snd
 (ByteArray.mk
 #[(97 :
 UInt8)]))
 (ByteArray.mk
 #[(98 :
 UInt8)])))).snd.fst.sy
 (keysF
 (writeL
 (openD
 n.d)
 (Ls.mk
 false
 (openD
 n.d).turn
 (openD
 n.d).opened
 r
 true
 (c.fst +
 (1 :
 Int) +
 (1 :
 Int),
 (1 :
 Int),
 addC
 (addC
 c.snd.snd
 (ByteArray.mk
 #[(97 :
 UInt8)]))
 (ByteArray.mk
 #[(98 :
 UInt8)])))).snd.fst.sy)
 (writeL
 (openD
 n.d)
 (Ls.mk
 false
 (openD
 n.d).turn
 (openD
 n.d).opened
 r
 true
 (c.fst +
 (1 :
 Int) +
 (1 :
 Int),
 (1 :
 Int),
 addC
 (addC
 c.snd.snd
 (ByteArray.mk
 #[(97 :
 UInt8)]))
 (ByteArray.mk
 #[(98 :
 UInt8)])))).snd.fst.bl
 (keysF
 (writeL
 (openD
 n.d)
 (Ls.mk
 false
 (openD
 n.d).turn
 (openD
 n.d).opened
 r
 true
 (c.fst +
 (1 :
 Int) +
 (1 :
 Int),
 (1 :
 Int),
 addC
 (addC
 c.snd.snd
 (ByteArray.mk
 #[(97 :
 UInt8)]))
 (ByteArray.mk
 #[(98 :
 UInt8)])))).snd.fst.sy).length)
 (nilT
 (Int ×
 List
 Int)))
 (Ls.mk
 false
 (openD
 n.d).turn
 (openD
 n.d).opened
 (nextR
 (Ls.mk
 false
 (openD
 n.d).turn
 (openD
 n.d).opened
 r
 true
 (c.fst +
 (1 :
 Int) +
 (1 :
 Int),
 (1 :
 Int),
 addC
 (addC
 c.snd.snd
 (ByteArray.mk
 #[(97 :
 UInt8)]))
 (ByteArray.mk
 #[(98 :
 UInt8)]))))
 false
 (c.fst +
 (1 :
 Int) +
 (1 :
 Int),
 (1 :
 Int),
 addC
 (addC
 c.snd.snd
 (ByteArray.mk
 #[(97 :
 UInt8)]))
 (ByteArray.mk
 #[(98 :
 UInt8)])))).snd.fst.bl) ∧
 (writeL
 (Dk.mk
 false
 (0 :
 Int)
 ((writeL
 (openD
 n.d)
 (Ls.mk
 false
 (openD
 n.d).turn
 (openD
 n.d).opened
 r
 true
 (c.fst +
 (1 :
 Int) +
 (1 :
 Int),
 (1 :
 Int),
 addC
 (addC
 c.snd.snd
 (ByteArray.mk
 #[(97 :
 UInt8)]))
 (ByteArray.mk
 #[(98 :
 UInt8)])))).snd.fst.turn +
 (1 :
 Int))
 ((writeL
 (openD
 n.d)
 (Ls.mk
 false
 (openD
 n.d).turn
 (openD
 n.d).opened
 r
 true
 (c.fst +
 (1 :
 Int) +
 (1 :
 Int),
 (1 :
 Int),
 addC
 (addC
 c.snd.snd
 (ByteArray.mk
 #[(97 :
 UInt8)]))
 (ByteArray.mk
 #[(98 :
 UInt8)])))).snd.fst.opened +
 (1 :
 Int))
 (tearN
 (0 :
 Int)
 (writeL
 (openD
 n.d)
 (Ls.mk
 false
 (openD
 n.d).turn
 (openD
 n.d).opened
 r
 true
 (c.fst +
 (1 :
 Int) +
 (1 :
 Int),
 (1 :
 Int),
 addC
 (addC
 c.snd.snd
 (ByteArray.mk
 #[(97 :
 UInt8)]))
 (ByteArray.mk
 #[(98 :
 UInt8)])))).snd.fst.sy
 (keysF
 (writeL
 (openD
 n.d)
 (Ls.mk
 false
 (openD
 n.d).turn
 (openD
 n.d).opened
 r
 true
 (c.fst +
 (1 :
 Int) +
 (1 :
 Int),
 (1 :
 Int),
 addC
 (addC
 c.snd.snd
 (ByteArray.mk
 #[(97 :
 UInt8)]))
 (ByteArray.mk
 #[(98 :
 UInt8)])))).snd.fst.sy)
 (writeL
 (openD
 n.d)
 (Ls.mk
 false
 (openD
 n.d).turn
 (openD
 n.d).opened
 r
 true
 (c.fst +
 (1 :
 Int) +
 (1 :
 Int),
 (1 :
 Int),
 addC
 (addC
 c.snd.snd
 (ByteArray.mk
 #[(97 :
 UInt8)]))
 (ByteArray.mk
 #[(98 :
 UInt8)])))).snd.fst.bl
 (keysF
 (writeL
 (openD
 n.d)
 (Ls.mk
 false
 (openD
 n.d).turn
 (openD
 n.d).opened
 r
 true
 (c.fst +
 (1 :
 Int) +
 (1 :
 Int),
 (1 :
 Int),
 addC
 (addC
 c.snd.snd
 (ByteArray.mk
 #[(97 :
 UInt8)]))
 (ByteArray.mk
 #[(98 :
 UInt8)])))).snd.fst.sy).length)
 (nilT
 (Int ×
 List
 Int)))
 (Ls.mk
 false
 (openD
 n.d).turn
 (openD
 n.d).opened
 (nextR
 (Ls.mk
 false
 (openD
 n.d).turn
 (openD
 n.d).opened
 r
 true
 (c.fst +
 (1 :
 Int) +
 (1 :
 Int),
 (1 :
 Int),
 addC
 (addC
 c.snd.snd
 (ByteArray.mk
 #[(97 :
 UInt8)]))
 (ByteArray.mk
 #[(98 :
 UInt8)]))))
 false
 (c.fst +
 (1 :
 Int) +
 (1 :
 Int),
 (1 :
 Int),
 addC
 (addC
 c.snd.snd
 (ByteArray.mk
 #[(97 :
 UInt8)]))
 (ByteArray.mk
 #[(98 :
 UInt8)])))).snd.fst.sy =
 (writeL
 (Dk.mk
 false
 (0 :
 Int)
 ((writeL
 (openD
 n.d)
 (Ls.mk
 false
 (openD
 n.d).turn
 (openD
 n.d).opened
 r
 true
 (c.fst +
 (1 :
 Int) +
 (1 :
 Int),
 (1 :
 Int),
 addC
 (addC
 c.snd.snd
 (ByteArray.mk
 #[(97 :
 UInt8)]))
 (ByteArray.mk
 #[(98 :
 UInt8)])))).snd.fst.turn +
 (1 :
 Int))
 ((writeL
 (openD
 n.d)
 (Ls.mk
 false
 (openD
 n.d).turn
 (openD
 n.d).opened
 r
 true
 (c.fst +
 (1 :
 Int) +
 (1 :
 Int),
 (1 :
 Int),
 addC
 (addC
 c.snd.snd
 (ByteArray.mk
 #[(97 :
 UInt8)]))
 (ByteArray.mk
 #[(98 :
 UInt8)])))).snd.fst.opened +
 (1 :
 Int))
 (tearN
 (0 :
 Int)
 (writeL
 (openD
 n.d)
 (Ls.mk
 false
 (openD
 n.d).turn
 (openD
 n.d).opened
 r
 true
 (c.fst +
 (1 :
 Int) +
 (1 :
 Int),
 (1 :
 Int),
 addC
 (addC
 c.snd.snd
 (ByteArray.mk
 #[(97 :
 UInt8)]))
 (ByteArray.mk
 #[(98 :
 UInt8)])))).snd.fst.sy
 (keysF
 (writeL
 (openD
 n.d)
 (Ls.mk
 false
 (openD
 n.d).turn
 (openD
 n.d).opened
 r
 true
 (c.fst +
 (1 :
 Int) +
 (1 :
 Int),
 (1 :
 Int),
 addC
 (addC
 c.snd.snd
 (ByteArray.mk
 #[(97 :
 UInt8)]))
 (ByteArray.mk
 #[(98 :
 UInt8)])))).snd.fst.sy)
 (writeL
 (openD
 n.d)
 (Ls.mk
 false
 (openD
 n.d).turn
 (openD
 n.d).opened
 r
 true
 (c.fst +
 (1 :
 Int) +
 (1 :
 Int),
 (1 :
 Int),
 addC
 (addC
 c.snd.snd
 (ByteArray.mk
 #[(97 :
 UInt8)]))
 (ByteArray.mk
 #[(98 :
 UInt8)])))).snd.fst.bl
 (keysF
 (writeL
 (openD
 n.d)
 (Ls.mk
 false
 (openD
 n.d).turn
 (openD
 n.d).opened
 r
 true
 (c.fst +
 (1 :
 Int) +
 (1 :
 Int),
 (1 :
 Int),
 addC
 (addC
 c.snd.snd
 (ByteArray.mk
 #[(97 :
 UInt8)]))
 (ByteArray.mk
 #[(98 :
 UInt8)])))).snd.fst.sy).length)
 (nilT
 (Int ×
 List
 Int)))
 (Ls.mk
 false
 (openD
 n.d).turn
 (openD
 n.d).opened
 (nextR
 (Ls.mk
 false
 (openD
 n.d).turn
 (openD
 n.d).opened
 r
 true
 (c.fst +
 (1 :
 Int) +
 (1 :
 Int),
 (1 :
 Int),
 addC
 (addC
 c.snd.snd
 (ByteArray.mk
 #[(97 :
 UInt8)]))
 (ByteArray.mk
 #[(98 :
 UInt8)]))))
 false
 (c.fst +
 (1 :
 Int) +
 (1 :
 Int),
 (1 :
 Int),
 addC
 (addC
 c.snd.snd
 (ByteArray.mk
 #[(97 :
 UInt8)]))
 (ByteArray.mk
 #[(98 :
 UInt8)])))).snd.fst.sy ∧
 (True ∧
 false =
 false ∧
 True ∧
 (writeL
 (openD
 n.d)
 (Ls.mk
 false
 (openD
 n.d).turn
 (openD
 n.d).opened
 r
 true
 (c.fst +
 (1 :
 Int) +
 (1 :
 Int),
 (1 :
 Int),
 addC
 (addC
 c.snd.snd
 (ByteArray.mk
 #[(97 :
 UInt8)]))
 (ByteArray.mk
 #[(98 :
 UInt8)])))).snd.fst.turn +
 (1 :
 Int) =
 (writeL
 (openD
 n.d)
 (Ls.mk
 false
 (openD
 n.d).turn
 (openD
 n.d).opened
 r
 true
 (c.fst +
 (1 :
 Int) +
 (1 :
 Int),
 (1 :
 Int),
 addC
 (addC
 c.snd.snd
 (ByteArray.mk
 #[(97 :
 UInt8)]))
 (ByteArray.mk
 #[(98 :
 UInt8)])))).snd.fst.turn +
 (1 :
 Int) ∧
 (writeL
 (openD
 n.d)
 (Ls.mk
 false
 (openD
 n.d).turn
 (openD
 n.d).opened
 r
 true
 (c.fst +
 (1 :
 Int) +
 (1 :
 Int),
 (1 :
 Int),
 addC
 (addC
 c.snd.snd
 (ByteArray.mk
 #[(97 :
 UInt8)]))
 (ByteArray.mk
 #[(98 :
 UInt8)])))).snd.fst.opened +
 (1 :
 Int) =
 (writeL
 (openD
 n.d)
 (Ls.mk
 false
 (openD
 n.d).turn
 (openD
 n.d).opened
 r
 true
 (c.fst +
 (1 :
 Int) +
 (1 :
 Int),
 (1 :
 Int),
 addC
 (addC
 c.snd.snd
 (ByteArray.mk
 #[(97 :
 UInt8)]))
 (ByteArray.mk
 #[(98 :
 UInt8)])))).snd.fst.opened +
 (1 :
 Int) ∧
 r_1.fst =
 r_1.fst ∧
 r_1.snd.fst =
 r_1.snd.fst ∧
 r_1.snd.snd =
 r_1.snd.snd ∧
 false =
 false ∧
 c_1.fst =
 c_1.fst ∧
 c_1.snd.fst =
 c_1.snd.fst ∧
 True ∧
 True) ∧
 c_1.snd.snd =
 c_1.snd.snd ∧
 True) ∧
 (True ∧
 True) ∧
 (c_1.snd.snd.length ≤
 (40 :
 Nat) ∧
 (0 :
 Int) ≤
 c_1.fst ∧
 c_1.fst ≤
 (1000000000 :
 Int)) ∧
 True ∧
 ((↑(entsN
 c_1
 c_1.snd.snd.length).length :
 Int) =
 (2 :
 Int) →
 (↑(entsN
 c_1
 c_1.snd.snd.length).length :
 Int) =
 (2 :
 Int) ∧
 (↑(entsN
 c_1
 c_1.snd.snd.length).length :
 Int) =
 (2 :
 Int) ∧
 ((0 :
 Int) ≤
 (1 :
 Int) ∧
 (1 :
 Int) <
 (↑(entsN
 c_1
 c_1.snd.snd.length).length :
 Int)) ∧
 (((entsN
 c_1
 c_1.snd.snd.length).getD
 (Int.toNat
 (1 :
 Int))
 ((0 :
 Int),
 ByteArray.empty)).fst =
 (2 :
 Int) ∧
 ((entsN
 c_1
 c_1.snd.snd.length).getD
 (Int.toNat
 (1 :
 Int))
 ((0 :
 Int),
 ByteArray.empty)).snd =
 ByteArray.mk
 #[(98 :
 UInt8)] →
 (((entsN
 c_1
 c_1.snd.snd.length).getD
 (Int.toNat
 (1 :
 Int))
 ((0 :
 Int),
 ByteArray.empty)).fst =
 (2 :
 Int) ∧
 ((entsN
 c_1
 c_1.snd.snd.length).getD
 (Int.toNat
 (1 :
 Int))
 ((0 :
 Int),
 ByteArray.empty)).snd =
 ByteArray.mk
 #[(98 :
 UInt8)]) ∧
 (((entsN
 c_1
 c_1.snd.snd.length).getD
 (Int.toNat
 (1 :
 Int))
 ((0 :
 Int),
 ByteArray.empty)).fst =
 (2 :
 Int) ∧
 ((entsN
 c_1
 c_1.snd.snd.length).getD
 (Int.toNat
 (1 :
 Int))
 ((0 :
 Int),
 ByteArray.empty)).snd =
 ByteArray.mk
 #[(98 :
 UInt8)]) ∧
 (((entsN
 c_1
 c_1.snd.snd.length).getD
 (Int.toNat
 (1 :
 Int))
 ((0 :
 Int),
 ByteArray.empty)).fst =
 (2 :
 Int) ∧
 ((entsN
 c_1
 c_1.snd.snd.length).getD
 (Int.toNat
 (1 :
 Int))
 ((0 :
 Int),
 ByteArray.empty)).snd =
 ByteArray.mk
 #[(98 :
 UInt8)]) ∧
 ((0 :
 Int) =
 (0 :
 Int) →
 (0 :
 Int) =
 (0 :
 Int) ∧
 (0 :
 Int) =
 (0 :
 Int) ∧
 (0 :
 Int) =
 (0 :
 Int) ∧
 (c_1.fst =
 (2 :
 Int) →
 c_1.fst =
 (2 :
 Int) ∧
 c_1.fst =
 (2 :
 Int) ∧
 c_1.fst =
 (2 :
 Int) ∧
 c_1.snd.fst =
 (1 :
 Int) ∧
 Ent.gl
 (0 :
 Nat)
 t.fst
 (Value.iface
 t.snd
 u) =
 Ent.gl
 (0 :
 Nat)
 t.fst
 (Value.iface
 t.snd
 u) ∧
 True) ∧
 (¬c_1.fst =
 (2 :
 Int) →
 ¬c_1.fst =
 (2 :
 Int) ∧
 ¬c_1.fst =
 (2 :
 Int) ∧
 ¬c_1.fst =
 (2 :
 Int) ∧
 False ∧
 Ent.gl
 (0 :
 Nat)
 t.fst
 (Value.iface
 t.snd
 u) =
 Ent.gl
 (0 :
 Nat)
 t.fst
 (Value.iface
 t.snd
 u) ∧
 True)) ∧
 g12_q4
 t
 u
 n) ∧
 (¬(((entsN
 c_1
 c_1.snd.snd.length).getD
 (Int.toNat
 (1 :
 Int))
 ((0 :
 Int),
 ByteArray.empty)).fst =
 (2 :
 Int) ∧
 ((entsN
 c_1
 c_1.snd.snd.length).getD
 (Int.toNat
 (1 :
 Int))
 ((0 :
 Int),
 ByteArray.empty)).snd =
 ByteArray.mk
 #[(98 :
 UInt8)]) →
 ¬(((entsN
 c_1
 c_1.snd.snd.length).getD
 (Int.toNat
 (1 :
 Int))
 ((0 :
 Int),
 ByteArray.empty)).fst =
 (2 :
 Int) ∧
 ((entsN
 c_1
 c_1.snd.snd.length).getD
 (Int.toNat
 (1 :
 Int))
 ((0 :
 Int),
 ByteArray.empty)).snd =
 ByteArray.mk
 #[(98 :
 UInt8)]) ∧
 ¬(((entsN
 c_1
 c_1.snd.snd.length).getD
 (Int.toNat
 (1 :
 Int))
 ((0 :
 Int),
 ByteArray.empty)).fst =
 (2 :
 Int) ∧
 ((entsN
 c_1
 c_1.snd.snd.length).getD
 (Int.toNat
 (1 :
 Int))
 ((0 :
 Int),
 ByteArray.empty)).snd =
 ByteArray.mk
 #[(98 :
 UInt8)]) ∧
 ¬(((entsN
 c_1
 c_1.snd.snd.length).getD
 (Int.toNat
 (1 :
 Int))
 ((0 :
 Int),
 ByteArray.empty)).fst =
 (2 :
 Int) ∧
 ((entsN
 c_1
 c_1.snd.snd.length).getD
 (Int.toNat
 (1 :
 Int))
 ((0 :
 Int),
 ByteArray.empty)).snd =
 ByteArray.mk
 #[(98 :
 UInt8)]) ∧
 False ∧
 Ent.gl
 (0 :
 Nat)
 t.fst
 (Value.iface
 t.snd
 u) =
 Ent.gl
 (0 :
 Nat)
 t.fst
 (Value.iface
 t.snd
 u) ∧
 True)) ∧
 (¬(↑(entsN
 c_1
 c_1.snd.snd.length).length :
 Int) =
 (2 :
 Int) →
 ¬(↑(entsN
 c_1
 c_1.snd.snd.length).length :
 Int) =
 (2 :
 Int) ∧
 ¬(↑(entsN
 c_1
 c_1.snd.snd.length).length :
 Int) =
 (2 :
 Int) ∧
 False ∧
 Ent.gl
 (0 :
 Nat)
 t.fst
 (Value.iface
 t.snd
 u) =
 Ent.gl
 (0 :
 Nat)
 t.fst
 (Value.iface
 t.snd
 u) ∧
 True))) ∧
 (¬(false =
 false ∧
 (openD
 n.d).turn =
 (writeL
 (openD
 n.d)
 (Ls.mk
 false
 (openD
 n.d).turn
 (openD
 n.d).opened
 r
 true
 (c.fst +
 (1 :
 Int) +
 (1 :
 Int),
 (1 :
 Int),
 addC
 (addC
 c.snd.snd
 (ByteArray.mk
 #[(97 :
 UInt8)]))
 (ByteArray.mk
 #[(98 :
 UInt8)])))).snd.fst.turn +
 (1 :
 Int) ∧
 (openD
 n.d).opened =
 (writeL
 (openD
 n.d)
 (Ls.mk
 false
 (openD
 n.d).turn
 (openD
 n.d).opened
 r
 true
 (c.fst +
 (1 :
 Int) +
 (1 :
 Int),
 (1 :
 Int),
 addC
 (addC
 c.snd.snd
 (ByteArray.mk
 #[(97 :
 UInt8)]))
 (ByteArray.mk
 #[(98 :
 UInt8)])))).snd.fst.opened +
 (1 :
 Int)) →
 True ∧
 (((True ∧
 false =
 false ∧
 (0 :
 Int) =
 (0 :
 Int) ∧
 (writeL
 (openD
 n.d)
 (Ls.mk
 false
 (openD
 n.d).turn
 (openD
 n.d).opened
 r
 true
 (c.fst +
 (1 :
 Int) +
 (1 :
 Int),
 (1 :
 Int),
 addC
 (addC
 c.snd.snd
 (ByteArray.mk
 #[(97 :
 UInt8)]))
 (ByteArray.mk
 #[(98 :
 UInt8)])))).snd.fst.turn +
 (1 :
 Int) =
 (writeL
 (openD
 n.d)
 (Ls.mk
 false
 (openD
 n.d).turn
 (openD
 n.d).opened
 r
 true
 (c.fst +
 (1 :
 Int) +
 (1 :
 Int),
 (1 :
 Int),
 addC
 (addC
 c.snd.snd
 (ByteArray.mk
 #[(97 :
 UInt8)]))
 (ByteArray.mk
 #[(98 :
 UInt8)])))).snd.fst.turn +
 (1 :
 Int) ∧
 (writeL
 (openD
 n.d)
 (Ls.mk
 false
 (openD
 n.d).turn
 (openD
 n.d).opened
 r
 true
 (c.fst +
 (1 :
 Int) +
 (1 :
 Int),
 (1 :
 Int),
 addC
 (addC
 c.snd.snd
 (ByteArray.mk
 #[(97 :
 UInt8)]))
 (ByteArray.mk
 #[(98 :
 UInt8)])))).snd.fst.opened +
 (1 :
 Int) =
 (writeL
 (openD
 n.d)
 (Ls.mk
 false
 (openD
 n.d).turn
 (openD
 n.d).opened
 r
 true
 (c.fst +
 (1 :
 Int) +
 (1 :
 Int),
 (1 :
 Int),
 addC
 (addC
 c.snd.snd
 (ByteArray.mk
 #[(97 :
 UInt8)]))
 (ByteArray.mk
 #[(98 :
 UInt8)])))).snd.fst.opened +
 (1 :
 Int) ∧
 True) ∧
 (True ∧
 True) ∧
 tearN
 (0 :
 Int)
 (writeL
 (openD
 n.d)
 (Ls.mk
 false
 (openD
 n.d).turn
 (openD
 n.d).opened
 r
 true
 (c.fst +
 (1 :
 Int) +
 (1 :
 Int),
 (1 :
 Int),
 addC
 (addC
 c.snd.snd
 (ByteArray.mk
 #[(97 :
 UInt8)]))
 (ByteArray.mk
 #[(98 :
 UInt8)])))).snd.fst.sy
 (keysF
 (writeL
 (openD
 n.d)
 (Ls.mk
 false
 (openD
 n.d).turn
 (openD
 n.d).opened
 r
 true
 (c.fst +
 (1 :
 Int) +
 (1 :
 Int),
 (1 :
 Int),
 addC
 (addC
 c.snd.snd
 (ByteArray.mk
 #[(97 :
 UInt8)]))
 (ByteArray.mk
 #[(98 :
 UInt8)])))).snd.fst.sy)
 (writeL
 (openD
 n.d)
 (Ls.mk
 false
 (openD
 n.d).turn
 (openD
 n.d).opened
 r
 true
 (c.fst +
 (1 :
 Int) +
 (1 :
 Int),
 (1 :
 Int),
 addC
 (addC
 c.snd.snd
 (ByteArray.mk
 #[(97 :
 UInt8)]))
 (ByteArray.mk
 #[(98 :
 UInt8)])))).snd.fst.bl
 (keysF
 (writeL
 (openD
 n.d)
 (Ls.mk
 false
 (openD
 n.d).turn
 (openD
 n.d).opened
 r
 true
 (c.fst +
 (1 :
 Int) +
 (1 :
 Int),
 (1 :
 Int),
 addC
 (addC
 c.snd.snd
 (ByteArray.mk
 #[(97 :
 UInt8)]))
 (ByteArray.mk
 #[(98 :
 UInt8)])))).snd.fst.sy).length =
 tearN
 (0 :
 Int)
 (writeL
 (openD
 n.d)
 (Ls.mk
 false
 (openD
 n.d).turn
 (openD
 n.d).opened
 r
 true
 (c.fst +
 (1 :
 Int) +
 (1 :
 Int),
 (1 :
 Int),
 addC
 (addC
 c.snd.snd
 (ByteArray.mk
 #[(97 :
 UInt8)]))
 (ByteArray.mk
 #[(98 :
 UInt8)])))).snd.fst.sy
 (keysF
 (writeL
 (openD
 n.d)
 (Ls.mk
 false
 (openD
 n.d).turn
 (openD
 n.d).opened
 r
 true
 (c.fst +
 (1 :
 Int) +
 (1 :
 Int),
 (1 :
 Int),
 addC
 (addC
 c.snd.snd
 (ByteArray.mk
 #[(97 :
 UInt8)]))
 (ByteArray.mk
 #[(98 :
 UInt8)])))).snd.fst.sy)
 (writeL
 (openD
 n.d)
 (Ls.mk
 false
 (openD
 n.d).turn
 (openD
 n.d).opened
 r
 true
 (c.fst +
 (1 :
 Int) +
 (1 :
 Int),
 (1 :
 Int),
 addC
 (addC
 c.snd.snd
 (ByteArray.mk
 #[(97 :
 UInt8)]))
 (ByteArray.mk
 #[(98 :
 UInt8)])))).snd.fst.bl
 (keysF
 (writeL
 (openD
 n.d)
 (Ls.mk
 false
 (openD
 n.d).turn
 (openD
 n.d).opened
 r
 true
 (c.fst +
 (1 :
 Int) +
 (1 :
 Int),
 (1 :
 Int),
 addC
 (addC
 c.snd.snd
 (ByteArray.mk
 #[(97 :
 UInt8)]))
 (ByteArray.mk
 #[(98 :
 UInt8)])))).snd.fst.sy).length) ∧
 nilT
 (Int ×
 List
 Int) =
 nilT
 (Int ×
 List
 Int) ∧
 (True ∧
 false =
 false ∧
 True ∧
 (openD
 n.d).turn =
 (openD
 n.d).turn ∧
 (openD
 n.d).opened =
 (openD
 n.d).opened ∧
 (nextR
 (Ls.mk
 false
 (openD
 n.d).turn
 (openD
 n.d).opened
 r
 true
 (c.fst +
 (1 :
 Int) +
 (1 :
 Int),
 (1 :
 Int),
 addC
 (addC
 c.snd.snd
 (ByteArray.mk
 #[(97 :
 UInt8)]))
 (ByteArray.mk
 #[(98 :
 UInt8)])))).fst =
 (nextR
 (Ls.mk
 false
 (openD
 n.d).turn
 (openD
 n.d).opened
 r
 true
 (c.fst +
 (1 :
 Int) +
 (1 :
 Int),
 (1 :
 Int),
 addC
 (addC
 c.snd.snd
 (ByteArray.mk
 #[(97 :
 UInt8)]))
 (ByteArray.mk
 #[(98 :
 UInt8)])))).fst ∧
 (nextR
 (Ls.mk
 false
 (openD
 n.d).turn
 (openD
 n.d).opened
 r
 true
 (c.fst +
 (1 :
 Int) +
 (1 :
 Int),
 (1 :
 Int),
 addC
 (addC
 c.snd.snd
 (ByteArray.mk
 #[(97 :
 UInt8)]))
 (ByteArray.mk
 #[(98 :
 UInt8)])))).snd.fst =
 (nextR
 (Ls.mk
 false
 (openD
 n.d).turn
 (openD
 n.d).opened
 r
 true
 (c.fst +
 (1 :
 Int) +
 (1 :
 Int),
 (1 :
 Int),
 addC
 (addC
 c.snd.snd
 (ByteArray.mk
 #[(97 :
 UInt8)]))
 (ByteArray.mk
 #[(98 :
 UInt8)])))).snd.fst ∧
 (nextR
 (Ls.mk
 false
 (openD
 n.d).turn
 (openD
 n.d).opened
 r
 true
 (c.fst +
 (1 :
 Int) +
 (1 :
 Int),
 (1 :
 Int),
 addC
 (addC
 c.snd.snd
 (ByteArray.mk
 #[(97 :
 UInt8)]))
 (ByteArray.mk
 #[(98 :
 UInt8)])))).snd.snd =
 (nextR
 (Ls.mk
 false
 (openD
 n.d).turn
 (openD
 n.d).opened
 r
 true
 (c.fst +
 (1 :
 Int) +
 (1 :
 Int),
 (1 :
 Int),
 addC
 (addC
 c.snd.snd
 (ByteArray.mk
 #[(97 :
 UInt8)]))
 (ByteArray.mk
 #[(98 :
 UInt8)])))).snd.snd ∧
 false =
 false ∧
 c.fst +
 (1 :
 Int) +
 (1 :
 Int) =
 c.fst +
 (1 :
 Int) +
 (1 :
 Int) ∧
 (1 :
 Int) =
 (1 :
 Int) ∧
 True ∧
 True) ∧
 addC
 (addC
 c.snd.snd
 (ByteArray.mk
 #[(97 :
 UInt8)]))
 (ByteArray.mk
 #[(98 :
 UInt8)]) =
 addC
 (addC
 c.snd.snd
 (ByteArray.mk
 #[(97 :
 UInt8)]))
 (ByteArray.mk
 #[(98 :
 UInt8)]) ∧
 True) ∧
 (True ∧
 True) ∧
 ((DkOK
 (Dk.mk
 false
 (0 :
 Int)
 ((writeL
 (openD
 n.d)
 (Ls.mk
 false
 (openD
 n.d).turn
 (openD
 n.d).opened
 r
 true
 (c.fst +
 (1 :
 Int) +
 (1 :
 Int),
 (1 :
 Int),
 addC
 (addC
 c.snd.snd
 (ByteArray.mk
 #[(97 :
 UInt8)]))
 (ByteArray.mk
 #[(98 :
 UInt8)])))).snd.fst.turn +
 (1 :
 Int))
 ((writeL
 (openD
 n.d)
 (Ls.mk
 false
 (openD
 n.d).turn
 (openD
 n.d).opened
 r
 true
 (c.fst +
 (1 :
 Int) +
 (1 :
 Int),
 (1 :
 Int),
 addC
 (addC
 c.snd.snd
 (ByteArray.mk
 #[(97 :
 UInt8)]))
 (ByteArray.mk
 #[(98 :
 UInt8)])))).snd.fst.opened +
 (1 :
 Int))
 (tearN
 (0 :
 Int)
 (writeL
 (openD
 n.d)
 (Ls.mk
 false
 (openD
 n.d).turn
 (openD
 n.d).opened
 r
 true
 (c.fst +
 (1 :
 Int) +
 (1 :
 Int),
 (1 :
 Int),
 addC
 (addC
 c.snd.snd
 (ByteArray.mk
 #[(97 :
 UInt8)]))
 (ByteArray.mk
 #[(98 :
 UInt8)])))).snd.fst.sy
 (keysF
 (writeL
 (openD
 n.d)
 (Ls.mk
 false
 (openD
 n.d).turn
 (openD
 n.d).opened
 r
 true
 (c.fst +
 (1 :
 Int) +
 (1 :
 Int),
 (1 :
 Int),
 addC
 (addC
 c.snd.snd
 (ByteArray.mk
 #[(97 :
 UInt8)]))
 (ByteArray.mk
 #[(98 :
 UInt8)])))).snd.fst.sy)
 (writeL
 (openD
 n.d)
 (Ls.mk
 false
 (openD
 n.d).turn
 (openD
 n.d).opened
 r
 true
 (c.fst +
 (1 :
 Int) +
 (1 :
 Int),
 (1 :
 Int),
 addC
 (addC
 c.snd.snd
 (ByteArray.mk
 #[(97 :
 UInt8)]))
 (ByteArray.mk
 #[(98 :
 UInt8)])))).snd.fst.bl
 (keysF
 (writeL
 (openD
 n.d)
 (Ls.mk
 false
 (openD
 n.d).turn
 (openD
 n.d).opened
 r
 true
 (c.fst +
 (1 :
 Int) +
 (1 :
 Int),
 (1 :
 Int),
 addC
 (addC
 c.snd.snd
 (ByteArray.mk
 #[(97 :
 UInt8)]))
 (ByteArray.mk
 #[(98 :
 UInt8)])))).snd.fst.sy).length)
 []) ∧
 (((0 :
 Int) ≤
 c.fst +
 (1 :
 Int) +
 (1 :
 Int) ∧
 c.fst +
 (1 :
 Int) +
 (1 :
 Int) <
 (281474976710656 :
 Int)) ∧
 ((0 :
 Int) ≤
 (1 :
 Int) ∧
 (1 :
 Int) <
 (281474976710656 :
 Int)) ∧
 (addC
 (addC
 c.snd.snd
 (ByteArray.mk
 #[(97 :
 UInt8)]))
 (ByteArray.mk
 #[(98 :
 UInt8)])).length ≤
 (40 :
 Nat) ∧
 ∀
 (s :
 ByteArray),
 s ∈
 addC
 (addC
 c.snd.snd
 (ByteArray.mk
 #[(97 :
 UInt8)]))
 (ByteArray.mk
 #[(98 :
 UInt8)]) →
 s.size ≤
 (24 :
 Nat)) ∧
 (0 :
 Int) ≤
 (nextR
 (Ls.mk
 false
 (openD
 n.d).turn
 (openD
 n.d).opened
 r
 true
 (c.fst +
 (1 :
 Int) +
 (1 :
 Int),
 (1 :
 Int),
 addC
 (addC
 c.snd.snd
 (ByteArray.mk
 #[(97 :
 UInt8)]))
 (ByteArray.mk
 #[(98 :
 UInt8)])))).fst ∧
 (nextR
 (Ls.mk
 false
 (openD
 n.d).turn
 (openD
 n.d).opened
 r
 true
 (c.fst +
 (1 :
 Int) +
 (1 :
 Int),
 (1 :
 Int),
 addC
 (addC
 c.snd.snd
 (ByteArray.mk
 #[(97 :
 UInt8)]))
 (ByteArray.mk
 #[(98 :
 UInt8)])))).fst ≤
 (1000000 :
 Int)) ∧
 ¬(false =
 false ∧
 (openD
 n.d).turn =
 (writeL
 (openD
 n.d)
 (Ls.mk
 false
 (openD
 n.d).turn
 (openD
 n.d).opened
 r
 true
 (c.fst +
 (1 :
 Int) +
 (1 :
 Int),
 (1 :
 Int),
 addC
 (addC
 c.snd.snd
 (ByteArray.mk
 #[(97 :
 UInt8)]))
 (ByteArray.mk
 #[(98 :
 UInt8)])))).snd.fst.turn +
 (1 :
 Int) ∧
 (openD
 n.d).opened =
 (writeL
 (openD
 n.d)
 (Ls.mk
 false
 (openD
 n.d).turn
 (openD
 n.d).opened
 r
 true
 (c.fst +
 (1 :
 Int) +
 (1 :
 Int),
 (1 :
 Int),
 addC
 (addC
 c.snd.snd
 (ByteArray.mk
 #[(97 :
 UInt8)]))
 (ByteArray.mk
 #[(98 :
 UInt8)])))).snd.fst.opened +
 (1 :
 Int))) ∧
 True ∧
 g12_q6
 t
 u
 n ∧
 (¬¬(6 :
 Int) =
 (6 :
 Int) →
 ¬¬(6 :
 Int) =
 (6 :
 Int) ∧
 ¬¬(6 :
 Int) =
 (6 :
 Int) ∧
 True ∧
 (((True ∧
 false =
 false ∧
 (0 :
 Int) =
 (0 :
 Int) ∧
 (writeL
 (openD
 n.d)
 (Ls.mk
 false
 (openD
 n.d).turn
 (openD
 n.d).opened
 r
 true
 (c.fst +
 (1 :
 Int) +
 (1 :
 Int),
 (1 :
 Int),
 addC
 (addC
 c.snd.snd
 (ByteArray.mk
 #[(97 :
 UInt8)]))
 (ByteArray.mk
 #[(98 :
 UInt8)])))).snd.fst.turn +
 (1 :
 Int) =
 (writeL
 (openD
 n.d)
 (Ls.mk
 false
 (openD
 n.d).turn
 (openD
 n.d).opened
 r
 true
 (c.fst +
 (1 :
 Int) +
 (1 :
 Int),
 (1 :
 Int),
 addC
 (addC
 c.snd.snd
 (ByteArray.mk
 #[(97 :
 UInt8)]))
 (ByteArray.mk
 #[(98 :
 UInt8)])))).snd.fst.turn +
 (1 :
 Int) ∧
 (writeL
 (openD
 n.d)
 (Ls.mk
 false
 (openD
 n.d).turn
 (openD
 n.d).opened
 r
 true
 (c.fst +
 (1 :
 Int) +
 (1 :
 Int),
 (1 :
 Int),
 addC
 (addC
 c.snd.snd
 (ByteArray.mk
 #[(97 :
 UInt8)]))
 (ByteArray.mk
 #[(98 :
 UInt8)])))).snd.fst.opened +
 (1 :
 Int) =
 (writeL
 (openD
 n.d)
 (Ls.mk
 false
 (openD
 n.d).turn
 (openD
 n.d).opened
 r
 true
 (c.fst +
 (1 :
 Int) +
 (1 :
 Int),
 (1 :
 Int),
 addC
 (addC
 c.snd.snd
 (ByteArray.mk
 #[(97 :
 UInt8)]))
 (ByteArray.mk
 #[(98 :
 UInt8)])))).snd.fst.opened +
 (1 :
 Int) ∧
 True) ∧
 (True ∧
 True) ∧
 tearN
 (0 :
 Int)
 (writeL
 (openD
 n.d)
 (Ls.mk
 false
 (openD
 n.d).turn
 (openD
 n.d).opened
 r
 true
 (c.fst +
 (1 :
 Int) +
 (1 :
 Int),
 (1 :
 Int),
 addC
 (addC
 c.snd.snd
 (ByteArray.mk
 #[(97 :
 UInt8)]))
 (ByteArray.mk
 #[(98 :
 UInt8)])))).snd.fst.sy
 (keysF
 (writeL
 (openD
 n.d)
 (Ls.mk
 false
 (openD
 n.d).turn
 (openD
 n.d).opened
 r
 true
 (c.fst +
 (1 :
 Int) +
 (1 :
 Int),
 (1 :
 Int),
 addC
 (addC
 c.snd.snd
 (ByteArray.mk
 #[(97 :
 UInt8)]))
 (ByteArray.mk
 #[(98 :
 UInt8)])))).snd.fst.sy)
 (writeL
 (openD
 n.d)
 (Ls.mk
 false
 (openD
 n.d).turn
 (openD
 n.d).opened
 r
 true
 (c.fst +
 (1 :
 Int) +
 (1 :
 Int),
 (1 :
 Int),
 addC
 (addC
 c.snd.snd
 (ByteArray.mk
 #[(97 :
 UInt8)]))
 (ByteArray.mk
 #[(98 :
 UInt8)])))).snd.fst.bl
 (keysF
 (writeL
 (openD
 n.d)
 (Ls.mk
 false
 (openD
 n.d).turn
 (openD
 n.d).opened
 r
 true
 (c.fst +
 (1 :
 Int) +
 (1 :
 Int),
 (1 :
 Int),
 addC
 (addC
 c.snd.snd
 (ByteArray.mk
 #[(97 :
 UInt8)]))
 (ByteArray.mk
 #[(98 :
 UInt8)])))).snd.fst.sy).length =
 tearN
 (0 :
 Int)
 (writeL
 (openD
 n.d)
 (Ls.mk
 false
 (openD
 n.d).turn
 (openD
 n.d).opened
 r
 true
 (c.fst +
 (1 :
 Int) +
 (1 :
 Int),
 (1 :
 Int),
 addC
 (addC
 c.snd.snd
 (ByteArray.mk
 #[(97 :
 UInt8)]))
 (ByteArray.mk
 #[(98 :
 UInt8)])))).snd.fst.sy
 (keysF
 (writeL
 (openD
 n.d)
 (Ls.mk
 false
 (openD
 n.d).turn
 (openD
 n.d).opened
 r
 true
 (c.fst +
 (1 :
 Int) +
 (1 :
 Int),
 (1 :
 Int),
 addC
 (addC
 c.snd.snd
 (ByteArray.mk
 #[(97 :
 UInt8)]))
 (ByteArray.mk
 #[(98 :
 UInt8)])))).snd.fst.sy)
 (writeL
 (openD
 n.d)
 (Ls.mk
 false
 (openD
 n.d).turn
 (openD
 n.d).opened
 r
 true
 (c.fst +
 (1 :
 Int) +
 (1 :
 Int),
 (1 :
 Int),
 addC
 (addC
 c.snd.snd
 (ByteArray.mk
 #[(97 :
 UInt8)]))
 (ByteArray.mk
 #[(98 :
 UInt8)])))).snd.fst.bl
 (keysF
 (writeL
 (openD
 n.d)
 (Ls.mk
 false
 (openD
 n.d).turn
 (openD
 n.d).opened
 r
 true
 (c.fst +
 (1 :
 Int) +
 (1 :
 Int),
 (1 :
 Int),
 addC
 (addC
 c.snd.snd
 (ByteArray.mk
 #[(97 :
 UInt8)]))
 (ByteArray.mk
 #[(98 :
 UInt8)])))).snd.fst.sy).length) ∧
 nilT
 (Int ×
 List
 Int) =
 nilT
 (Int ×
 List
 Int) ∧
 (True ∧
 false =
 false ∧
 True ∧
 (writeL
 (openD
 n.d)
 (Ls.mk
 false
 (openD
 n.d).turn
 (openD
 n.d).opened
 r
 true
 (c.fst +
 (1 :
 Int) +
 (1 :
 Int),
 (1 :
 Int),
 addC
 (addC
 c.snd.snd
 (ByteArray.mk
 #[(97 :
 UInt8)]))
 (ByteArray.mk
 #[(98 :
 UInt8)])))).snd.fst.turn +
 (1 :
 Int) =
 (writeL
 (openD
 n.d)
 (Ls.mk
 false
 (openD
 n.d).turn
 (openD
 n.d).opened
 r
 true
 (c.fst +
 (1 :
 Int) +
 (1 :
 Int),
 (1 :
 Int),
 addC
 (addC
 c.snd.snd
 (ByteArray.mk
 #[(97 :
 UInt8)]))
 (ByteArray.mk
 #[(98 :
 UInt8)])))).snd.fst.turn +
 (1 :
 Int) ∧
 (writeL
 (openD
 n.d)
 (Ls.mk
 false
 (openD
 n.d).turn
 (openD
 n.d).opened
 r
 true
 (c.fst +
 (1 :
 Int) +
 (1 :
 Int),
 (1 :
 Int),
 addC
 (addC
 c.snd.snd
 (ByteArray.mk
 #[(97 :
 UInt8)]))
 (ByteArray.mk
 #[(98 :
 UInt8)])))).snd.fst.opened +
 (1 :
 Int) =
 (writeL
 (openD
 n.d)
 (Ls.mk
 false
 (openD
 n.d).turn
 (openD
 n.d).opened
 r
 true
 (c.fst +
 (1 :
 Int) +
 (1 :
 Int),
 (1 :
 Int),
 addC
 (addC
 c.snd.snd
 (ByteArray.mk
 #[(97 :
 UInt8)]))
 (ByteArray.mk
 #[(98 :
 UInt8)])))).snd.fst.opened +
 (1 :
 Int) ∧
 r_1.fst =
 r_1.fst ∧
 r_1.snd.fst =
 r_1.snd.fst ∧
 r_1.snd.snd =
 r_1.snd.snd ∧
 false =
 false ∧
 c_1.fst =
 c_1.fst ∧
 c_1.snd.fst =
 c_1.snd.fst ∧
 True ∧
 True) ∧
 c_1.snd.snd =
 c_1.snd.snd ∧
 True) ∧
 (True ∧
 True) ∧
 (c_1.snd.snd.length ≤
 (40 :
 Nat) ∧
 (0 :
 Int) ≤
 c_1.fst ∧
 c_1.fst ≤
 (1000000000 :
 Int)) ∧
 True ∧
 ((↑(entsN
 c_1
 c_1.snd.snd.length).length :
 Int) =
 (2 :
 Int) →
 (↑(entsN
 c_1
 c_1.snd.snd.length).length :
 Int) =
 (2 :
 Int) ∧
 (↑(entsN
 c_1
 c_1.snd.snd.length).length :
 Int) =
 (2 :
 Int) ∧
 ((0 :
 Int) ≤
 (1 :
 Int) ∧
 (1 :
 Int) <
 (↑(entsN
 c_1
 c_1.snd.snd.length).length :
 Int)) ∧
 (((entsN
 c_1
 c_1.snd.snd.length).getD
 (Int.toNat
 (1 :
 Int))
 ((0 :
 Int),
 ByteArray.empty)).fst =
 (2 :
 Int) ∧
 ((entsN
 c_1
 c_1.snd.snd.length).getD
 (Int.toNat
 (1 :
 Int))
 ((0 :
 Int),
 ByteArray.empty)).snd =
 ByteArray.mk
 #[(98 :
 UInt8)] →
 (((entsN
 c_1
 c_1.snd.snd.length).getD
 (Int.toNat
 (1 :
 Int))
 ((0 :
 Int),
 ByteArray.empty)).fst =
 (2 :
 Int) ∧
 ((entsN
 c_1
 c_1.snd.snd.length).getD
 (Int.toNat
 (1 :
 Int))
 ((0 :
 Int),
 ByteArray.empty)).snd =
 ByteArray.mk
 #[(98 :
 UInt8)]) ∧
 (((entsN
 c_1
 c_1.snd.snd.length).getD
 (Int.toNat
 (1 :
 Int))
 ((0 :
 Int),
 ByteArray.empty)).fst =
 (2 :
 Int) ∧
 ((entsN
 c_1
 c_1.snd.snd.length).getD
 (Int.toNat
 (1 :
 Int))
 ((0 :
 Int),
 ByteArray.empty)).snd =
 ByteArray.mk
 #[(98 :
 UInt8)]) ∧
 (((entsN
 c_1
 c_1.snd.snd.length).getD
 (Int.toNat
 (1 :
 Int))
 ((0 :
 Int),
 ByteArray.empty)).fst =
 (2 :
 Int) ∧
 ((entsN
 c_1
 c_1.snd.snd.length).getD
 (Int.toNat
 (1 :
 Int))
 ((0 :
 Int),
 ByteArray.empty)).snd =
 ByteArray.mk
 #[(98 :
 UInt8)]) ∧
 ((0 :
 Int) =
 (0 :
 Int) →
 (0 :
 Int) =
 (0 :
 Int) ∧
 (0 :
 Int) =
 (0 :
 Int) ∧
 (0 :
 Int) =
 (0 :
 Int) ∧
 (c_1.fst =
 (2 :
 Int) →
 c_1.fst =
 (2 :
 Int) ∧
 c_1.fst =
 (2 :
 Int) ∧
 c_1.fst =
 (2 :
 Int) ∧
 c_1.snd.fst =
 (1 :
 Int) ∧
 Ent.gl
 (0 :
 Nat)
 t.fst
 (Value.iface
 t.snd
 u) =
 Ent.gl
 (0 :
 Nat)
 t.fst
 (Value.iface
 t.snd
 u) ∧
 True) ∧
 (¬c_1.fst =
 (2 :
 Int) →
 ¬c_1.fst =
 (2 :
 Int) ∧
 ¬c_1.fst =
 (2 :
 Int) ∧
 ¬c_1.fst =
 (2 :
 Int) ∧
 False ∧
 Ent.gl
 (0 :
 Nat)
 t.fst
 (Value.iface
 t.snd
 u) =
 Ent.gl
 (0 :
 Nat)
 t.fst
 (Value.iface
 t.snd
 u) ∧
 True)) ∧
 g12_q4
 t
 u
 n) ∧
 (¬(((entsN
 c_1
 c_1.snd.snd.length).getD
 (Int.toNat
 (1 :
 Int))
 ((0 :
 Int),
 ByteArray.empty)).fst =
 (2 :
 Int) ∧
 ((entsN
 c_1
 c_1.snd.snd.length).getD
 (Int.toNat
 (1 :
 Int))
 ((0 :
 Int),
 ByteArray.empty)).snd =
 ByteArray.mk
 #[(98 :
 UInt8)]) →
 ¬(((entsN
 c_1
 c_1.snd.snd.length).getD
 (Int.toNat
 (1 :
 Int))
 ((0 :
 Int),
 ByteArray.empty)).fst =
 (2 :
 Int) ∧
 ((entsN
 c_1
 c_1.snd.snd.length).getD
 (Int.toNat
 (1 :
 Int))
 ((0 :
 Int),
 ByteArray.empty)).snd =
 ByteArray.mk
 #[(98 :
 UInt8)]) ∧
 ¬(((entsN
 c_1
 c_1.snd.snd.length).getD
 (Int.toNat
 (1 :
 Int))
 ((0 :
 Int),
 ByteArray.empty)).fst =
 (2 :
 Int) ∧
 ((entsN
 c_1
 c_1.snd.snd.length).getD
 (Int.toNat
 (1 :
 Int))
 ((0 :
 Int),
 ByteArray.empty)).snd =
 ByteArray.mk
 #[(98 :
 UInt8)]) ∧
 ¬(((entsN
 c_1
 c_1.snd.snd.length).getD
 (Int.toNat
 (1 :
 Int))
 ((0 :
 Int),
 ByteArray.empty)).fst =
 (2 :
 Int) ∧
 ((entsN
 c_1
 c_1.snd.snd.length).getD
 (Int.toNat
 (1 :
 Int))
 ((0 :
 Int),
 ByteArray.empty)).snd =
 ByteArray.mk
 #[(98 :
 UInt8)]) ∧
 False ∧
 Ent.gl
 (0 :
 Nat)
 t.fst
 (Value.iface
 t.snd
 u) =
 Ent.gl
 (0 :
 Nat)
 t.fst
 (Value.iface
 t.snd
 u) ∧
 True)) ∧
 (¬(↑(entsN
 c_1
 c_1.snd.snd.length).length :
 Int) =
 (2 :
 Int) →
 ¬(↑(entsN
 c_1
 c_1.snd.snd.length).length :
 Int) =
 (2 :
 Int) ∧
 ¬(↑(entsN
 c_1
 c_1.snd.snd.length).length :
 Int) =
 (2 :
 Int) ∧
 False ∧
 Ent.gl
 (0 :
 Nat)
 t.fst
 (Value.iface
 t.snd
 u) =
 Ent.gl
 (0 :
 Nat)
 t.fst
 (Value.iface
 t.snd
 u) ∧
 True)))))) ∧
 (¬(false = false ∧
 (openD n.d).turn = (openD n.d).turn ∧
 (openD n.d).opened =
 (openD n.d).opened) →
 True ∧
 (g12_q3 t u n ∧
 (openD n.d).sy = (openD n.d).sy ∧
 (True ∧
 false = false ∧
 True ∧
 (openD n.d).turn =
 (openD n.d).turn ∧
 (openD n.d).opened =
 (openD n.d).opened ∧
 r.fst = r.fst ∧
 r.snd.fst = r.snd.fst ∧
 r.snd.snd =
 r.snd.snd ∧
 true = true ∧
 c.fst +
 (1 :
 Int) +
 (1 : Int) =
 c.fst +
 (1 :
 Int) +
 (1 : Int) ∧
 (1 : Int) =
 (1 : Int) ∧
 True ∧ True) ∧
 addC
 (addC c.snd.snd
 (ByteArray.mk
 #[(97 : UInt8)]))
 (ByteArray.mk
 #[(98 : UInt8)]) =
 addC
 (addC c.snd.snd
 (ByteArray.mk
 #[(97 : UInt8)]))
 (ByteArray.mk
 #[(98 : UInt8)]) ∧
 True) ∧
 (True ∧ True) ∧
 ((DkOK (openD n.d) ∧
 (((0 : Int) ≤
 c.fst + (1 : Int) +
 (1 : Int) ∧
 c.fst + (1 : Int) +
 (1 : Int) <
 (281474976710656 : Int)) ∧
 ((0 : Int) ≤ (1 : Int) ∧
 (1 : Int) <
 (281474976710656 :
 Int)) ∧
 (addC
 (addC c.snd.snd
 (ByteArray.mk
 #[(97 :
 UInt8)]))
 (ByteArray.mk
 #[(98 :
 UInt8)])).length ≤
 (40 : Nat) ∧
 ∀ (s : ByteArray),
 s ∈
 addC
 (addC c.snd.snd
 (ByteArray.mk
 #[(97 :
 UInt8)]))
 (ByteArray.mk
 #[(98 :
 UInt8)]) →
 s.size ≤ (24 : Nat)) ∧
 (0 : Int) ≤ r.fst ∧
 r.fst ≤ (1000000 : Int)) ∧
 ¬(false = false ∧
 (openD n.d).turn =
 (openD n.d).turn ∧
 (openD n.d).opened =
 (openD n.d).opened)) ∧
 True ∧
 (¬(6 : Int) = (0 : Int) →
 ¬(6 : Int) = (0 : Int) ∧
 ¬(6 : Int) = (0 : Int) ∧
 False ∧
 Ent.gl (0 : Nat) t.fst
 (Value.iface t.snd
 u) =
 Ent.gl (0 : Nat) t.fst
 (Value.iface t.snd
 u) ∧
 True) ∧
 (¬¬(6 : Int) = (0 : Int) →
 ¬¬(6 : Int) = (0 : Int) ∧
 ¬¬(6 : Int) = (0 : Int) ∧
 True ∧
 (g12_q3 t u n ∧
 (openD n.d).sy =
 (openD n.d).sy ∧
 True) ∧
 (True ∧
 (0 : Int) =
 (0 : Int) ∧
 True) ∧
 (DkOK (openD n.d) ∧
 (0 : Int) ≤
 (openD
 n.d).turn ∧
 (openD
 n.d).turn ≤
 (1000000 :
 Int)) ∧
 True ∧
 ∃ (r_1 : Rt),
 ∃ (c_1 : Cn),
 True ∧
 (((True ∧
 false =
 false ∧
 (0 :
 Int) =
 (0 :
 Int) ∧
 (openD
 n.d).turn +
 (1 :
 Int) =
 (openD
 n.d).turn +
 (1 :
 Int) ∧
 (openD
 n.d).opened =
 (openD
 n.d).opened ∧
 True) ∧
 (True ∧
 True) ∧
 tearN
 (0 :
 Int)
 (openD
 n.d).sy
 (keysF
 (openD
 n.d).sy)
 (openD
 n.d).bl
 (keysF
 (openD
 n.d).sy).length =
 tearN
 (0 :
 Int)
 (openD
 n.d).sy
 (keysF
 (openD
 n.d).sy)
 (openD
 n.d).bl
 (keysF
 (openD
 n.d).sy).length) ∧
 nilT
 (Int ×
 List
 Int) =
 nilT
 (Int ×
 List
 Int) ∧
 Ent.gl
 (0 :
 Nat)
 t.fst
 (Value.iface
 t.snd
 u) =
 Ent.gl
 (0 :
 Nat)
 t.fst
 (Value.iface
 t.snd
 u) ∧
 True) ∧
 (True ∧
 True) ∧
 (DkOK
 (Dk.mk
 false
 (0 :
 Int)
 ((openD
 n.d).turn +
 (1 :
 Int))
 (openD
 n.d).opened
 (tearN
 (0 :
 Int)
 (openD
 n.d).sy
 (keysF
 (openD
 n.d).sy)
 (openD
 n.d).bl
 (keysF
 (openD
 n.d).sy).length)
 []) ∧
 NewP
 (tearN
 (0 :
 Int)
 (openD
 n.d).sy
 (keysF
 (openD
 n.d).sy)
 (openD
 n.d).bl
 (keysF
 (openD
 n.d).sy).length)
 r_1
 c_1 ∧
 false =
 false ∧
 (syncF
 (upD
 (Dk.mk
 false
 (0 :
 Int)
 ((openD
 n.d).turn +
 (1 :
 Int))
 (openD
 n.d).opened
 (tearN
 (0 :
 Int)
 (openD
 n.d).sy
 (keysF
 (openD
 n.d).sy)
 (openD
 n.d).bl
 (keysF
 (openD
 n.d).sy).length)
 (nilT
 (Int ×
 List
 Int))))).fst =
 (0 :
 Int) ∧
 (0 :
 Int) ≤
 (openD
 n.d).opened ∧
 (openD
 n.d).opened ≤
 (1000000 :
 Int)) ∧
 True ∧
 g12_q4
 t
 u
 n ∧
 (¬¬(0 :
 Int) =
 (0 :
 Int) →
 ¬¬(0 :
 Int) =
 (0 :
 Int) ∧
 ¬¬(0 :
 Int) =
 (0 :
 Int) ∧
 ¬¬(0 :
 Int) =
 (0 :
 Int) ∧
 (false =
 false ∧
 (openD
 n.d).turn =
 (openD
 n.d).turn +
 (1 :
 Int) ∧
 (openD
 n.d).opened =
 (openD
 n.d).opened +
 (1 :
 Int) →
 True ∧
 (g12_q7
 t
 u
 n ∧
 nilT
 (Int ×
 List
 Int) =
 nilT
 (Int ×
 List
 Int) ∧
 (True ∧
 false =
 false ∧
 True ∧
 (openD
 n.d).turn =
 (openD
 n.d).turn ∧
 (openD
 n.d).opened =
 (openD
 n.d).opened ∧
 r.fst =
 r.fst ∧
 r.snd.fst =
 r.snd.fst ∧
 r.snd.snd =
 r.snd.snd ∧
 true =
 true ∧
 c.fst +
 (1 :
 Int) +
 (1 :
 Int) =
 c.fst +
 (1 :
 Int) +
 (1 :
 Int) ∧
 (1 :
 Int) =
 (1 :
 Int) ∧
 True ∧
 True) ∧
 addC
 (addC
 c.snd.snd
 (ByteArray.mk
 #[(97 :
 UInt8)]))
 (ByteArray.mk
 #[(98 :
 UInt8)]) =
 addC
 (addC
 c.snd.snd
 (ByteArray.mk
 #[(97 :
 UInt8)]))
 (ByteArray.mk
 #[(98 :
 UInt8)]) ∧
 True) ∧
 (True ∧
 True) ∧
 ((g12_q8
 t
 u
 n ∧
 (((0 :
 Int) ≤
 c.fst +
 (1 :
 Int) +
 (1 :
 Int) ∧
 c.fst +
 (1 :
 Int) +
 (1 :
 Int) <
 (281474976710656 :
 Int)) ∧
 ((0 :
 Int) ≤
 (1 :
 Int) ∧
 (1 :
 Int) <
 (281474976710656 :
 Int)) ∧
 (addC
 (addC
 c.snd.snd
 (ByteArray.mk
 #[(97 :
 UInt8)]))
 (ByteArray.mk
 #[(98 :
 UInt8)])).length ≤
 (40 :
 Nat) ∧
 ∀
 (s :
 ByteArray),
 s ∈
 addC
 (addC
 c.snd.snd
 (ByteArray.mk
 #[(97 :
 UInt8)]))
 (ByteArray.mk
 #[(98 :
 UInt8)]) →
 s.size ≤
 (24 :
 Nat)) ∧
 (0 :
 Int) ≤
 r.fst ∧
 r.fst ≤
 (1000000 :
 Int)) ∧
 (false =
 false ∧
 (openD
 n.d).turn =
 (openD
 n.d).turn +
 (1 :
 Int) ∧
 (openD
 n.d).opened =
 (openD
 n.d).opened +
 (1 :
 Int)) ∧
 true =
 true ∧
 (writeL
 (Dk.mk
 false
 (0 :
 Int)
 ((openD
 n.d).turn +
 (1 :
 Int))
 ((openD
 n.d).opened +
 (1 :
 Int))
 (tearN
 (0 :
 Int)
 (openD
 n.d).sy
 (keysF
 (openD
 n.d).sy)
 (openD
 n.d).bl
 (keysF
 (openD
 n.d).sy).length)
 (nilT
 (Int ×
 List
 Int)))
 (Ls.mk
 false
 (openD
 n.d).turn
 (openD
 n.d).opened
 r
 true
 (c.fst +
 (1 :
 Int) +
 (1 :
 Int),
 (1 :
 Int),
 addC
 (addC
 c.snd.snd
 (ByteArray.mk
 #[(97 :
 UInt8)]))
 (ByteArray.mk
 #[(98 :
 UInt8)])))).fst =
 (0 :
 Int)) ∧
 True ∧
 g12_q5
 t
 u
 n ∧
 (¬¬(0 :
 Int) =
 (6 :
 Int) →
 ¬¬(0 :
 Int) =
 (6 :
 Int) ∧
 ¬¬(0 :
 Int) =
 (6 :
 Int) ∧
 True ∧
 (((True ∧
 (writeL
 (Dk.mk
 false
 (0 :
 Int)
 ((openD
 n.d).turn +
 (1 :
 Int))
 ((openD
 n.d).opened +
 (1 :
 Int))
 (tearN
 (0 :
 Int)
 (openD
 n.d).sy
 (keysF
 (openD
 n.d).sy)
 (openD
 n.d).bl
 (keysF
 (openD
 n.d).sy).length)
 (nilT
 (Int ×
 List
 Int)))
 (Ls.mk
 false
 (openD
 n.d).turn
 (openD
 n.d).opened
 r
 true
 (c.fst +
 (1 :
 Int) +
 (1 :
 Int),
 (1 :
 Int),
 addC
 (addC
 c.snd.snd
 (ByteArray.mk
 #[(97 :
 UInt8)]))
 (ByteArray.mk
 #[(98 :
 UInt8)])))).snd.fst.down =
 (writeL
 (Dk.mk
 false
 (0 :
 Int)
 ((openD
 n.d).turn +
 (1 :
 Int))
 ((openD
 n.d).opened +
 (1 :
 Int))
 (tearN
 (0 :
 Int)
 (openD
 n.d).sy
 (keysF
 (openD
 n.d).sy)
 (openD
 n.d).bl
 (keysF
 (openD
 n.d).sy).length)
 (nilT
 (Int ×
 List
 Int)))
 (Ls.mk
 false
 (openD
 n.d).turn
 (openD
 n.d).opened
 r
 true
 (c.fst +
 (1 :
 Int) +
 (1 :
 Int),
 (1 :
 Int),
 addC
 (addC
 c.snd.snd
 (ByteArray.mk
 #[(97 :
 UInt8)]))
 (ByteArray.mk
 #[(98 :
 UInt8)])))).snd.fst.down ∧
 (writeL
 (Dk.mk
 false
 (0 :
 Int)
 ((openD
 n.d).turn +
 (1 :
 Int))
 ((openD
 n.d).opened +
 (1 :
 Int))
 (tearN
 (0 :
 Int)
 (openD
 n.d).sy
 (keysF
 (openD
 n.d).sy)
 (openD
 n.d).bl
 (keysF
 (openD
 n.d).sy).length)
 (nilT
 (Int ×
 List
 Int)))
 (Ls.mk
 false
 (openD
 n.d).turn
 (openD
 n.d).opened
 r
 true
 (c.fst +
 (1 :
 Int) +
 (1 :
 Int),
 (1 :
 Int),
 addC
 (addC
 c.snd.snd
 (ByteArray.mk
 #[(97 :
 UInt8)]))
 (ByteArray.mk
 #[(98 :
 UInt8)])))).snd.fst.left =
 (writeL
 (Dk.mk
 false
 (0 :
 Int)
 ((openD
 n.d).turn +
 (1 :
 Int))
 ((openD
 n.d).opened +
 (1 :
 Int))
 (tearN
 (0 :
 Int)
 (openD
 n.d).sy
 (keysF
 (openD
 n.d).sy)
 (openD
 n.d).bl
 (keysF
 (openD
 n.d).sy).length)
 (nilT
 (Int ×
 List
 Int)))
 (Ls.mk
 false
 (openD
 n.d).turn
 (openD
 n.d).opened
 r
 true
 (c.fst +
 (1 :
 Int) +
 (1 :
 Int),
 (1 :
 Int),
 addC
 (addC
 c.snd.snd
 (ByteArray.mk
 #[(97 :
 UInt8)]))
 (ByteArray.mk
 #[(98 :
 UInt8)])))).snd.fst.left ∧
 (writeL
 (Dk.mk
 false
 (0 :
 Int)
 ((openD
 n.d).turn +
 (1 :
 Int))
 ((openD
 n.d).opened +
 (1 :
 Int))
 (tearN
 (0 :
 Int)
 (openD
 n.d).sy
 (keysF
 (openD
 n.d).sy)
 (openD
 n.d).bl
 (keysF
 (openD
 n.d).sy).length)
 (nilT
 (Int ×
 List
 Int)))
 (Ls.mk
 false
 (openD
 n.d).turn
 (openD
 n.d).opened
 r
 true
 (c.fst +
 (1 :
 Int) +
 (1 :
 Int),
 (1 :
 Int),
 addC
 (addC
 c.snd.snd
 (ByteArray.mk
 #[(97 :
 UInt8)]))
 (ByteArray.mk
 #[(98 :
 UInt8)])))).snd.fst.turn =
 (writeL
 (Dk.mk
 false
 (0 :
 Int)
 ((openD
 n.d).turn +
 (1 :
 Int))
 ((openD
 n.d).opened +
 (1 :
 Int))
 (tearN
 (0 :
 Int)
 (openD
 n.d).sy
 (keysF
 (openD
 n.d).sy)
 (openD
 n.d).bl
 (keysF
 (openD
 n.d).sy).length)
 (nilT
 (Int ×
 List
 Int)))
 (Ls.mk
 false
 (openD
 n.d).turn
 (openD
 n.d).opened
 r
 true
 (c.fst +
 (1 :
 Int) +
 (1 :
 Int),
 (1 :
 Int),
 addC
 (addC
 c.snd.snd
 (ByteArray.mk
 #[(97 :
 UInt8)]))
 (ByteArray.mk
 #[(98 :
 UInt8)])))).snd.fst.turn ∧
 (writeL
 (Dk.mk
 false
 (0 :
 Int)
 ((openD
 n.d).turn +
 (1 :
 Int))
 ((openD
 n.d).opened +
 (1 :
 Int))
 (tearN
 (0 :
 Int)
 (openD
 n.d).sy
 (keysF
 (openD
 n.d).sy)
 (openD
 n.d).bl
 (keysF
 (openD
 n.d).sy).length)
 (nilT
 (Int ×
 List
 Int)))
 (Ls.mk
 false
 (openD
 n.d).turn
 (openD
 n.d).opened
 r
 true
 (c.fst +
 (1 :
 Int) +
 (1 :
 Int),
 (1 :
 Int),
 addC
 (addC
 c.snd.snd
 (ByteArray.mk
 #[(97 :
 UInt8)]))
 (ByteArray.mk
 #[(98 :
 UInt8)])))).snd.fst.opened =
 (writeL
 (Dk.mk
 false
 (0 :
 Int)
 ((openD
 n.d).turn +
 (1 :
 Int))
 ((openD
 n.d).opened +
 (1 :
 Int))
 (tearN
 (0 :
 Int)
 (openD
 n.d).sy
 (keysF
 (openD
 n.d).sy)
 (openD
 n.d).bl
 (keysF
 (openD
 n.d).sy).length)
 (nilT
 (Int ×
 List
 Int)))
 (Ls.mk
 false
 (openD
 n.d).turn
 (openD
 n.d).opened
 r
 true
 (c.fst +
 (1 :
 Int) +
 (1 :
 Int),
 (1 :
 Int),
 addC
 (addC
 c.snd.snd
 (ByteArray.mk
 #[(97 :
 UInt8)]))
 (ByteArray.mk
 #[(98 :
 UInt8)])))).snd.fst.opened ∧
 True) ∧
 (True ∧
 True) ∧
 (writeL
 (Dk.mk
 false
 (0 :
 Int)
 ((openD
 n.d).turn +
 (1 :
 Int))
 ((openD
 n.d).opened +
 (1 :
 Int))
 (tearN
 (0 :
 Int)
 (openD
 n.d).sy
 (keysF
 (openD
 n.d).sy)
 (openD
 n.d).bl
 (keysF
 (openD
 n.d).sy).length)
 (nilT
 (Int ×
 List
 Int)))
 (Ls.mk
 false
 (openD
 n.d).turn
 (openD
 n.d).opened
 r
 true
 (c.fst +
 (1 :
 Int) +
 (1 :
 Int),
 (1 :
 Int),
 addC
 (addC
 c.snd.snd
 (ByteArray.mk
 #[(97 :
 UInt8)]))
 (ByteArray.mk
 #[(98 :
 UInt8)])))).snd.fst.bl =
 (writeL
 (Dk.mk
 false
 (0 :
 Int)
 ((openD
 n.d).turn +
 (1 :
 Int))
 ((openD
 n.d).opened +
 (1 :
 Int))
 (tearN
 (0 :
 Int)
 (openD
 n.d).sy
 (keysF
 (openD
 n.d).sy)
 (openD
 n.d).bl
 (keysF
 (openD
 n.d).sy).length)
 (nilT
 (Int ×
 List
 Int)))
 (Ls.mk
 false
 (openD
 n.d).turn
 (openD
 n.d).opened
 r
 true
 (c.fst +
 (1 :
 Int) +
 (1 :
 Int),
 (1 :
 Int),
 addC
 (addC
 c.snd.snd
 (ByteArray.mk
 #[(97 :
 UInt8)]))
 (ByteArray.mk
 #[(98 :
 UInt8)])))).snd.fst.bl) ∧
 (writeL
 (Dk.mk
 false
 (0 :
 Int)
 ((openD
 n.d).turn +
 (1 :
 Int))
 ((openD
 n.d).opened +
 (1 :
 Int))
 (tearN
 (0 :
 Int)
 (openD
 n.d).sy
 (keysF
 (openD
 n.d).sy)
 (openD
 n.d).bl
 (keysF
 (openD
 n.d).sy).length)
 (nilT
 (Int ×
 List
 Int)))
 (Ls.mk
 false
 (openD
 n.d).turn
 (openD
 n.d).opened
 r
 true
 (c.fst +
 (1 :
 Int) +
 (1 :
 Int),
 (1 :
 Int),
 addC
 (addC
 c.snd.snd
 (ByteArray.mk
 #[(97 :
 UInt8)]))
 (ByteArray.mk
 #[(98 :
 UInt8)])))).snd.fst.sy =
 (writeL
 (Dk.mk
 false
 (0 :
 Int)
 ((openD
 n.d).turn +
 (1 :
 Int))
 ((openD
 n.d).opened +
 (1 :
 Int))
 (tearN
 (0 :
 Int)
 (openD
 n.d).sy
 (keysF
 (openD
 n.d).sy)
 (openD
 n.d).bl
 (keysF
 (openD
 n.d).sy).length)
 (nilT
 (Int ×
 List
 Int)))
 (Ls.mk
 false
 (openD
 n.d).turn
 (openD
 n.d).opened
 r
 true
 (c.fst +
 (1 :
 Int) +
 (1 :
 Int),
 (1 :
 Int),
 addC
 (addC
 c.snd.snd
 (ByteArray.mk
 #[(97 :
 UInt8)]))
 (ByteArray.mk
 #[(98 :
 UInt8)])))).snd.fst.sy ∧
 (True ∧
 false =
 false ∧
 True ∧
 (openD
 n.d).turn +
 (1 :
 Int) =
 (openD
 n.d).turn +
 (1 :
 Int) ∧
 (openD
 n.d).opened +
 (1 :
 Int) =
 (openD
 n.d).opened +
 (1 :
 Int) ∧
 r_1.fst =
 r_1.fst ∧
 r_1.snd.fst =
 r_1.snd.fst ∧
 r_1.snd.snd =
 r_1.snd.snd ∧
 false =
 false ∧
 c_1.fst =
 c_1.fst ∧
 c_1.snd.fst =
 c_1.snd.fst ∧
 True ∧
 True) ∧
 c_1.snd.snd =
 c_1.snd.snd ∧
 True) ∧
 (True ∧
 True) ∧
 (c_1.snd.snd.length ≤
 (40 :
 Nat) ∧
 (0 :
 Int) ≤
 c_1.fst ∧
 c_1.fst ≤
 (1000000000 :
 Int)) ∧
 True ∧
 ((↑(entsN
 c_1
 c_1.snd.snd.length).length :
 Int) =
 (2 :
 Int) →
 (↑(entsN
 c_1
 c_1.snd.snd.length).length :
 Int) =
 (2 :
 Int) ∧
 (↑(entsN
 c_1
 c_1.snd.snd.length).length :
 Int) =
 (2 :
 Int) ∧
 ((0 :
 Int) ≤
 (1 :
 Int) ∧
 (1 :
 Int) <
 (↑(entsN
 c_1
 c_1.snd.snd.length).length :
 Int)) ∧
 (((entsN
 c_1
 c_1.snd.snd.length).getD
 (Int.toNat
 (1 :
 Int))
 ((0 :
 Int),
 ByteArray.empty)).fst =
 (2 :
 Int) ∧
 ((entsN
 c_1
 c_1.snd.snd.length).getD
 (Int.toNat
 (1 :
 Int))
 ((0 :
 Int),
 ByteArray.empty)).snd =
 ByteArray.mk
 #[(98 :
 UInt8)] →
 (((entsN
 c_1
 c_1.snd.snd.length).getD
 (Int.toNat
 (1 :
 Int))
 ((0 :
 Int),
 ByteArray.empty)).fst =
 (2 :
 Int) ∧
 ((entsN
 c_1
 c_1.snd.snd.length).getD
 (Int.toNat
 (1 :
 Int))
 ((0 :
 Int),
 ByteArray.empty)).snd =
 ByteArray.mk
 #[(98 :
 UInt8)]) ∧
 (((entsN
 c_1
 c_1.snd.snd.length).getD
 (Int.toNat
 (1 :
 Int))
 ((0 :
 Int),
 ByteArray.empty)).fst =
 (2 :
 Int) ∧
 ((entsN
 c_1
 c_1.snd.snd.length).getD
 (Int.toNat
 (1 :
 Int))
 ((0 :
 Int),
 ByteArray.empty)).snd =
 ByteArray.mk
 #[(98 :
 UInt8)]) ∧
 (((entsN
 c_1
 c_1.snd.snd.length).getD
 (Int.toNat
 (1 :
 Int))
 ((0 :
 Int),
 ByteArray.empty)).fst =
 (2 :
 Int) ∧
 ((entsN
 c_1
 c_1.snd.snd.length).getD
 (Int.toNat
 (1 :
 Int))
 ((0 :
 Int),
 ByteArray.empty)).snd =
 ByteArray.mk
 #[(98 :
 UInt8)]) ∧
 ((0 :
 Int) =
 (0 :
 Int) →
 (0 :
 Int) =
 (0 :
 Int) ∧
 (0 :
 Int) =
 (0 :
 Int) ∧
 (0 :
 Int) =
 (0 :
 Int) ∧
 (c_1.fst =
 (2 :
 Int) →
 c_1.fst =
 (2 :
 Int) ∧
 c_1.fst =
 (2 :
 Int) ∧
 c_1.fst =
 (2 :
 Int) ∧
 c_1.snd.fst =
 (1 :
 Int) ∧
 Ent.gl
 (0 :
 Nat)
 t.fst
 (Value.iface
 t.snd
 u) =
 Ent.gl
 (0 :
 Nat)
 t.fst
 (Value.iface
 t.snd
 u) ∧
 True) ∧
 (¬c_1.fst =
 (2 :
 Int) →
 ¬c_1.fst =
 (2 :
 Int) ∧
 ¬c_1.fst =
 (2 :
 Int) ∧
 ¬c_1.fst =
 (2 :
 Int) ∧
 False ∧
 Ent.gl
 (0 :
 Nat)
 t.fst
 (Value.iface
 t.snd
 u) =
 Ent.gl
 (0 :
 Nat)
 t.fst
 (Value.iface
 t.snd
 u) ∧
 True)) ∧
 g12_q4
 t
 u
 n) ∧
 (¬(((entsN
 c_1
 c_1.snd.snd.length).getD
 (Int.toNat
 (1 :
 Int))
 ((0 :
 Int),
 ByteArray.empty)).fst =
 (2 :
 Int) ∧
 ((entsN
 c_1
 c_1.snd.snd.length).getD
 (Int.toNat
 (1 :
 Int))
 ((0 :
 Int),
 ByteArray.empty)).snd =
 ByteArray.mk
 #[(98 :
 UInt8)]) →
 ¬(((entsN
 c_1
 c_1.snd.snd.length).getD
 (Int.toNat
 (1 :
 Int))
 ((0 :
 Int),
 ByteArray.empty)).fst =
 (2 :
 Int) ∧
 ((entsN
 c_1
 c_1.snd.snd.length).getD
 (Int.toNat
 (1 :
 Int))
 ((0 :
 Int),
 ByteArray.empty)).snd =
 ByteArray.mk
 #[(98 :
 UInt8)]) ∧
 ¬(((entsN
 c_1
 c_1.snd.snd.length).getD
 (Int.toNat
 (1 :
 Int))
 ((0 :
 Int),
 ByteArray.empty)).fst =
 (2 :
 Int) ∧
 ((entsN
 c_1
 c_1.snd.snd.length).getD
 (Int.toNat
 (1 :
 Int))
 ((0 :
 Int),
 ByteArray.empty)).snd =
 ByteArray.mk
 #[(98 :
 UInt8)]) ∧
 ¬(((entsN
 c_1
 c_1.snd.snd.length).getD
 (Int.toNat
 (1 :
 Int))
 ((0 :
 Int),
 ByteArray.empty)).fst =
 (2 :
 Int) ∧
 ((entsN
 c_1
 c_1.snd.snd.length).getD
 (Int.toNat
 (1 :
 Int))
 ((0 :
 Int),
 ByteArray.empty)).snd =
 ByteArray.mk
 #[(98 :
 UInt8)]) ∧
 False ∧
 Ent.gl
 (0 :
 Nat)
 t.fst
 (Value.iface
 t.snd
 u) =
 Ent.gl
 (0 :
 Nat)
 t.fst
 (Value.iface
 t.snd
 u) ∧
 True)) ∧
 (¬(↑(entsN
 c_1
 c_1.snd.snd.length).length :
 Int) =
 (2 :
 Int) →
 ¬(↑(entsN
 c_1
 c_1.snd.snd.length).length :
 Int) =
 (2 :
 Int) ∧
 ¬(↑(entsN
 c_1
 c_1.snd.snd.length).length :
 Int) =
 (2 :
 Int) ∧
 False ∧
 Ent.gl
 (0 :
 Nat)
 t.fst
 (Value.iface
 t.snd
 u) =
 Ent.gl
 (0 :
 Nat)
 t.fst
 (Value.iface
 t.snd
 u) ∧
 True))) ∧
 (¬(false =
 false ∧
 (openD
 n.d).turn =
 (openD
 n.d).turn +
 (1 :
 Int) ∧
 (openD
 n.d).opened =
 (openD
 n.d).opened +
 (1 :
 Int)) →
 True ∧
 (g12_q7
 t
 u
 n ∧
 nilT
 (Int ×
 List
 Int) =
 nilT
 (Int ×
 List
 Int) ∧
 (True ∧
 false =
 false ∧
 True ∧
 (openD
 n.d).turn =
 (openD
 n.d).turn ∧
 (openD
 n.d).opened =
 (openD
 n.d).opened ∧
 r.fst =
 r.fst ∧
 r.snd.fst =
 r.snd.fst ∧
 r.snd.snd =
 r.snd.snd ∧
 true =
 true ∧
 c.fst +
 (1 :
 Int) +
 (1 :
 Int) =
 c.fst +
 (1 :
 Int) +
 (1 :
 Int) ∧
 (1 :
 Int) =
 (1 :
 Int) ∧
 True ∧
 True) ∧
 addC
 (addC
 c.snd.snd
 (ByteArray.mk
 #[(97 :
 UInt8)]))
 (ByteArray.mk
 #[(98 :
 UInt8)]) =
 addC
 (addC
 c.snd.snd
 (ByteArray.mk
 #[(97 :
 UInt8)]))
 (ByteArray.mk
 #[(98 :
 UInt8)]) ∧
 True) ∧
 (True ∧
 True) ∧
 ((g12_q8
 t
 u
 n ∧
 (((0 :
 Int) ≤
 c.fst +
 (1 :
 Int) +
 (1 :
 Int) ∧
 c.fst +
 (1 :
 Int) +
 (1 :
 Int) <
 (281474976710656 :
 Int)) ∧
 ((0 :
 Int) ≤
 (1 :
 Int) ∧
 (1 :
 Int) <
 (281474976710656 :
 Int)) ∧
 (addC
 (addC
 c.snd.snd
 (ByteArray.mk
 #[(97 :
 UInt8)]))
 (ByteArray.mk
 #[(98 :
 UInt8)])).length ≤
 (40 :
 Nat) ∧
 ∀
 (s :
 ByteArray),
 s ∈
 addC
 (addC
 c.snd.snd
 (ByteArray.mk
 #[(97 :
 UInt8)]))
 (ByteArray.mk
 #[(98 :
 UInt8)]) →
 s.size ≤
 (24 :
 Nat)) ∧
 (0 :
 Int) ≤
 r.fst ∧
 r.fst ≤
 (1000000 :
 Int)) ∧
 ¬(false =
 false ∧
 (openD
 n.d).turn =
 (openD
 n.d).turn +
 (1 :
 Int) ∧
 (openD
 n.d).opened =
 (openD
 n.d).opened +
 (1 :
 Int))) ∧
 True ∧
 g12_q6
 t
 u
 n ∧
 (¬¬(6 :
 Int) =
 (6 :
 Int) →
 ¬¬(6 :
 Int) =
 (6 :
 Int) ∧
 ¬¬(6 :
 Int) =
 (6 :
 Int) ∧
 True ∧
 (g12_q7
 t
 u
 n ∧
 nilT
 (Int ×
 List
 Int) =
 nilT
 (Int ×
 List
 Int) ∧
 (True ∧
 false =
 false ∧
 True ∧
 (openD
 n.d).turn +
 (1 :
 Int) =
 (openD
 n.d).turn +
 (1 :
 Int) ∧
 (openD
 n.d).opened +
 (1 :
 Int) =
 (openD
 n.d).opened +
 (1 :
 Int) ∧
 r_1.fst =
 r_1.fst ∧
 r_1.snd.fst =
 r_1.snd.fst ∧
 r_1.snd.snd =
 r_1.snd.snd ∧
 false =
 false ∧
 c_1.fst =
 c_1.fst ∧
 c_1.snd.fst =
 c_1.snd.fst ∧
 True ∧
 True) ∧
 c_1.snd.snd =
 c_1.snd.snd ∧
 True) ∧
 (True ∧
 True) ∧
 (c_1.snd.snd.length ≤
 (40 :
 Nat) ∧
 (0 :
 Int) ≤
 c_1.fst ∧
 c_1.fst ≤
 (1000000000 :
 Int)) ∧
 True ∧
 ((↑(entsN
 c_1
 c_1.snd.snd.length).length :
 Int) =
 (2 :
 Int) →
 (↑(entsN
 c_1
 c_1.snd.snd.length).length :
 Int) =
 (2 :
 Int) ∧
 (↑(entsN
 c_1
 c_1.snd.snd.length).length :
 Int) =
 (2 :
 Int) ∧
 ((0 :
 Int) ≤
 (1 :
 Int) ∧
 (1 :
 Int) <
 (↑(entsN
 c_1
 c_1.snd.snd.length).length :
 Int)) ∧
 (((entsN
 c_1
 c_1.snd.snd.length).getD
 (Int.toNat
 (1 :
 Int))
 ((0 :
 Int),
 ByteArray.empty)).fst =
 (2 :
 Int) ∧
 ((entsN
 c_1
 c_1.snd.snd.length).getD
 (Int.toNat
 (1 :
 Int))
 ((0 :
 Int),
 ByteArray.empty)).snd =
 ByteArray.mk
 #[(98 :
 UInt8)] →
 (((entsN
 c_1
 c_1.snd.snd.length).getD
 (Int.toNat
 (1 :
 Int))
 ((0 :
 Int),
 ByteArray.empty)).fst =
 (2 :
 Int) ∧
 ((entsN
 c_1
 c_1.snd.snd.length).getD
 (Int.toNat
 (1 :
 Int))
 ((0 :
 Int),
 ByteArray.empty)).snd =
 ByteArray.mk
 #[(98 :
 UInt8)]) ∧
 (((entsN
 c_1
 c_1.snd.snd.length).getD
 (Int.toNat
 (1 :
 Int))
 ((0 :
 Int),
 ByteArray.empty)).fst =
 (2 :
 Int) ∧
 ((entsN
 c_1
 c_1.snd.snd.length).getD
 (Int.toNat
 (1 :
 Int))
 ((0 :
 Int),
 ByteArray.empty)).snd =
 ByteArray.mk
 #[(98 :
 UInt8)]) ∧
 (((entsN
 c_1
 c_1.snd.snd.length).getD
 (Int.toNat
 (1 :
 Int))
 ((0 :
 Int),
 ByteArray.empty)).fst =
 (2 :
 Int) ∧
 ((entsN
 c_1
 c_1.snd.snd.length).getD
 (Int.toNat
 (1 :
 Int))
 ((0 :
 Int),
 ByteArray.empty)).snd =
 ByteArray.mk
 #[(98 :
 UInt8)]) ∧
 ((0 :
 Int) =
 (0 :
 Int) →
 (0 :
 Int) =
 (0 :
 Int) ∧
 (0 :
 Int) =
 (0 :
 Int) ∧
 (0 :
 Int) =
 (0 :
 Int) ∧
 (c_1.fst =
 (2 :
 Int) →
 c_1.fst =
 (2 :
 Int) ∧
 c_1.fst =
 (2 :
 Int) ∧
 c_1.fst =
 (2 :
 Int) ∧
 c_1.snd.fst =
 (1 :
 Int) ∧
 Ent.gl
 (0 :
 Nat)
 t.fst
 (Value.iface
 t.snd
 u) =
 Ent.gl
 (0 :
 Nat)
 t.fst
 (Value.iface
 t.snd
 u) ∧
 True) ∧
 (¬c_1.fst =
 (2 :
 Int) →
 ¬c_1.fst =
 (2 :
 Int) ∧
 ¬c_1.fst =
 (2 :
 Int) ∧
 ¬c_1.fst =
 (2 :
 Int) ∧
 False ∧
 Ent.gl
 (0 :
 Nat)
 t.fst
 (Value.iface
 t.snd
 u) =
 Ent.gl
 (0 :
 Nat)
 t.fst
 (Value.iface
 t.snd
 u) ∧
 True)) ∧
 g12_q4
 t
 u
 n) ∧
 (¬(((entsN
 c_1
 c_1.snd.snd.length).getD
 (Int.toNat
 (1 :
 Int))
 ((0 :
 Int),
 ByteArray.empty)).fst =
 (2 :
 Int) ∧
 ((entsN
 c_1
 c_1.snd.snd.length).getD
 (Int.toNat
 (1 :
 Int))
 ((0 :
 Int),
 ByteArray.empty)).snd =
 ByteArray.mk
 #[(98 :
 UInt8)]) →
 ¬(((entsN
 c_1
 c_1.snd.snd.length).getD
 (Int.toNat
 (1 :
 Int))
 ((0 :
 Int),
 ByteArray.empty)).fst =
 (2 :
 Int) ∧
 ((entsN
 c_1
 c_1.snd.snd.length).getD
 (Int.toNat
 (1 :
 Int))
 ((0 :
 Int),
 ByteArray.empty)).snd =
 ByteArray.mk
 #[(98 :
 UInt8)]) ∧
 ¬(((entsN
 c_1
 c_1.snd.snd.length).getD
 (Int.toNat
 (1 :
 Int))
 ((0 :
 Int),
 ByteArray.empty)).fst =
 (2 :
 Int) ∧
 ((entsN
 c_1
 c_1.snd.snd.length).getD
 (Int.toNat
 (1 :
 Int))
 ((0 :
 Int),
 ByteArray.empty)).snd =
 ByteArray.mk
 #[(98 :
 UInt8)]) ∧
 ¬(((entsN
 c_1
 c_1.snd.snd.length).getD
 (Int.toNat
 (1 :
 Int))
 ((0 :
 Int),
 ByteArray.empty)).fst =
 (2 :
 Int) ∧
 ((entsN
 c_1
 c_1.snd.snd.length).getD
 (Int.toNat
 (1 :
 Int))
 ((0 :
 Int),
 ByteArray.empty)).snd =
 ByteArray.mk
 #[(98 :
 UInt8)]) ∧
 False ∧
 Ent.gl
 (0 :
 Nat)
 t.fst
 (Value.iface
 t.snd
 u) =
 Ent.gl
 (0 :
 Nat)
 t.fst
 (Value.iface
 t.snd
 u) ∧
 True)) ∧
 (¬(↑(entsN
 c_1
 c_1.snd.snd.length).length :
 Int) =
 (2 :
 Int) →
 ¬(↑(entsN
 c_1
 c_1.snd.snd.length).length :
 Int) =
 (2 :
 Int) ∧
 ¬(↑(entsN
 c_1
 c_1.snd.snd.length).length :
 Int) =
 (2 :
 Int) ∧
 False ∧
 Ent.gl
 (0 :
 Nat)
 t.fst
 (Value.iface
 t.snd
 u) =
 Ent.gl
 (0 :
 Nat)
 t.fst
 (Value.iface
 t.snd
 u) ∧
 True)))))))))))))) := by
 kernel_rfl
end Go.SX.Pe

/- Chapter 10: the document's examples, proved. -/
namespace Go.SX.Pe
open Go Go.Proofs
theorem n60 : ((6 : Int) = 0) = False := by decide
theorem n06 : ((0 : Int) = 6) = False := by decide
theorem ft : (false = true) = False := by decide
theorem g12_ok (t : GT) (u : Value) (n : Nd) : g12 t u n := by
  refine (g12_eq ..).mpr ?_
  simp only [g12_q1, g12_q2, g12_q3, g12_q4, g12_q5, g12_q6, g12_q7, g12_q8, pp1, eq_self, and_true, true_and, and_self, Decidable.not_not, not_true_eq_false, not_false_eq_true, false_implies, true_implies, implies_true, n60, n06, ft, imp_false, and_false, false_and]
  obtain ⟨d, hd⟩ := n
  dsimp only
  refine ⟨(0, 0, 0), (0, 0, []), ?_⟩
  dsimp only
  have hc : Calm d := by rw [hd]; exact newD_calm
  have hn : NewP d.bl (0, 0, 0) (0, 0, []) := by rw [hd]; exact newP_new
  have ho : d.opened = 0 := by rw [hd]; rfl
  have ht : d.turn = 0 := by rw [hd]; rfl
  have e0 : syncF (upD d) = (0, clearD (upD d)) := syncF_calm hc.up hc.left
  have eO : openD d = clearD (upD d) := by unfold openD; rw [e0]
  have hO : Calm (openD d) := by rw [eO]; exact ⟨clearD_ok (upD_ok hc.ok), hc.up, hc.left⟩
  have hOb : (openD d).bl = d.bl := by rw [eO]; rfl
  have hOt : (openD d).turn = 0 := by rw [eO]; exact ht
  have hOo : (openD d).opened = 1 := by rw [eO]; show d.opened + 1 = 1; omega
  have hAB : addC (addC [] ⟨#[97]⟩) ⟨#[98]⟩ = [⟨#[97]⟩, ⟨#[98]⟩] := rfl
  have hl1 : (addC [] ⟨#[97]⟩).length < 40 := by decide
  rw [hAB]
  generalize hOd : openD d = O at hO hOb hOt hOo ⊢
  have hcn : CnOK ((0 + 1 + 1, 1, [⟨#[97]⟩, ⟨#[98]⟩]) : Cn) := by
    refine ⟨⟨by decide, by decide⟩, ⟨by decide, by decide⟩, by decide, fun s hs => ?_⟩
    have : s = ⟨#[97]⟩ ∨ s = ⟨#[98]⟩ := by simpa using hs
    rcases this with rfl | rfl <;> decide
  obtain ⟨W, hW, w1, w2, w3, w4, w5⟩ := writeL_calm (l := ⟨false, O.turn, O.opened, (0, 0, 0), true, (0 + 1 + 1, 1, [⟨#[97]⟩, ⟨#[98]⟩])⟩) hO
  have hnew : NewP W.bl (nextR ⟨false, O.turn, O.opened, (0, 0, 0), true, (0 + 1 + 1, 1, [⟨#[97]⟩, ⟨#[98]⟩])⟩) (0 + 1 + 1, 1, [⟨#[97]⟩, ⟨#[98]⟩]) := by
    rw [w5]
    exact wrote_new (l := ⟨false, O.turn, O.opened, (0, 0, 0), true, (0 + 1 + 1, 1, [⟨#[97]⟩, ⟨#[98]⟩])⟩) hO.ok hcn (by show (0 : Int) ≤ 1000000; decide) (by rw [hOb]; exact hn) (by show (0 : Int) ≤ 0; decide)
  have htn : tearN 0 W.sy (keysF W.sy) W.bl (keysF W.sy).length = W.bl := by rw [w4, show keysF [] = [] by simp [keysF]]; rfl
  simp only [hW, htn]
  have hR : DkOK ⟨false, 0, W.turn + 1, W.opened, W.bl, []⟩ := ⟨by show (0 : Int) ≤ 0; decide, by show (0 : Int) ≤ 9223372036854775807; decide, w1.ok.bl, w1.ok.each, by simp, by simp⟩
  have hR2 : DkOK ⟨false, 0, W.turn + 1, W.opened + 1, W.bl, []⟩ := ⟨by show (0 : Int) ≤ 0; decide, by show (0 : Int) ≤ 9223372036854775807; decide, w1.ok.bl, w1.ok.each, by simp, by simp⟩
  have hne : ¬ (O.turn = W.turn + 1 ∧ O.opened = W.opened + 1) := fun h => by rw [w2] at h; omega
  have w2 : W.turn = O.turn := w2
  have w3 : W.opened = O.opened := w3
  obtain ⟨c1, c2, c3, c4⟩ := hcn
  refine ⟨⟨hc.ok, hn, hc.up, by rw [e0], by omega, by omega⟩, by decide, ⟨by decide, hl1, by decide, by decide⟩, by decide, fun _ => ⟨by decide, fun _ => ⟨by decide, by decide, ⟨⟨hO.ok, ⟨c1, c2, c3, c4⟩, by decide, by decide⟩, trivial⟩, ⟨w1.ok, by omega, by omega⟩, nextR ⟨false, O.turn, O.opened, (0, 0, 0), true, (0 + 1 + 1, 1, [⟨#[97]⟩, ⟨#[98]⟩])⟩, (0 + 1 + 1, 1, [⟨#[97]⟩, ⟨#[98]⟩]), ⟨hR, hnew, ?_, by omega, by omega⟩, hne, fun _ => ⟨⟨⟨hR2, ⟨c1, c2, c3, c4⟩, ?_, ?_⟩, hne⟩, ⟨by decide, by decide, by decide⟩, ?_, ?_⟩⟩⟩⟩
  · rw [syncF_calm rfl rfl]
  · show (0 : Int) ≤ 0 + 1; decide
  · show (0 : Int) + 1 ≤ 1000000; decide
  · intro _
    simp [entsN]
  · simp [entsN]
theorem H12_ok : HeapOK Tryd.prog H12 :=
  heap_flat (c := H12) (fn := Tryd.f12) (by kernel_rfl) (by kernel_rfl) (by kernel_rfl) (fun _ => ⟨trivial, trivial⟩) C12
    (fun x => cx_ok (cs := [H19v.ci (pick19v x.n), H18.ci pick52, H14a.ci pickLs, orCI oneArg (H48k.ci pickLi) (H48a.ci pickLi), caseCI pickL (fun y => Works y.1 y.2) (H26w.ci pickL) (H26c.ci pickL), H27.ci pickD, H15.ci pickL, i16, i17])
      ⟨(H19_ok.sub (c' := H19v) rfl (fun _ => ()) fun x _ => ⟨trivial, rfl, rfl, rfl, by show [dE x.d 1, mE x.d] = [dE newD 1, mE newD]; rw [x.new]⟩).ci (fun _ => trivial) fun _ _ _ h => ⟨_, _, h⟩,
       H18_ok.ci (fun _ => ⟨trivial, trivial, trivial, trivial⟩) pick52_ok, H14a_ok.ci (fun _ => ⟨trivial, trivial, trivial, trivial, trivial⟩) pickLs_ok,
       orCI_ok (H48k_ok.ci (fun _ => ⟨trivial, trivial, trivial, trivial, trivial⟩) pickLi_ok) (H48a_ok.ci (fun _ => ⟨trivial, trivial, trivial, trivial, trivial⟩) pickLi_ok) rfl,
       caseCI_ok pickL_ok (H26w_ok.ci (fun _ => ⟨trivial, trivial, trivial, trivial, trivial⟩) pickL_ok) (H26c_ok.ci (fun _ => ⟨trivial, trivial, trivial, trivial, trivial⟩) pickL_ok) rfl,
       i27_ok, i15_ok, i16_ok, i17_ok, trivial⟩ _)
    (fun x _ => g12_ok x.t x.u x.n)
end Go.SX.Pe

/- Chapter 10: the rows' common ground: the arguments' types; laws that read the package's variable. -/
namespace Go.SX.Pe
open Go Go.Proofs Go.RowKit
theorem tyI : TyM Tryd.prog 3 (.int .i64) := .int Tryd.underlying3
theorem tyU : TyM Tryd.prog 5 (.int .u8) := .int Tryd.underlying5
set_option maxRecDepth 100000 in
theorem int_rep {W : World} {ok : Nat → Prop} {k k' : IntKind} {y : Int} {t : TypeId} {v : Value} {base : Nat} (ht : Tryd.prog.underlying t = some (.int k')) (hv : Value.okWide Tryd.prog W .any base t v)
    (h : (Ty.int k).Rep W ok y v.cells.toList) : (Ty.int k).Rep W ok y [v] := by
  obtain ⟨n, rfl⟩ := WideShapes.okWide_int ht hv
  exact h
theorem own : ownKnob Tryd.prog.godebug = none := by kernel_rfl
theorem laidOut : laidOutB Tryd.prog = true := by kernel_rfl
def GlOK (f : FuncId) (ats : List ATy) (Pre : ADen ats → Prop) : Prop :=
  ∀ (ok : Nat → Prop) (x : ADen ats) (vals : List Value) (w : World) (ty t : TypeId) (u : Value), Pre x → ArgsR w ok ats x vals → ok 0 → w.heap[0]? = some (.cells #[.iface t u] ty (0, 0)) →
    Calls Tryd.prog f vals.toArray w fun e w' => e = .returned (.bool true) ∧ Below w.heap.size w w'
theorem gl_law {c : HC} {ats : List ATy} (h : HeapOK Tryd.prog c) (mk : GT → Value → ADen ats → c.X) (hH : ∀ t u x, c.Hs (mk t u x) = [gE t u]) (ha : ∀ t u x, c.ags (mk t u x) = argSVs ats x) (hr : ∀ t u x, c.res (mk t u x) = .c (.kb true)) {Pre : ADen ats → Prop} (hp : ∀ t u x, Pre x → c.Pre (mk t u x)) : GlOK c.f ats Pre := by
  intro ok x vals w ty t u hx hargs h0 hg
  have hno : ∀ (g : Gh) (b : Nat), ¬ Owned [gE (ty, t) u] g b := by
    rintro g b ⟨i, e, h1, h2⟩
    cases i with
    | zero => simp at h1; subst h1; exact h2
    | succ i => simp at h1
  let g : Gh := ⟨fun _ => 0, fun _ => undef, fun b => ok b ∨ w.heap.size ≤ b⟩
  have hs : Sat w.heap.size (fun _ => False) w [gE (ty, t) u] g w := by
    refine ⟨rfl, rfl, rfl, Nat.le_refl _, Nat.le_refl _, fun b hb => .inr (hb.elim id False.elim), fun _ _ _ => rfl, fun i e h => ?_, fun i j e f b h _ hb _ => ?_⟩
    · cases i with
      | zero => simp at h; subst h; exact ⟨hg, .inl h0, hno g 0⟩
      | succ i => simp at h
    · cases i with
      | zero => simp at h; subst h; exact hb.elim
      | succ i => simp at h
  have ha' : ArgsRep w (c.Hs (mk (ty, t) u x)) g (c.ags (mk (ty, t) u x)) vals := by
    rw [hH, ha]
    exact argSVs_rep ats (ArgsR.mono ⟨Nat.le_refl _, fun b _ h => ⟨⟨.inl h, hno g b⟩, rfl⟩⟩ ats hargs)
  refine (h.2 (mk (ty, t) u x) (hp _ _ _ hx) w.heap.size (fun _ => False) w g w vals (by rw [hH]; exact hs) ha').mono ?_
  rintro e w' ⟨v, g', rfl, hs', _, hv⟩
  rw [hr] at hv
  have hv : v = .bool true := hv
  subst hv
  exact ⟨rfl, hs'.os, hs'.tape, hs'.output, hs'.size0, fun b hb => hs'.old b hb id⟩
theorem gl_of_laid {nm : String} {d : DataW Unit} {W : World} {ms : Array (String × TypeId)} {ti : TypeId} (h : laidMet Tryd.prog [("bellpull/peal.errImage", .iface nm d)] W) (hg : Tryd.prog.globalNamed "bellpull/peal.errImage" = some 0) (ht : (Tryd.prog.globals[0]?).map (·.type) = some ti) (hi : Tryd.prog.underlying ti = some (.interface ms)) :
    ∃ ty t u, W.heap[0]? = some (.cells #[.iface t u] ty (0, 0)) := by
  obtain ⟨ps, ⟨g0, t0, cs0, f0, p0, q0, hg0, ht0, hv0, hd0, _, e0⟩, _, hrows⟩ := h
  obtain rfl := Option.some.inj (hg.symm.trans hg0)
  obtain rfl := Option.some.inj (ht.symm.trans ht0)
  subst e0
  obtain ⟨l0⟩ := cs0
  obtain ⟨f1, u, v, e, hn, h1⟩ := iface_of_trod hi hd0
  have e : l0 = [.iface u v] := e
  subst e
  obtain ⟨⟨c, t, hc⟩, _⟩ := hrows 0 0 (by simp [MemPlace.row])
  unfold World.var? at hv0
  rw [hg] at hv0
  simp only [Option.bind_some, hc, Option.some.injEq] at hv0
  subst hv0
  exact ⟨t, u, v, hc⟩
end Go.SX.Pe

/- Chapter 10: nil and zero disks and lists, what is asked. -/
namespace Go.SX.Pe
open Go Go.Proofs
noncomputable section
@[reducible] def pick12 (n : Nd) : Pick Xg := fun _ H K => match glIx H 0 with
  | some i => (match H[i]? with
    | some (.gl 0 q (.iface t u)) => K ⟨(q, t), u, n⟩ [i]
    | _ => False)
  | none => False
@[reducible] def i12 (n : Nd) : CI := H12.ci (pick12 n)
@[reducible] def n34 : CI := inz 34 Tryd.f34 (cx [i51, i56] [])
@[reducible] def n29 : CI := inz 29 Tryd.f29 (cx [i51, i56] [])
@[reducible] def n37 : CI := inz 37 Tryd.f37 (cx [i51, i59] [])
@[reducible] def n33 : CI := inz 33 Tryd.f33 (cx [i51] [])
@[reducible] def n20 : CI := inz 20 Tryd.f20 (cx [i51] [])
@[reducible] def n21 : CI := inz 21 Tryd.f21 (cx [i51] [])
@[reducible] def n27 : CI := inz 27 Tryd.f27 (cx [i51] [])
@[reducible] def n14 : CI := inz 14 Tryd.f14 (cx [i49] [])
@[reducible] def n15 : CI := inz 15 Tryd.f15 (cx [] [])
@[reducible] def n48 : CI := inz 48 Tryd.f48 (cx [i49] [])
@[reducible] def n26 : CI := inz 26 Tryd.f26 (cx [i49] [])
@[reducible] def n46 : CI := inz 46 Tryd.f46 (cx [] [])
structure Xn where
  g : Xg
  k : Int
  s : ByteArray
@[reducible] def H10 : HC where
  f := 10
  X := Xn
  Hs x := [gE x.g.t x.g.u]
  ags x := [.c (.int .i64 x.k), .c (.str x.s)]
  Pre _ := True
  res _ := .c (.kb true)
  out x := [gE x.g.t x.g.u]
  fr _ := false
@[reducible] def C10 (x : Xn) : Ctx := cu [i12 x.g.n, n34, n29, n37, n33, n20, n21, n27, n14, n15, n48, n26, i16, i17, i24, i25, n46]
def g10 (t : GT) (u : Value) (n : Nd) (k : Int) (s : ByteArray) : Prop := HVC (C10 ⟨⟨t, u, n⟩, k, s⟩) Tryd.f10 H10 ⟨⟨t, u, n⟩, k, s⟩
end
end Go.SX.Pe

/- Printed by VC.lean: what the executor asks. -/
namespace Go.SX.Pe
open Go Go.Proofs
end Go.SX.Pe

/- Chapter 10: nil and zero disks and lists, proved. -/
namespace Go.SX.Pe
open Go Go.Proofs
theorem inz0 {f : FuncId} {fn : Func} {cs : List CI} (hC : CsOK Tryd.prog cs) (hf : Tryd.prog.funcs[f]? = some fn) (hn : (fn.name == "runtime.NumGoroutine") = false) (hb : fn.body.isNone = false) : (inz f fn (cx cs [])).OK Tryd.prog := inz_ok (cx_ok hC []) hf hn hb
theorem pick12_ok (n : Nd) : ∀ args H K, pick12 n args H K → ∃ x js, K x js := by
  intro args H K h
  unfold pick12 at h
  split at h
  · split at h
    · exact ⟨_, _, h⟩
    · exact h.elim
  · exact h.elim
theorem i12_ok (n : Nd) : (i12 n).OK Tryd.prog := H12_ok.ci (fun _ => ⟨trivial, trivial⟩) (pick12_ok n)
end Go.SX.Pe
