/- Parts of the proof, one after the other: Pe4 Pe4E PeW Pe4Q Pe5 Pe5E Pe5Q PeD. -/
import Derived.Test.YtijabifakficeaaDoorM5
/- Chapter 10: reading an image, what is asked. -/
namespace Go.SX.Pe
open Go Go.Proofs
noncomputable section
abbrev GT : Type := TypeId × TypeId
@[reducible] def gE (t : GT) (u : Value) : Ent := .gl 0 t.1 (.iface t.2 u)
structure X69 where
  t : GT
  u : Value
  c : Cn
@[reducible] def sRow (v : Nat) (l : List ByteArray) : Ent := .row 9 .str v l
@[reducible] def df84 : FuncId → Option DSpec := fun f => bif Nat.beq f 84 then some d84 else none
@[reducible] def H69 : HC where
  f := 69
  X := X69
  Hs x := [gE x.t x.u]
  ags x := [.c (.ro (.int .u8) (writtenF x.c))]
  Pre x := CnOK x.c
  res x := .tup [(true, [.int .i64 x.c.1, .int .i64 x.c.2.1, .own 1 1]), (false, [.kb true])]
  out x := [gE x.t x.u, sRow 1 x.c.2.2]
  fr _ := false
  cn := [.cmp 0 0 2]
  df := df84
  dfr := true
@[reducible] def A69 (x : X69) : Ann where
  τ := Nat
  pre := []
  preC := [(1, 2, 9, .str)]
  keep := [2, 3, 4, 16]
  slots k := [(17, .c (.int .i64 k))]
  ents k := [(1, .blk 91 [.int .i64 x.c.1, .int .i64 x.c.2.1, .own 4 1]), (3, rE (textsW (x.c.2.2.drop k))), (4, sRow 0 (x.c.2.2.take k))]
  ok k := k ≤ x.c.2.2.length
  m k := x.c.2.2.length - k
@[reducible] def C69 (x : X69) : Ctx := cx [H80.ci pickR, H85.ci pickR] [(0, fun _ => A69 x)]
def g69 (t : GT) (u : Value) (last mark : Int) (l : List ByteArray) : Prop := HVC (C69 ⟨t, u, (last, mark, l)⟩) Tryd.f69 H69 ⟨t, u, (last, mark, l)⟩
def rootR (b : List Int) : Rt := (numR (b.drop 4) 6, numR (b.drop 10) 6, numR (b.drop 16) 6)
def rootOk (b : List Int) : Bool := decide (0 < (rootR b).1) && decide ((rootR b).2.1 ≤ 1920) && decide (rootW (rootR b) = b.take 28)
@[reducible] def pickD : Pick (Dk × Int) := fun args H K => match args with
  | [.c (.ptr i 0), .c (.int .i64 a)] => (match H[i]? with
    | some (.obj _ [_, dn, .int .i64 l, .int .i64 t, .int .i64 o] (.arr 31 (.arr 127 (.int .u8))) bl [.tab m]) => (match dn.asB, H[m]? with
      | some b, some (.tab true (.arr 127 (.int .u8)) sy) => K (⟨b, l, t, o, bl, sy⟩, a) [i, m]
      | _, _ => False)
    | _ => False)
  | _ => False
@[reducible] def H64 : HC where
  f := 64
  X := Dk × Int
  Hs x := [dE x.1 1, mE x.1]
  ags x := [.c (.ptr 0 0), .c (.int .i64 x.2)]
  Pre x := DkOK x.1 ∧ 0 ≤ x.2 ∧ x.2 < 32 ∧ Byts (x.1.bl.getD x.2.toNat [])
  res x := .tup [(true, [.int .i64 (rootR (x.1.bl.getD x.2.toNat [])).1, .int .i64 (rootR (x.1.bl.getD x.2.toNat [])).2.1, .int .i64 (rootR (x.1.bl.getD x.2.toNat [])).2.2]), (false, [.bool 0 (rootOk (x.1.bl.getD x.2.toNat []))])]
  out x := [dE x.1 1, mE x.1]
  fr _ := false
@[reducible] def C64 : Ctx := cx [H37i.ci pickD, H80.ci pickR, p73.ci, p81.ci] []
def g64 (down : Bool) (left turn opened : Int) (bl : List (List Int)) (sy : List (Int × List Int)) (a : Int) : Prop := HVC C64 Tryd.f64 H64 (⟨down, left, turn, opened, bl, sy⟩, a)
def maxR : List Rt → Rt
  | [] => (0, 0, 0)
  | r :: l => l.foldl (fun m x => bif decide (0 < x.1 - m.1) then x else m) r
@[reducible] def rRow (l : List Rt) : Ent := .row 89 tRt 0 l
@[reducible] def i67 : CI := inl 67 Tryd.f67 (cx [] [])
@[reducible] def H66 : HC where
  f := 66
  X := List Rt
  Hs x := [rRow x]
  ags _ := [.c (.own 0 0), .c (.fn 67 [])]
  Pre x := 1 ≤ x.length ∧ x.length ≤ 2 ∧ ∀ r ∈ x, 0 ≤ r.1 ∧ r.1 < 281474976710656
  res x := .agg [.int .i64 (maxR x).1, .int .i64 (maxR x).2.1, .int .i64 (maxR x).2.2]
  out x := [rRow x]
  fr _ := false
@[reducible] def A66 (l : List Rt) : Ann where
  τ := Nat
  pre := []
  preC := []
  keep := [0, 1, 4, 5]
  slots k := [(6, .c (.int .i64 ((k + 1 : Nat) : Int)))]
  ents k := [(2, .blk 89 [.int .i64 (maxR (l.take (k + 1))).1, .int .i64 (maxR (l.take (k + 1))).2.1, .int .i64 (maxR (l.take (k + 1))).2.2])]
  ok k := k + 1 ≤ l.length
  m k := l.length - k
@[reducible] def C66 (l : List Rt) : Ctx := cx [i67] [(0, fun _ => A66 l)]
def g66 (l : List Rt) : Prop := HVC (C66 l) Tryd.f66 H66 l
@[reducible] def pick66 : Pick H66.X := fun args H K => match args with
  | [.c (.own i _), _] => (match H[i]? with
    | some (.row 89 (.pair (.int .i64) (.pair (.int .i64) (.int .i64))) _ l) => K l [i]
    | _ => False)
  | _ => False
end
end Go.SX.Pe

/- Printed by VC.lean: what the executor asks. -/
namespace Go.SX.Pe
open Go Go.Proofs
def g69_q1 (_t : GT) (_u : Value) (last : Int) (mark : Int) (l : List ByteArray) : Prop :=
 numR (List.drop (6 : Nat) (List.drop (6 : Nat) (writtenF (last, mark, l)))) (6 : Nat) = numR (List.drop (6 : Nat) (List.drop (6 : Nat) (writtenF (last, mark, l)))) (6 : Nat) ∧
 True ∧ True ∧ True ∧ True
theorem g69_eq (t : GT) (u : Value) (last : Int) (mark : Int) (l : List ByteArray) : g69 t u last mark l = (
 True ∧
 ((writtenF (last, mark, l) = writtenF (last, mark, l) ∧ True) ∧ True) ∧
 (True ∧ True) ∧
 ((6 : Nat) ≤ (writtenF (last, mark, l)).length ∧ ∀ (x : Int), x ∈ writtenF (last, mark, l) → (0 : Int) ≤ x ∧ x ≤ (255 : Int)) ∧
 True ∧
 True ∧
 ((List.drop (6 : Nat) (writtenF (last, mark, l)) = List.drop (6 : Nat) (writtenF (last, mark, l)) ∧ True) ∧ True) ∧
 (True ∧ True) ∧
 ((6 : Nat) ≤ (List.drop (6 : Nat) (writtenF (last, mark, l))).length ∧
 ∀ (x : Int), x ∈ List.drop (6 : Nat) (writtenF (last, mark, l)) → (0 : Int) ≤ x ∧ x ≤ (255 : Int)) ∧
 True ∧
 True ∧
 ((List.drop (6 : Nat) (List.drop (6 : Nat) (writtenF (last, mark, l))) = List.drop (6 : Nat) (List.drop (6 : Nat) (writtenF (last, mark, l))) ∧ True) ∧
 True) ∧
 (True ∧ True) ∧
 ((6 : Nat) ≤ (List.drop (6 : Nat) (List.drop (6 : Nat) (writtenF (last, mark, l)))).length ∧
 ∀ (x : Int), x ∈ List.drop (6 : Nat) (List.drop (6 : Nat) (writtenF (last, mark, l))) → (0 : Int) ≤ x ∧ x ≤ (255 : Int)) ∧
 True ∧
 (∃ (x0 : Nat),
 x0 ≤ l.length ∧
 (Ent.gl (0 : Nat) t.fst (Value.iface t.snd u) = Ent.gl (0 : Nat) t.fst (Value.iface t.snd u) ∧
 (numR (writtenF (last, mark, l)) (6 : Nat) = last ∧ numR (List.drop (6 : Nat) (writtenF (last, mark, l))) (6 : Nat) = mark ∧ True ∧ True) ∧
 (True ∧ True) ∧
 (List.drop (6 : Nat) (List.drop (6 : Nat) (List.drop (6 : Nat) (writtenF (last, mark, l)))) = textsW (List.drop x0 l) ∧ True) ∧
 nilT ByteArray = List.take x0 l ∧ True) ∧
 (0 : Int) = (↑x0 : Int) ∧ g69_q1 t u last mark l) ∧
 ∀ (x : Nat),
 x ≤ l.length →
 ((↑x : Int) < numR (List.drop (6 : Nat) (List.drop (6 : Nat) (writtenF (last, mark, l)))) (6 : Nat) →
 (↑x : Int) < numR (List.drop (6 : Nat) (List.drop (6 : Nat) (writtenF (last, mark, l)))) (6 : Nat) ∧
 (True ∧
 ((textsW (List.drop x l) = textsW (List.drop x l) ∧ True) ∧ True) ∧
 (True ∧ True) ∧
 (textsW (List.drop x l) ≠ [] ∧
 (∀ (x_1 : Int), x_1 ∈ textsW (List.drop x l) → (0 : Int) ≤ x_1 ∧ x_1 ≤ (255 : Int)) ∧
 ((textsW (List.drop x l)).getD (0 : Nat) (0 : Int)).toNat + (1 : Nat) ≤ (textsW (List.drop x l)).length) ∧
 True ∧
 Small ((List.take x l).length + ((0 : Nat) + (1 : Nat))) ∧
 Fits IntKind.i64 ((↑x : Int) + (1 : Int)) ∧
 ∃ (x' : Nat),
 x' ≤ l.length ∧
 l.length - x' < l.length - x ∧
 (Ent.gl (0 : Nat) t.fst (Value.iface t.snd u) = Ent.gl (0 : Nat) t.fst (Value.iface t.snd u) ∧
 (last = last ∧ mark = mark ∧ True ∧ True) ∧
 (True ∧ True) ∧
 (List.drop (((textsW (List.drop x l)).getD (0 : Nat) (0 : Int)).toNat + (1 : Nat))
 (textsW (List.drop x l)) =
 textsW (List.drop x' l) ∧
 True) ∧
 List.take x l ++
 [strOf
 (List.take ((textsW (List.drop x l)).getD (0 : Nat) (0 : Int)).toNat
 (List.drop (1 : Nat) (textsW (List.drop x l))))] =
 List.take x' l ∧
 True) ∧
 (↑x : Int) + (1 : Int) = (↑x' : Int) ∧ g69_q1 t u last mark l) ∧
 True ∧
 ((textsW (List.drop x l) = textsW (List.drop x l) ∧ True) ∧ True) ∧
 (True ∧ True) ∧
 (textsW (List.drop x l) ≠ [] ∧
 (∀ (x_1 : Int), x_1 ∈ textsW (List.drop x l) → (0 : Int) ≤ x_1 ∧ x_1 ≤ (255 : Int)) ∧
 ((textsW (List.drop x l)).getD (0 : Nat) (0 : Int)).toNat + (1 : Nat) ≤ (textsW (List.drop x l)).length) ∧
 True ∧
 Small ((List.take x l).length + ((0 : Nat) + (1 : Nat))) ∧
 Fits IntKind.i64 ((↑x : Int) + (1 : Int)) ∧
 ∃ (x' : Nat),
 x' ≤ l.length ∧
 l.length - x' < l.length - x ∧
 (Ent.gl (0 : Nat) t.fst (Value.iface t.snd u) = Ent.gl (0 : Nat) t.fst (Value.iface t.snd u) ∧
 (last = last ∧ mark = mark ∧ True ∧ True) ∧
 (True ∧ True) ∧
 (List.drop (((textsW (List.drop x l)).getD (0 : Nat) (0 : Int)).toNat + (1 : Nat))
 (textsW (List.drop x l)) =
 textsW (List.drop x' l) ∧
 True) ∧
 List.take x l ++
 [strOf
 (List.take ((textsW (List.drop x l)).getD (0 : Nat) (0 : Int)).toNat
 (List.drop (1 : Nat) (textsW (List.drop x l))))] =
 List.take x' l ∧
 True) ∧
 (↑x : Int) + (1 : Int) = (↑x' : Int) ∧ g69_q1 t u last mark l) ∧
 (¬(↑x : Int) < numR (List.drop (6 : Nat) (List.drop (6 : Nat) (writtenF (last, mark, l)))) (6 : Nat) →
 ¬(↑x : Int) < numR (List.drop (6 : Nat) (List.drop (6 : Nat) (writtenF (last, mark, l)))) (6 : Nat) ∧
 ((last = last ∧ mark = mark ∧ True ∧ True) ∧ (True ∧ True) ∧ True) ∧
 Ent.gl (0 : Nat) t.fst (Value.iface t.snd u) = Ent.gl (0 : Nat) t.fst (Value.iface t.snd u) ∧ List.take x l = l ∧ True)) := by
 kernel_rfl
def g64_q1 (_down : Bool) (_left : Int) (_turn : Int) (_opened : Int) (bl : List (List Int)) (_sy : List (Int × List Int)) (a : Int) : Prop :=
 numR (List.drop (Int.toNat (4 : Int)) (List.take (↑(bl.getD a.toNat (nilT Int)).length : Int).toNat (bl.getD a.toNat (nilT Int)))) (6 : Nat) =
 (rootR (bl.getD a.toNat (nilT Int))).fst ∧
 numR (List.drop (6 : Nat) (List.drop (Int.toNat (4 : Int)) (List.take (↑(bl.getD a.toNat (nilT Int)).length : Int).toNat (bl.getD a.toNat (nilT Int))))) (6 : Nat) =
 (rootR (bl.getD a.toNat (nilT Int))).snd.fst ∧
 numR (List.drop (6 : Nat) (List.drop (6 : Nat) (List.drop (Int.toNat (4 : Int)) (List.take (↑(bl.getD a.toNat (nilT Int)).length : Int).toNat (bl.getD a.toNat (nilT Int))))))
 (6 : Nat) =
 (rootR (bl.getD a.toNat (nilT Int))).snd.snd ∧
 True
def g64_q2 (down : Bool) (left : Int) (turn : Int) (opened : Int) (bl : List (List Int)) (sy : List (Int × List Int)) (a : Int) : Prop :=
 (g64_q1 down left turn opened bl sy a ∧ (false = rootOk (bl.getD a.toNat (nilT Int)) ∧ True) ∧ True) ∧
 ((True ∧ down = down ∧ left = left ∧ turn = turn ∧ opened = opened ∧ True) ∧ (True ∧ True) ∧ bl = bl) ∧ sy = sy ∧ True
theorem g64_eq (down : Bool) (left : Int) (turn : Int) (opened : Int) (bl : List (List Int)) (sy : List (Int × List Int)) (a : Int) : g64 down left turn opened bl sy a = (
 True ∧
 (((True ∧ down = down ∧ left = left ∧ turn = turn ∧ opened = opened ∧ True) ∧ (True ∧ True) ∧ bl = bl) ∧ sy = sy ∧ True) ∧
 (True ∧ a = a ∧ True) ∧
 (DkOK (Dk.mk down left turn opened bl sy) ∧ (0 : Int) ≤ a ∧ a < (32 : Int)) ∧
 True ∧
 ((0 : Int) ≤ (4 : Int) ∧ (4 : Int) ≤ (↑(bl.getD a.toNat []).length : Int) ∧ (↑(bl.getD a.toNat []).length : Int) ≤ (↑(bl.getD a.toNat []).length : Int)) ∧
 True ∧
 ((List.drop (Int.toNat (4 : Int)) (List.take (↑(bl.getD a.toNat (nilT Int)).length : Int).toNat (bl.getD a.toNat (nilT Int))) =
 List.drop (Int.toNat (4 : Int)) (List.take (↑(bl.getD a.toNat (nilT Int)).length : Int).toNat (bl.getD a.toNat (nilT Int))) ∧
 True) ∧
 True) ∧
 (True ∧ True) ∧
 ((6 : Nat) ≤ (List.drop (Int.toNat (4 : Int)) (List.take (↑(bl.getD a.toNat []).length : Int).toNat (bl.getD a.toNat []))).length ∧
 ∀ (x : Int),
 x ∈ List.drop (Int.toNat (4 : Int)) (List.take (↑(bl.getD a.toNat []).length : Int).toNat (bl.getD a.toNat [])) → (0 : Int) ≤ x ∧ x ≤ (255 : Int)) ∧
 True ∧
 True ∧
 ((List.drop (6 : Nat) (List.drop (Int.toNat (4 : Int)) (List.take (↑(bl.getD a.toNat (nilT Int)).length : Int).toNat (bl.getD a.toNat (nilT Int)))) =
 List.drop (6 : Nat) (List.drop (Int.toNat (4 : Int)) (List.take (↑(bl.getD a.toNat (nilT Int)).length : Int).toNat (bl.getD a.toNat (nilT Int)))) ∧
 True) ∧
 True) ∧
 (True ∧ True) ∧
 ((6 : Nat) ≤
 (List.drop (6 : Nat) (List.drop (Int.toNat (4 : Int)) (List.take (↑(bl.getD a.toNat []).length : Int).toNat (bl.getD a.toNat [])))).length ∧
 ∀ (x : Int),
 x ∈ List.drop (6 : Nat) (List.drop (Int.toNat (4 : Int)) (List.take (↑(bl.getD a.toNat []).length : Int).toNat (bl.getD a.toNat []))) →
 (0 : Int) ≤ x ∧ x ≤ (255 : Int)) ∧
 True ∧
 True ∧
 ((List.drop (6 : Nat)
 (List.drop (6 : Nat)
 (List.drop (Int.toNat (4 : Int)) (List.take (↑(bl.getD a.toNat (nilT Int)).length : Int).toNat (bl.getD a.toNat (nilT Int))))) =
 List.drop (6 : Nat)
 (List.drop (6 : Nat)
 (List.drop (Int.toNat (4 : Int)) (List.take (↑(bl.getD a.toNat (nilT Int)).length : Int).toNat (bl.getD a.toNat (nilT Int))))) ∧
 True) ∧
 True) ∧
 (True ∧ True) ∧
 ((6 : Nat) ≤
 (List.drop (6 : Nat)
 (List.drop (6 : Nat)
 (List.drop (Int.toNat (4 : Int)) (List.take (↑(bl.getD a.toNat []).length : Int).toNat (bl.getD a.toNat []))))).length ∧
 ∀ (x : Int),
 x ∈
 List.drop (6 : Nat)
 (List.drop (6 : Nat)
 (List.drop (Int.toNat (4 : Int)) (List.take (↑(bl.getD a.toNat []).length : Int).toNat (bl.getD a.toNat [])))) →
 (0 : Int) ≤ x ∧ x ≤ (255 : Int)) ∧
 True ∧
 True ∧
 ((0 : Int) <
 numR (List.drop (Int.toNat (4 : Int)) (List.take (↑(bl.getD a.toNat []).length : Int).toNat (bl.getD a.toNat []))) (6 : Nat) →
 (0 : Int) <
 numR (List.drop (Int.toNat (4 : Int)) (List.take (↑(bl.getD a.toNat []).length : Int).toNat (bl.getD a.toNat []))) (6 : Nat) ∧
 (0 : Int) <
 numR (List.drop (Int.toNat (4 : Int)) (List.take (↑(bl.getD a.toNat []).length : Int).toNat (bl.getD a.toNat []))) (6 : Nat) ∧
 (numR
 (List.drop (6 : Nat)
 (List.drop (Int.toNat (4 : Int)) (List.take (↑(bl.getD a.toNat []).length : Int).toNat (bl.getD a.toNat []))))
 (6 : Nat) ≤
 (1920 : Int) →
 numR
 (List.drop (6 : Nat)
 (List.drop (Int.toNat (4 : Int)) (List.take (↑(bl.getD a.toNat []).length : Int).toNat (bl.getD a.toNat []))))
 (6 : Nat) ≤
 (1920 : Int) ∧
 numR
 (List.drop (6 : Nat)
 (List.drop (Int.toNat (4 : Int)) (List.take (↑(bl.getD a.toNat []).length : Int).toNat (bl.getD a.toNat []))))
 (6 : Nat) ≤
 (1920 : Int) ∧
 numR
 (List.drop (6 : Nat)
 (List.drop (Int.toNat (4 : Int)) (List.take (↑(bl.getD a.toNat []).length : Int).toNat (bl.getD a.toNat []))))
 (6 : Nat) ≤
 (1920 : Int) ∧
 ((0 : Int) ≤ (0 : Int) ∧
 (↑(0 : Nat) : Int) ≤
 (↑(rootW
 (numR
 (List.drop (Int.toNat (4 : Int))
 (List.take (↑(bl.getD a.toNat []).length : Int).toNat (bl.getD a.toNat [])))
 (6 : Nat),
 numR
 (List.drop (6 : Nat)
 (List.drop (Int.toNat (4 : Int))
 (List.take (↑(bl.getD a.toNat []).length : Int).toNat (bl.getD a.toNat []))))
 (6 : Nat),
 numR
 (List.drop (6 : Nat)
 (List.drop (6 : Nat)
 (List.drop (Int.toNat (4 : Int))
 (List.take (↑(bl.getD a.toNat []).length : Int).toNat (bl.getD a.toNat [])))))
 (6 : Nat))).length :
 Int) ∧
 (↑(rootW
 (numR
 (List.drop (Int.toNat (4 : Int))
 (List.take (↑(bl.getD a.toNat []).length : Int).toNat (bl.getD a.toNat [])))
 (6 : Nat),
 numR
 (List.drop (6 : Nat)
 (List.drop (Int.toNat (4 : Int))
 (List.take (↑(bl.getD a.toNat []).length : Int).toNat (bl.getD a.toNat []))))
 (6 : Nat),
 numR
 (List.drop (6 : Nat)
 (List.drop (6 : Nat)
 (List.drop (Int.toNat (4 : Int))
 (List.take (↑(bl.getD a.toNat []).length : Int).toNat (bl.getD a.toNat [])))))
 (6 : Nat))).length :
 Int) ≤
 (↑(bl.getD a.toNat []).length : Int)) ∧
 (rootW
 (numR
 (List.drop (Int.toNat (4 : Int))
 (List.take (↑(bl.getD a.toNat []).length : Int).toNat (bl.getD a.toNat [])))
 (6 : Nat),
 numR
 (List.drop (6 : Nat)
 (List.drop (Int.toNat (4 : Int))
 (List.take (↑(bl.getD a.toNat []).length : Int).toNat (bl.getD a.toNat []))))
 (6 : Nat),
 numR
 (List.drop (6 : Nat)
 (List.drop (6 : Nat)
 (List.drop (Int.toNat (4 : Int))
 (List.take (↑(bl.getD a.toNat []).length : Int).toNat (bl.getD a.toNat [])))))
 (6 : Nat))).length ≤
 (100000 : Nat) ∧
 (g64_q1 down left turn opened bl sy a ∧
 (decide
 (rootW
 (numR
 (List.drop (Int.toNat (4 : Int))
 (List.take (↑(bl.getD a.toNat (nilT Int)).length : Int).toNat (bl.getD a.toNat (nilT Int))))
 (6 : Nat),
 numR
 (List.drop (6 : Nat)
 (List.drop (Int.toNat (4 : Int))
 (List.take (↑(bl.getD a.toNat (nilT Int)).length : Int).toNat
 (bl.getD a.toNat (nilT Int)))))
 (6 : Nat),
 numR
 (List.drop (6 : Nat)
 (List.drop (6 : Nat)
 (List.drop (Int.toNat (4 : Int))
 (List.take (↑(bl.getD a.toNat (nilT Int)).length : Int).toNat
 (bl.getD a.toNat (nilT Int))))))
 (6 : Nat)) =
 List.drop (↑(0 : Nat) : Int).toNat
 (List.take
 (↑(rootW
 (numR
 (List.drop (Int.toNat (4 : Int))
 (List.take (↑(bl.getD a.toNat (nilT Int)).length : Int).toNat
 (bl.getD a.toNat (nilT Int))))
 (6 : Nat),
 numR
 (List.drop (6 : Nat)
 (List.drop (Int.toNat (4 : Int))
 (List.take (↑(bl.getD a.toNat (nilT Int)).length : Int).toNat
 (bl.getD a.toNat (nilT Int)))))
 (6 : Nat),
 numR
 (List.drop (6 : Nat)
 (List.drop (6 : Nat)
 (List.drop (Int.toNat (4 : Int))
 (List.take (↑(bl.getD a.toNat (nilT Int)).length : Int).toNat
 (bl.getD a.toNat (nilT Int))))))
 (6 : Nat))).length :
 Int).toNat
 (bl.getD a.toNat (nilT Int)))) =
 rootOk (bl.getD a.toNat (nilT Int)) ∧
 True) ∧
 True) ∧
 ((True ∧ down = down ∧ left = left ∧ turn = turn ∧ opened = opened ∧ True) ∧ (True ∧ True) ∧ bl = bl) ∧
 sy = sy ∧ True) ∧
 (¬numR
 (List.drop (6 : Nat)
 (List.drop (Int.toNat (4 : Int)) (List.take (↑(bl.getD a.toNat []).length : Int).toNat (bl.getD a.toNat []))))
 (6 : Nat) ≤
 (1920 : Int) →
 ¬numR
 (List.drop (6 : Nat)
 (List.drop (Int.toNat (4 : Int)) (List.take (↑(bl.getD a.toNat []).length : Int).toNat (bl.getD a.toNat []))))
 (6 : Nat) ≤
 (1920 : Int) ∧
 ¬numR
 (List.drop (6 : Nat)
 (List.drop (Int.toNat (4 : Int)) (List.take (↑(bl.getD a.toNat []).length : Int).toNat (bl.getD a.toNat []))))
 (6 : Nat) ≤
 (1920 : Int) ∧
 ¬numR
 (List.drop (6 : Nat)
 (List.drop (Int.toNat (4 : Int)) (List.take (↑(bl.getD a.toNat []).length : Int).toNat (bl.getD a.toNat []))))
 (6 : Nat) ≤
 (1920 : Int) ∧
 g64_q2 down left turn opened bl sy a)) ∧
 (¬(0 : Int) <
 numR (List.drop (Int.toNat (4 : Int)) (List.take (↑(bl.getD a.toNat []).length : Int).toNat (bl.getD a.toNat []))) (6 : Nat) →
 ¬(0 : Int) <
 numR (List.drop (Int.toNat (4 : Int)) (List.take (↑(bl.getD a.toNat []).length : Int).toNat (bl.getD a.toNat []))) (6 : Nat) ∧
 ¬(0 : Int) <
 numR (List.drop (Int.toNat (4 : Int)) (List.take (↑(bl.getD a.toNat []).length : Int).toNat (bl.getD a.toNat [])))
 (6 : Nat) ∧
 g64_q2 down left turn opened bl sy a)) := by
 kernel_rfl
theorem g66_eq (l : List Rt) : g66 l = (
 ((↑l.length : Int) < (1 : Int) → (↑l.length : Int) < (1 : Int) ∧ False) ∧
 (¬(↑l.length : Int) < (1 : Int) →
 ¬(↑l.length : Int) < (1 : Int) ∧
 ((0 : Int) ≤ (0 : Int) ∧ (0 : Int) < (↑l.length : Int)) ∧
 (∃ (x0 : Nat),
 x0 + (1 : Nat) ≤ l.length ∧
 (l = l ∧
 ((0 : Int) = (0 : Int) ∧ (0 : Int) = (0 : Int) ∧ (0 : Int) = (0 : Int) ∧ True) ∧
 ((l.getD (Int.toNat (0 : Int)) ((0 : Int), (0 : Int), (0 : Int))).fst = (maxR (List.take (x0 + (1 : Nat)) l)).fst ∧
 (l.getD (Int.toNat (0 : Int)) ((0 : Int), (0 : Int), (0 : Int))).snd.fst = (maxR (List.take (x0 + (1 : Nat)) l)).snd.fst ∧
 (l.getD (Int.toNat (0 : Int)) ((0 : Int), (0 : Int), (0 : Int))).snd.snd = (maxR (List.take (x0 + (1 : Nat)) l)).snd.snd ∧ True) ∧
 True) ∧
 (1 : Int) = (↑(x0 + (1 : Nat)) : Int) ∧ True ∧ True ∧ True ∧ True ∧ True) ∧
 ∀ (x : Nat),
 x + (1 : Nat) ≤ l.length →
 ((↑(x + (1 : Nat)) : Int) < (↑l.length : Int) →
 (↑(x + (1 : Nat)) : Int) < (↑l.length : Int) ∧
 ((0 : Int) ≤ (↑(x + (1 : Nat)) : Int) ∧ (↑(x + (1 : Nat)) : Int) < (↑l.length : Int)) ∧
 Fits IntKind.i64 ((l.getD (↑(x + (1 : Nat)) : Int).toNat ((0 : Int), (0 : Int), (0 : Int))).fst - (maxR (List.take (x + (1 : Nat)) l)).fst) ∧
 ((0 : Int) < (l.getD (↑(x + (1 : Nat)) : Int).toNat ((0 : Int), (0 : Int), (0 : Int))).fst - (maxR (List.take (x + (1 : Nat)) l)).fst →
 (0 : Int) < (l.getD (↑(x + (1 : Nat)) : Int).toNat ((0 : Int), (0 : Int), (0 : Int))).fst - (maxR (List.take (x + (1 : Nat)) l)).fst ∧
 ((0 : Int) ≤ (↑(x + (1 : Nat)) : Int) ∧ (↑(x + (1 : Nat)) : Int) < (↑l.length : Int)) ∧
 Fits IntKind.i64 ((↑(x + (1 : Nat)) : Int) + (1 : Int)) ∧
 ∃ (x' : Nat),
 x' + (1 : Nat) ≤ l.length ∧
 l.length - x' < l.length - x ∧
 (l = l ∧
 ((0 : Int) = (0 : Int) ∧ (0 : Int) = (0 : Int) ∧ (0 : Int) = (0 : Int) ∧ True) ∧
 ((l.getD (↑(x + (1 : Nat)) : Int).toNat ((0 : Int), (0 : Int), (0 : Int))).fst = (maxR (List.take (x' + (1 : Nat)) l)).fst ∧
 (l.getD (↑(x + (1 : Nat)) : Int).toNat ((0 : Int), (0 : Int), (0 : Int))).snd.fst =
 (maxR (List.take (x' + (1 : Nat)) l)).snd.fst ∧
 (l.getD (↑(x + (1 : Nat)) : Int).toNat ((0 : Int), (0 : Int), (0 : Int))).snd.snd =
 (maxR (List.take (x' + (1 : Nat)) l)).snd.snd ∧
 True) ∧
 True) ∧
 (↑(x + (1 : Nat)) : Int) + (1 : Int) = (↑(x' + (1 : Nat)) : Int) ∧ True ∧ True ∧ True ∧ True ∧ True) ∧
 (¬(0 : Int) < (l.getD (↑(x + (1 : Nat)) : Int).toNat ((0 : Int), (0 : Int), (0 : Int))).fst - (maxR (List.take (x + (1 : Nat)) l)).fst →
 ¬(0 : Int) < (l.getD (↑(x + (1 : Nat)) : Int).toNat ((0 : Int), (0 : Int), (0 : Int))).fst - (maxR (List.take (x + (1 : Nat)) l)).fst ∧
 Fits IntKind.i64 ((↑(x + (1 : Nat)) : Int) + (1 : Int)) ∧
 ∃ (x' : Nat),
 x' + (1 : Nat) ≤ l.length ∧
 l.length - x' < l.length - x ∧
 (l = l ∧
 ((0 : Int) = (0 : Int) ∧ (0 : Int) = (0 : Int) ∧ (0 : Int) = (0 : Int) ∧ True) ∧
 ((maxR (List.take (x + (1 : Nat)) l)).fst = (maxR (List.take (x' + (1 : Nat)) l)).fst ∧
 (maxR (List.take (x + (1 : Nat)) l)).snd.fst = (maxR (List.take (x' + (1 : Nat)) l)).snd.fst ∧
 (maxR (List.take (x + (1 : Nat)) l)).snd.snd = (maxR (List.take (x' + (1 : Nat)) l)).snd.snd ∧ True) ∧
 True) ∧
 (↑(x + (1 : Nat)) : Int) + (1 : Int) = (↑(x' + (1 : Nat)) : Int) ∧ True ∧ True ∧ True ∧ True ∧ True)) ∧
 (¬(↑(x + (1 : Nat)) : Int) < (↑l.length : Int) →
 ¬(↑(x + (1 : Nat)) : Int) < (↑l.length : Int) ∧
 ((maxR (List.take (x + (1 : Nat)) l)).fst = (maxR l).fst ∧
 (maxR (List.take (x + (1 : Nat)) l)).snd.fst = (maxR l).snd.fst ∧ (maxR (List.take (x + (1 : Nat)) l)).snd.snd = (maxR l).snd.snd ∧ True) ∧
 l = l ∧ True))) := by
 kernel_rfl
end Go.SX.Pe

/- Chapter 10, plain: what is written is read. -/
namespace Go.SX.Pe
open Go Go.Proofs
theorem w8 (n : Int) : IntKind.u8.wrap n = n % 256 := by simp [IntKind.wrap, IntKind.bits, IntKind.signed]
theorem nb_byts (n : Int) : (k : Nat) → Byts (nb n k)
  | 0 => fun x hx => by simp [nb] at hx
  | k + 1 => fun x hx => by
    rcases List.mem_cons.1 hx with h | h
    · subst h; rw [w8]; omega
    · exact nb_byts _ k x h
theorem Byts.append {a b : List Int} (ha : Byts a) (hb : Byts b) : Byts (a ++ b) := fun x hx => (List.mem_append.1 hx).elim (ha x) (hb x)
theorem Byts.drop {a : List Int} (h : Byts a) (n : Nat) : Byts (a.drop n) := fun x hx => h x (List.mem_of_mem_drop hx)
theorem strB_byts (s : ByteArray) : Byts (strB s) := fun x hx => by
  unfold strB at hx
  obtain ⟨b, _, rfl⟩ := List.mem_map.1 hx
  have := b.toNat_lt
  omega
theorem textW_byts (s : ByteArray) : Byts (textW s) := fun x hx => by
  rcases List.mem_cons.1 hx with h | h
  · subst h; rw [w8]; omega
  · exact strB_byts s x h
theorem textsW_byts : (l : List ByteArray) → Byts (textsW l)
  | [] => fun x hx => by simp [textsW] at hx
  | s :: r => (textW_byts s).append (textsW_byts r)
theorem writtenF_byts (c : Cn) : Byts (writtenF c) := (nb_byts _ _).append ((nb_byts _ _).append ((nb_byts _ _).append (textsW_byts _)))
theorem rootB_byts (r : Rt) : Byts (rootB r) := Byts.append (fun x hx => by simp at hx; omega) ((nb_byts _ _).append ((nb_byts _ _).append (nb_byts _ _)))
theorem rootW_byts (r : Rt) : Byts (rootW r) := (rootB_byts r).append (nb_byts _ _)
theorem rootW_len (r : Rt) : (rootW r).length = 28 := by simp [rootW, rootB, nb_length]
theorem i64_id {n : Int} (h0 : 0 ≤ n) (h1 : n < 9223372036854775808) : IntKind.i64.wrap n = n := by
  simp only [IntKind.wrap, IntKind.bits, IntKind.signed]
  simp
  omega
theorem or_add {a c : Nat} {k : Nat} (ha : a < 2 ^ k) : a ||| (c * 2 ^ k) = a + c * 2 ^ k := by
  rw [Nat.or_comm, ← Nat.shiftLeft_eq, ← Nat.shiftLeft_add_eq_or_of_lt ha]
  omega
theorem bor_add {a c : Int} {k : Nat} (ha0 : 0 ≤ a) (ha : a < 2 ^ k) (hc : 0 ≤ c) (h : a + c * 2 ^ k < 9223372036854775808) : bitsF .or .i64 a (c * 2 ^ k) = a + c * 2 ^ k := by
  obtain ⟨a, rfl⟩ := Int.eq_ofNat_of_zero_le ha0
  obtain ⟨c, rfl⟩ := Int.eq_ofNat_of_zero_le hc
  have e : ((c : Int) * 2 ^ k) = ((c * 2 ^ k : Nat) : Int) := by rw [Int.natCast_mul, Int.natCast_pow]; rfl
  have ha' : a < 2 ^ k := by
    have : ((2 ^ k : Nat) : Int) = (2 : Int) ^ k := by rw [Int.natCast_pow]; rfl
    rw [← this] at ha
    exact Int.ofNat_lt.1 ha
  rw [e] at h ⊢
  generalize hm : c * 2 ^ k = m at h ⊢
  have hor : a ||| m = a + m := by rw [← hm]; exact or_add ha'
  show IntKind.i64.wrap ((BitVec.ofInt 64 (a : Int) ||| BitVec.ofInt 64 (m : Int)).toNat : Int) = _
  rw [BitVec.ofInt_natCast, BitVec.ofInt_natCast, BitVec.toNat_or, BitVec.toNat_ofNat, BitVec.toNat_ofNat, Nat.mod_eq_of_lt (by omega), Nat.mod_eq_of_lt (by omega), hor]
  rw [i64_id (by omega) (by omega)]
  omega
theorem nb_get (n : Int) : (k i : Nat) → i < k → (nb n k).getD i 0 = n / 256 ^ i % 256
  | 0, i, h => absurd h (Nat.not_lt_zero _)
  | k + 1, 0, _ => by show IntKind.u8.wrap n = _; rw [w8]; simp
  | k + 1, i + 1, h => by
    show (nb (n / 256) k).getD i 0 = _
    rw [nb_get (n / 256) k i (by omega), Int.pow_succ, Int.mul_comm, Int.ediv_ediv_of_nonneg (by omega)]
theorem numR_step {b : List Int} {k : Nat} {a : Int} (hk : k ≤ 5) (h : numR b k = a) (h0 : 0 ≤ a) (h1 : a < 2 ^ (8 * k)) {c : Int} (hc : b.getD k 0 = c) (hc0 : 0 ≤ c) (hc1 : c ≤ 255) : numR b (k + 1) = a + c * 2 ^ (8 * k) := by
  show bitsF .or .i64 (numR b k) (b.getD k 0 * 2 ^ (8 * k)) = _
  rw [h, hc]
  refine bor_add h0 h1 hc0 ?_
  have : k = 0 ∨ k = 1 ∨ k = 2 ∨ k = 3 ∨ k = 4 ∨ k = 5 := by omega
  rcases this with rfl | rfl | rfl | rfl | rfl | rfl <;> simp at h1 ⊢ <;> omega
theorem getD_left {α : Type} {a b : List α} {i : Nat} (h : i < a.length) (d : α) : (a ++ b).getD i d = a.getD i d := by simp [List.getD, List.getElem?_append_left h]
theorem pow256 (k : Nat) : (2 : Int) ^ (8 * k) = ((256 ^ k : Nat) : Int) := by
  rw [Int.natCast_pow, Int.pow_mul]
  rfl
theorem numR_mod {b : List Int} {n : Nat} : (k : Nat) → k ≤ 6 → (∀ i, i < k → b.getD i 0 = ((n / 256 ^ i % 256 : Nat) : Int)) → numR b k = ((n % 256 ^ k : Nat) : Int)
  | 0, _, _ => by simp [numR, Nat.mod_one]
  | k + 1, hk, h => by
    have ih := numR_mod k (by omega) fun i hi => h i (by omega)
    have hp : 0 < 256 ^ k := Nat.pow_pos (by omega)
    have := numR_step (b := b) (k := k) (by omega) ih (by omega) (by rw [pow256]; exact Int.ofNat_lt.2 (Nat.mod_lt _ hp)) (h k (by omega)) (by omega) (by omega)
    rw [this, pow256, Nat.pow_succ, Nat.mod_mul, ← Int.natCast_mul, ← Int.natCast_add, Nat.mul_comm (256 ^ k)]
theorem numR_nb {n : Int} (h0 : 0 ≤ n) (h1 : n < 281474976710656) (r : List Int) : numR (nb n 6 ++ r) 6 = n := by
  obtain ⟨m, rfl⟩ := Int.eq_ofNat_of_zero_le h0
  rw [numR_mod (n := m) 6 (by omega) fun i hi => by
    rw [getD_left (by rw [nb_length]; exact hi), nb_get _ 6 i hi, Int.natCast_emod, Int.natCast_ediv, Int.natCast_pow]
    rfl]
  rw [Nat.mod_eq_of_lt (by omega)]
theorem numR_zero {b : List Int} (h : ∀ c ∈ b, c = 0) : (k : Nat) → k ≤ 6 → numR b k = 0
  | 0, _ => rfl
  | k + 1, hk => by
    have := numR_step (b := b) (k := k) (a := 0) (by omega) (numR_zero h k (by omega)) (by omega) (by
      have : (0 : Int) < 2 ^ (8 * k) := Int.pow_pos (by omega)
      exact this) (zero_get h k) (by omega) (by omega)
    rw [this]; simp
theorem drop_nb (n : Int) (r : List Int) : (nb n 6 ++ r).drop 6 = r := by
  have := List.drop_left (l₁ := nb n 6) (l₂ := r)
  rwa [nb_length] at this
theorem strOf_strB (s : ByteArray) : strOf (strB s) = s := by
  unfold strOf strB
  rw [List.map_map]
  have : (fun b : Int => UInt8.ofNat b.toNat) ∘ (fun b : UInt8 => (b.toNat : Int)) = id := by
    funext b
    simp
  rw [this, List.map_id]
end Go.SX.Pe

/- Chapter 10: reading an image, proved. -/
namespace Go.SX.Pe
open Go Go.Proofs
theorem textsW_cons (s : ByteArray) (l : List ByteArray) : textsW (s :: l) = textW s ++ textsW l := rfl
theorem drop_getD {α : Type} {l : List α} {k : Nat} (h : k < l.length) (d : α) : l.drop k = l.getD k d :: l.drop (k + 1) := by
  rw [List.drop_eq_getElem_cons h]
  simp [List.getD, h]
theorem textW_len (s : ByteArray) : (textW s).length = s.size + 1 := by simp [textW, strB_length]
theorem textW_first {s : ByteArray} (h : s.size ≤ 24) (r : List Int) : (textW s ++ r).getD 0 0 = s.size := by
  show IntKind.u8.wrap (s.size : Int) = _
  rw [w8]; omega
theorem textW_read {s : ByteArray} (r : List Int) : strOf (((textW s ++ r).drop 1).take s.size) = s := by
  show strOf ((strB s ++ r).take s.size) = s
  rw [← strB_length, List.take_left, strOf_strB]
theorem textW_drop (s : ByteArray) (r : List Int) : (textW s ++ r).drop (s.size + 1) = r := by
  rw [← textW_len, List.drop_left]
theorem g69_ok {last mark : Int} {l : List ByteArray} (h : CnOK (last, mark, l)) (t : GT) (u : Value) : g69 t u last mark l := by
  obtain ⟨h1, h2, h3, h4⟩ := h
  have h1 : 0 ≤ last ∧ last < 281474976710656 := h1
  have h2 : 0 ≤ mark ∧ mark < 281474976710656 := h2
  have h3 : l.length ≤ 40 := h3
  have h4 : ∀ s ∈ l, s.size ≤ 24 := h4
  refine (g69_eq ..).mpr ?_
  have e0 : writtenF (last, mark, l) = nb last 6 ++ (nb mark 6 ++ (nb l.length 6 ++ textsW l)) := rfl
  have hb := writtenF_byts (last, mark, l)
  have hb1 := hb.drop 6
  have hb2 := hb1.drop 6
  have hn : numR (nb (l.length : Int) 6 ++ textsW l) 6 = l.length := numR_nb (by omega) (by omega) _
  simp only [g69_q1, pp1, eq_self, and_true, true_and, and_self, Int.toNat_natCast, List.drop_zero]
  rw [e0] at hb hb1 hb2 ⊢
  rw [drop_nb] at hb1 hb2
  rw [drop_nb] at hb2
  rw [drop_nb, drop_nb, drop_nb, hn, numR_nb h1.1 h1.2, numR_nb h2.1 h2.2]
  refine ⟨⟨by simp [nb_length], hb⟩, ⟨by simp [nb_length], hb1⟩, ⟨by simp [nb_length], hb2⟩, ⟨0, by omega, ⟨⟨rfl, rfl⟩, rfl, rfl⟩, rfl⟩, fun x hx => ⟨fun h5 => ?_, fun h5 => ?_⟩⟩
  · have hlt : x < l.length := by omega
    have hsz : (l.getD x ByteArray.empty).size ≤ 24 := by
      have : l.getD x ByteArray.empty ∈ l := by simp [List.getD, hlt]
      exact h4 _ this
    have e1 : textsW (l.drop x) = textW (l.getD x ByteArray.empty) ++ textsW (l.drop (x + 1)) := by rw [drop_getD hlt ByteArray.empty, textsW_cons]
    have e2 : (textsW (l.drop x)).getD 0 0 = ((l.getD x ByteArray.empty).size : Int) := by rw [e1]; exact textW_first hsz _
    rw [e2, Int.toNat_natCast]
    refine ⟨⟨?_, textsW_byts _, ?_⟩, sm (by rw [List.length_take]; omega), fi (by omega) (by omega), x + 1, by omega, by omega, ⟨?_, ?_⟩, by omega⟩
    · rw [e1]; simp [textW]
    · rw [e1, List.length_append, textW_len]; omega
    · rw [e1, textW_drop]
    · rw [e1, textW_read, take_snoc hlt ByteArray.empty]
  · have : x = l.length := by omega
    subst this
    exact List.take_length
theorem H69_ok : HeapOK Tryd.prog H69 :=
  heap_flat (c := H69) (fn := Tryd.f69) (by kernel_rfl) (by kernel_rfl) (by kernel_rfl) (fun _ => ⟨trivial, trivial⟩) C69 (fun x => cx_ok (cs := [H80.ci pickR, H85.ci pickR]) ⟨i80_ok, i85_ok, trivial⟩ _)
    (fun x hx => g69_ok (last := x.c.1) (mark := x.c.2.1) (l := x.c.2.2) hx x.t x.u) (fun _ f s hs => by
      have hs : (bif Nat.beq f 84 then some d84 else none) = some s := hs
      cases hb : Nat.beq f 84 with
      | false => rw [hb] at hs; cases hs
      | true =>
        rw [hb] at hs
        cases hs
        rw [Nat.eq_of_beq_eq_true hb]
        exact d84_ok)
theorem pickD_ok : ∀ args H K, pickD args H K → ∃ x js, K x js := by
  intro args H K h
  unfold pickD at h
  split at h
  · split at h
    · split at h
      · exact ⟨_, _, h⟩
      · exact h.elim
    · exact h.elim
  · exact h.elim
theorem g64_ok {d : Dk} (h : DkOK d) {a : Int} (h0 : 0 ≤ a) (h1 : a < 32) (hb : Byts (d.bl.getD a.toNat [])) : g64 d.down d.left d.turn d.opened d.bl d.sy a := by
  obtain ⟨down, left, turn, opened, bl, sy⟩ := d
  have hl := h.len (k := a.toNat) (by omega) []
  have hb : Byts (bl.getD a.toNat []) := hb
  have hl : (bl.getD a.toNat []).length = 128 := hl
  refine (g64_eq ..).mpr ?_
  simp only [g64_q1, g64_q2, pp1, eq_self, and_true, true_and, and_self, Int.toNat_natCast, List.drop_zero, List.take_length, show Int.toNat 4 = 4 from rfl]
  rw [show bl.getD a.toNat (nilT Int) = bl.getD a.toNat [] from rfl]
  generalize bl.getD a.toNat [] = b at hb hl
  simp only [List.drop_drop, rootW_len, show 4 + 6 = 10 from rfl, show 10 + 6 = 16 from rfl]
  have e1 : (numR (b.drop 4) 6, numR (b.drop 10) 6, numR (b.drop 16) 6) = rootR b := rfl
  rw [e1]
  have e2 : numR (b.drop 4) 6 = (rootR b).1 := rfl
  have e3 : numR (b.drop 10) 6 = (rootR b).2.1 := rfl
  have e4 : numR (b.drop 16) 6 = (rootR b).2.2 := rfl
  rw [e2, e3, e4]
  refine ⟨⟨h, h0, h1⟩, by omega, ⟨by rw [List.length_drop]; omega, hb.drop 4⟩, ⟨by rw [List.length_drop]; omega, hb.drop 10⟩, ⟨by rw [List.length_drop]; omega, hb.drop 16⟩, fun h2 => ⟨fun h3 => ⟨by omega, by omega, ⟨rfl, rfl, rfl⟩, ?_⟩, fun h3 => ⟨⟨rfl, rfl, rfl⟩, ?_⟩⟩, fun h2 => ⟨⟨rfl, rfl, rfl⟩, ?_⟩⟩
  · unfold rootOk
    rw [decide_eq_true h2, decide_eq_true h3]; rfl
  · unfold rootOk
    rw [decide_eq_false h3]; simp
  · unfold rootOk
    rw [decide_eq_false h2]; rfl
theorem C64_ok : CtxOK Tryd.prog C64 := cx_ok (cs := [H37i.ci pickD, H80.ci pickR, p73.ci, p81.ci]) ⟨H37i_ok.ci (fun _ => ⟨trivial, trivial, trivial⟩) pickD_ok, i80_ok, PC.OK.ci p73_ok, PC.OK.ci p81_ok, trivial⟩ []
theorem H64_ok : HeapOK Tryd.prog H64 :=
  heap_flat (c := H64) (fn := Tryd.f64) (by kernel_rfl) (by kernel_rfl) (by kernel_rfl) (fun _ => ⟨trivial, trivial, trivial⟩) (fun _ => C64) (fun _ => C64_ok) (fun x hx => g64_ok hx.1 hx.2.1 hx.2.2.1 hx.2.2.2)
theorem maxR_snoc {l : List Rt} (h : l ≠ []) (r : Rt) : maxR (l ++ [r]) = bif decide (0 < r.1 - (maxR l).1) then r else maxR l := by
  cases l with
  | nil => exact absurd rfl h
  | cons a l => simp [maxR, List.foldl_append]
theorem maxR_mem : (l : List Rt) → l ≠ [] → maxR l ∈ l := by
  intro l h
  rcases List.eq_nil_or_concat l with h1 | ⟨m, c, h1⟩
  · exact absurd h1 h
  · rw [h1, List.concat_eq_append]
    by_cases hm : m = []
    · subst hm; simp [maxR]
    · rw [maxR_snoc hm]
      cases decide (0 < c.1 - (maxR m).1) with
      | true => simp
      | false => exact List.mem_append_left _ (maxR_mem m hm)
termination_by l => l.length
decreasing_by
  rw [h1, List.concat_eq_append, List.length_append]
  simp
theorem g66_ok {l : List Rt} (h1 : 1 ≤ l.length) (h2 : l.length ≤ 2) (h : ∀ r ∈ l, 0 ≤ r.1 ∧ r.1 < 281474976710656) : g66 l := by
  refine (g66_eq ..).mpr ?_
  simp only [pp1, eq_self, and_true, true_and, and_self, Int.toNat_natCast, List.drop_zero, show Int.toNat 0 = 0 from rfl]
  have hg : ∀ k, k < l.length → l.getD k (0, 0, 0) ∈ l := fun k hk => by simp [List.getD, hk]
  have hsn : ∀ k, k < l.length → l.take (k + 1) = l.take k ++ [l.getD k (0, 0, 0)] := fun k hk => take_snoc hk _
  have hne : ∀ k, k < l.length → l.take (k + 1) ≠ [] := fun k hk e => by
    have := congrArg List.length e
    rw [List.length_take, List.length_nil] at this
    omega
  refine ⟨fun h3 => by omega, fun _ => ⟨⟨by omega, by omega⟩, ⟨0, by omega, ?_, rfl⟩, fun x hx => ⟨fun h3 => ?_, fun h3 => ?_⟩⟩⟩
  · rw [hsn 0 (by omega)]
    exact ⟨rfl, rfl, rfl⟩
  · have hlt : x + 1 < l.length := by omega
    have r1 := h _ (hg (x + 1) hlt)
    have r2 := h _ (List.mem_of_mem_take (maxR_mem _ (hne x (by omega))))
    refine ⟨⟨by omega, h3⟩, fi (by omega) (by omega), fun h4 => ⟨⟨by omega, h3⟩, fi (by omega) (by omega), x + 1, by omega, by omega, ?_, by omega⟩, fun h4 => ⟨fi (by omega) (by omega), x + 1, by omega, by omega, ?_, by omega⟩⟩
    · rw [hsn (x + 1) hlt, maxR_snoc (hne x (by omega)), decide_eq_true h4]
      exact ⟨rfl, rfl, rfl⟩
    · rw [hsn (x + 1) hlt, maxR_snoc (hne x (by omega)), decide_eq_false h4]
      exact ⟨rfl, rfl, rfl⟩
  · have : x + 1 = l.length := by omega
    rw [this, List.take_length]
    exact ⟨rfl, rfl, rfl⟩
theorem i67_ok : i67.OK Tryd.prog := inl_ok cx0 (by kernel_rfl) (by kernel_rfl) (by kernel_rfl)
theorem H66_ok : HeapOK Tryd.prog H66 :=
  heap_flat (c := H66) (fn := Tryd.f66) (by kernel_rfl) (by kernel_rfl) (by kernel_rfl) (fun _ => ⟨trivial, trivial⟩) C66 (fun _ => cx_ok (cs := [i67]) ⟨i67_ok, trivial⟩ _) (fun x hx => g66_ok hx.1 hx.2.1 hx.2.2)
theorem pick66_ok : ∀ args H K, pick66 args H K → ∃ x js, K x js := by
  intro args H K h
  unfold pick66 at h
  split at h
  · split at h
    · exact ⟨_, _, h⟩
    · exact h.elim
  · exact h.elim
end Go.SX.Pe

/- Chapter 10: the newest image, Open, what is asked. -/
namespace Go.SX.Pe
open Go Go.Proofs
noncomputable section
def blF (bl : List (List Int)) (i : Nat) : List Int := bl.getD i []
def rootsN (bl : List (List Int)) : Nat → List Rt
  | 0 => []
  | k + 1 => rootsN bl k ++ (bif rootOk (blF bl k) then [rootR (blF bl k)] else [])
def areaN (bl : List (List Int)) (im : Int) : Nat → List Int
  | 0 => []
  | k + 1 => areaN bl im k ++ blF bl (2 + im * 15 + k).toNat
structure NewP (bl : List (List Int)) (r : Rt) (c : Cn) : Prop where
  byts : ∀ i, i < 2 → Byts (blF bl i)
  zero : ∀ i, i < 2 → rootOk (blF bl i) = true ∨ ∀ x ∈ blF bl i, x = 0
  none : rootsN bl 2 = [] → r = (0, 0, 0) ∧ c = (0, 0, [])
  some : rootsN bl 2 ≠ [] → r = maxR (rootsN bl 2) ∧ CnOK c ∧ (areaN bl (r.1 % 2) 15).take r.2.1.toNat = writtenF c ∧ r.2.2 = sumF (writtenF c)
structure X52 where
  t : GT
  u : Value
  d : Dk
  r : Rt
  c : Cn
@[reducible] def H52 : HC where
  f := 52
  X := X52
  Hs x := [dE x.d 1, mE x.d, gE x.t x.u]
  ags x := [.c (.ptr 0 0)]
  Pre x := DkOK x.d ∧ NewP x.d.bl x.r x.c
  res x := .tup [(true, [.int .i64 x.r.1, .int .i64 x.r.2.1, .int .i64 x.r.2.2]), (true, [.int .i64 x.c.1, .int .i64 x.c.2.1, .own 3 0]), (false, [.kb true])]
  out x := [dE x.d 1, mE x.d, gE x.t x.u, sRow 0 x.c.2.2]
  fr k := Nat.beq k 3
  cn := [.cmp 0 1 2]
  mt := [(4, 2, 9, .str)]
@[reducible] def A52 (bl : List (List Int)) (R : Nat) : Ann where
  τ := Nat
  pre := [(5, 89, tRt)]
  preC := []
  keep := [0, 2, 3, 4]
  slots k := [(14, .c (.int .i64 k)), (5, .c (.own R 1))]
  ents k := [(R, rRow (rootsN bl k))]
  ok k := k ≤ 2
  m k := 2 - k
@[reducible] def A52b (bl : List (List Int)) (im : Int) (R : Nat) : Ann where
  τ := Nat
  pre := [(10, 5, .int .u8)]
  preC := []
  keep := [0, 2, 3, 4, 9]
  slots k := [(43, .c (.int .i64 k)), (10, .c (.own R 1))]
  ents k := [(R, .row 5 (.int .u8) 0 (areaN bl im k))]
  ok k := k ≤ 15
  m k := 15 - k
def glIx : List Ent → Nat → Option Nat
  | [], _ => none
  | .gl .. :: _, i => some i
  | _ :: r, i => glIx r (i + 1)
@[reducible] def pick69 (c : Cn) : Pick X69 := fun _ H K => match glIx H 0 with
  | some i => (match H[i]? with
    | some (.gl 0 q (.iface t u)) => K ⟨(q, t), u, c⟩ [i]
    | _ => False)
  | none => False
@[reducible] def i69 (c : Cn) : CI := ⟨69, heapSpec H69 (pick69 c), false, true⟩
@[reducible] def C52 (x : X52) : Ctx := cx [H64.ci pickD, H37i.ci pickD, p65.ci, H66.ci pick66, i68, i69 x.c, p70.ci] [(0, fun st => A52 x.d.bl st.h.length), (1, fun st => A52b x.d.bl (x.r.1 % 2) st.h.length)]
def g52 (t : GT) (u : Value) (down : Bool) (left turn opened : Int) (bl : List (List Int)) (sy : List (Int × List Int)) (no size sum last mark : Int) (l : List ByteArray) : Prop :=
  HVC (C52 ⟨t, u, ⟨down, left, turn, opened, bl, sy⟩, (no, size, sum), (last, mark, l)⟩) Tryd.f52 H52 ⟨t, u, ⟨down, left, turn, opened, bl, sy⟩, (no, size, sum), (last, mark, l)⟩
end
end Go.SX.Pe

/- Printed by VC.lean: what the executor asks. -/
namespace Go.SX.Pe
open Go Go.Proofs
def g52_q1 (t : GT) (u : Value) (down : Bool) (left : Int) (turn : Int) (opened : Int) (bl : List (List Int)) (sy : List (Int × List Int)) (_no : Int) (_size : Int) (_sum : Int) (_last : Int) (_mark : Int) (l : List ByteArray) : Prop :=
 ((True ∧ down = down ∧ left = left ∧ turn = turn ∧ opened = opened ∧ True) ∧ (True ∧ True) ∧ bl = bl) ∧
 sy = sy ∧ Ent.gl (0 : Nat) t.fst (Value.iface t.snd u) = Ent.gl (0 : Nat) t.fst (Value.iface t.snd u) ∧ nilT ByteArray = l ∧ True
def g52_q2 (t : GT) (u : Value) (down : Bool) (left : Int) (turn : Int) (opened : Int) (bl : List (List Int)) (sy : List (Int × List Int)) (_no : Int) (_size : Int) (_sum : Int) (_last : Int) (_mark : Int) (l : List ByteArray) : Prop :=
 ((True ∧ down = down ∧ left = left ∧ turn = turn ∧ opened = opened ∧ True) ∧ (True ∧ True) ∧ bl = bl) ∧
 sy = sy ∧ Ent.gl (0 : Nat) t.fst (Value.iface t.snd u) = Ent.gl (0 : Nat) t.fst (Value.iface t.snd u) ∧ l = l ∧ True
theorem g52_eq (t : GT) (u : Value) (down : Bool) (left : Int) (turn : Int) (opened : Int) (bl : List (List Int)) (sy : List (Int × List Int)) (no : Int) (size : Int) (sum : Int) (last : Int) (mark : Int) (l : List ByteArray) : g52 t u down left turn opened bl sy no size sum last mark l = (
 (∃ (x0 : Nat),
 x0 ≤ (2 : Nat) ∧
 (((True ∧ down = down ∧ left = left ∧ turn = turn ∧ opened = opened ∧ True) ∧ (True ∧ True) ∧ bl = bl) ∧
 sy = sy ∧
 Ent.gl (0 : Nat) t.fst (Value.iface t.snd u) = Ent.gl (0 : Nat) t.fst (Value.iface t.snd u) ∧
 ((0 : Int) = (0 : Int) ∧ (0 : Int) = (0 : Int) ∧ (0 : Int) = (0 : Int) ∧ True) ∧
 ((0 : Int) = (0 : Int) ∧ (0 : Int) = (0 : Int) ∧ Value.slice none (0 : Nat) (0 : Nat) = Value.slice none (0 : Nat) (0 : Nat) ∧ True) ∧
 nilT (Int × Int × Int) = rootsN bl x0 ∧ True) ∧
 (0 : Int) = (↑x0 : Int) ∧ True ∧ True ∧ True ∧ True ∧ True ∧ True) ∧
 ∀ (x : Nat),
 x ≤ (2 : Nat) →
 ((↑x : Int) < (2 : Int) →
 (↑x : Int) < (2 : Int) ∧
 True ∧
 (((True ∧ down = down ∧ left = left ∧ turn = turn ∧ opened = opened ∧ True) ∧ (True ∧ True) ∧ bl = bl) ∧ sy = sy ∧ True) ∧
 (True ∧ (↑x : Int) = (↑x : Int) ∧ True) ∧
 (DkOK (Dk.mk down left turn opened bl sy) ∧
 (0 : Int) ≤ (↑x : Int) ∧ (↑x : Int) < (32 : Int) ∧ ∀ (x_1 : Int), x_1 ∈ bl.getD (↑x : Int).toNat [] → (0 : Int) ≤ x_1 ∧ x_1 ≤ (255 : Int)) ∧
 True ∧
 (rootOk (bl.getD (↑x : Int).toNat (nilT Int)) = true →
 rootOk (bl.getD (↑x : Int).toNat (nilT Int)) = true ∧
 rootOk (bl.getD (↑x : Int).toNat (nilT Int)) = true ∧
 rootOk (bl.getD (↑x : Int).toNat (nilT Int)) = true ∧
 Small ((rootsN bl x).length + ((0 : Nat) + (1 : Nat))) ∧
 Fits IntKind.i64 ((↑x : Int) + (1 : Int)) ∧
 ∃ (x' : Nat),
 x' ≤ (2 : Nat) ∧
 (2 : Nat) - x' < (2 : Nat) - x ∧
 (((True ∧ down = down ∧ left = left ∧ turn = turn ∧ opened = opened ∧ True) ∧ (True ∧ True) ∧ bl = bl) ∧
 sy = sy ∧
 Ent.gl (0 : Nat) t.fst (Value.iface t.snd u) = Ent.gl (0 : Nat) t.fst (Value.iface t.snd u) ∧
 ((0 : Int) = (0 : Int) ∧ (0 : Int) = (0 : Int) ∧ (0 : Int) = (0 : Int) ∧ True) ∧
 ((0 : Int) = (0 : Int) ∧
 (0 : Int) = (0 : Int) ∧ Value.slice none (0 : Nat) (0 : Nat) = Value.slice none (0 : Nat) (0 : Nat) ∧ True) ∧
 rootsN bl x ++ [rootR (bl.getD (↑x : Int).toNat (nilT Int))] = rootsN bl x' ∧ True) ∧
 (↑x : Int) + (1 : Int) = (↑x' : Int) ∧ True ∧ True ∧ True ∧ True ∧ True ∧ True) ∧
 (rootOk (bl.getD (↑x : Int).toNat (nilT Int)) = false →
 rootOk (bl.getD (↑x : Int).toNat (nilT Int)) = false ∧
 rootOk (bl.getD (↑x : Int).toNat (nilT Int)) = false ∧
 rootOk (bl.getD (↑x : Int).toNat (nilT Int)) = false ∧
 True ∧
 (((True ∧ down = down ∧ left = left ∧ turn = turn ∧ opened = opened ∧ True) ∧ (True ∧ True) ∧ bl = bl) ∧ sy = sy ∧ True) ∧
 (True ∧ (↑x : Int) = (↑x : Int) ∧ True) ∧
 (DkOK (Dk.mk down left turn opened bl sy) ∧ (0 : Int) ≤ (↑x : Int) ∧ (↑x : Int) < (32 : Int)) ∧
 True ∧
 ((bl.getD (↑x : Int).toNat (nilT Int)).length = (128 : Nat) ∧ ∀ (c : Int), c ∈ bl.getD (↑x : Int).toNat [] → c = (0 : Int)) ∧
 (false = true →
 false = true ∧
 (((0 : Int) = no ∧ (0 : Int) = size ∧ (0 : Int) = sum ∧ True) ∧
 ((0 : Int) = last ∧ (0 : Int) = mark ∧ True ∧ True) ∧ (False ∧ True) ∧ True) ∧
 g52_q1 t u down left turn opened bl sy no size sum last mark l) ∧
 (false = false →
 false = false ∧
 Fits IntKind.i64 ((↑x : Int) + (1 : Int)) ∧
 ∃ (x' : Nat),
 x' ≤ (2 : Nat) ∧
 (2 : Nat) - x' < (2 : Nat) - x ∧
 (((True ∧ down = down ∧ left = left ∧ turn = turn ∧ opened = opened ∧ True) ∧ (True ∧ True) ∧ bl = bl) ∧
 sy = sy ∧
 Ent.gl (0 : Nat) t.fst (Value.iface t.snd u) = Ent.gl (0 : Nat) t.fst (Value.iface t.snd u) ∧
 ((0 : Int) = (0 : Int) ∧ (0 : Int) = (0 : Int) ∧ (0 : Int) = (0 : Int) ∧ True) ∧
 ((0 : Int) = (0 : Int) ∧
 (0 : Int) = (0 : Int) ∧
 Value.slice none (0 : Nat) (0 : Nat) = Value.slice none (0 : Nat) (0 : Nat) ∧ True) ∧
 rootsN bl x = rootsN bl x' ∧ True) ∧
 (↑x : Int) + (1 : Int) = (↑x' : Int) ∧ True ∧ True ∧ True ∧ True ∧ True ∧ True))) ∧
 (¬(↑x : Int) < (2 : Int) →
 ¬(↑x : Int) < (2 : Int) ∧
 ((↑(rootsN bl x).length : Int) = (0 : Int) →
 (↑(rootsN bl x).length : Int) = (0 : Int) ∧
 (((0 : Int) = no ∧ (0 : Int) = size ∧ (0 : Int) = sum ∧ True) ∧ ((0 : Int) = last ∧ (0 : Int) = mark ∧ True ∧ True) ∧ (True ∧ True) ∧ True) ∧
 g52_q1 t u down left turn opened bl sy no size sum last mark l) ∧
 (¬(↑(rootsN bl x).length : Int) = (0 : Int) →
 ¬(↑(rootsN bl x).length : Int) = (0 : Int) ∧
 True ∧
 (rootsN bl x = rootsN bl x ∧ True) ∧
 (True ∧ True ∧ True) ∧
 ((1 : Nat) ≤ (rootsN bl x).length ∧ (rootsN bl x).length ≤ (2 : Nat) ∧ ∀ (r : Rt), r ∈ rootsN bl x → (0 : Int) ≤ r.fst ∧ r.fst < (281474976710656 : Int)) ∧
 True ∧
 (∃ (x0 : Nat),
 x0 ≤ (15 : Nat) ∧
 (((True ∧ down = down ∧ left = left ∧ turn = turn ∧ opened = opened ∧ True) ∧ (True ∧ True) ∧ bl = bl) ∧
 sy = sy ∧
 Ent.gl (0 : Nat) t.fst (Value.iface t.snd u) = Ent.gl (0 : Nat) t.fst (Value.iface t.snd u) ∧
 ((0 : Int) = (0 : Int) ∧ (0 : Int) = (0 : Int) ∧ (0 : Int) = (0 : Int) ∧ True) ∧
 ((0 : Int) = (0 : Int) ∧ (0 : Int) = (0 : Int) ∧ Value.slice none (0 : Nat) (0 : Nat) = Value.slice none (0 : Nat) (0 : Nat) ∧ True) ∧
 rootsN bl x = rootsN bl x ∧
 ((maxR (rootsN bl x)).fst = (maxR (rootsN bl x)).fst ∧
 (maxR (rootsN bl x)).snd.fst = (maxR (rootsN bl x)).snd.fst ∧
 (maxR (rootsN bl x)).snd.snd = (maxR (rootsN bl x)).snd.snd ∧ True) ∧
 nilT Int = areaN bl (no % (2 : Int)) x0 ∧ True) ∧
 (0 : Int) = (↑x0 : Int) ∧ True ∧ True ∧ True ∧ True ∧ True ∧ True ∧ True) ∧
 ∀ (x_1 : Nat),
 x_1 ≤ (15 : Nat) →
 ((↑x_1 : Int) < (15 : Int) →
 (↑x_1 : Int) < (15 : Int) ∧
 ((0 : Int) ≤ (maxR (rootsN bl x)).fst ∧ (0 : Int) < (2 : Int)) ∧
 Fits IntKind.i64 ((maxR (rootsN bl x)).fst % (2 : Int) * (15 : Int)) ∧
 Fits IntKind.i64 ((2 : Int) + (maxR (rootsN bl x)).fst % (2 : Int) * (15 : Int)) ∧
 Fits IntKind.i64 ((2 : Int) + (maxR (rootsN bl x)).fst % (2 : Int) * (15 : Int) + (↑x_1 : Int)) ∧
 True ∧
 (((True ∧ down = down ∧ left = left ∧ turn = turn ∧ opened = opened ∧ True) ∧ (True ∧ True) ∧ bl = bl) ∧ sy = sy ∧ True) ∧
 (True ∧
 (2 : Int) + (maxR (rootsN bl x)).fst % (2 : Int) * (15 : Int) + (↑x_1 : Int) =
 (2 : Int) + (maxR (rootsN bl x)).fst % (2 : Int) * (15 : Int) + (↑x_1 : Int) ∧
 True) ∧
 (DkOK (Dk.mk down left turn opened bl sy) ∧
 (0 : Int) ≤ (2 : Int) + (maxR (rootsN bl x)).fst % (2 : Int) * (15 : Int) + (↑x_1 : Int) ∧
 (2 : Int) + (maxR (rootsN bl x)).fst % (2 : Int) * (15 : Int) + (↑x_1 : Int) < (32 : Int)) ∧
 True ∧
 Small
 ((areaN bl (no % (2 : Int)) x_1).length +
 (bl.getD ((2 : Int) + (maxR (rootsN bl x)).fst % (2 : Int) * (15 : Int) + (↑x_1 : Int)).toNat []).length) ∧
 Fits IntKind.i64 ((↑x_1 : Int) + (1 : Int)) ∧
 ∃ (x' : Nat),
 x' ≤ (15 : Nat) ∧
 (15 : Nat) - x' < (15 : Nat) - x_1 ∧
 (((True ∧ down = down ∧ left = left ∧ turn = turn ∧ opened = opened ∧ True) ∧ (True ∧ True) ∧ bl = bl) ∧
 sy = sy ∧
 Ent.gl (0 : Nat) t.fst (Value.iface t.snd u) = Ent.gl (0 : Nat) t.fst (Value.iface t.snd u) ∧
 ((0 : Int) = (0 : Int) ∧ (0 : Int) = (0 : Int) ∧ (0 : Int) = (0 : Int) ∧ True) ∧
 ((0 : Int) = (0 : Int) ∧
 (0 : Int) = (0 : Int) ∧
 Value.slice none (0 : Nat) (0 : Nat) = Value.slice none (0 : Nat) (0 : Nat) ∧ True) ∧
 rootsN bl x = rootsN bl x ∧
 ((maxR (rootsN bl x)).fst = (maxR (rootsN bl x)).fst ∧
 (maxR (rootsN bl x)).snd.fst = (maxR (rootsN bl x)).snd.fst ∧
 (maxR (rootsN bl x)).snd.snd = (maxR (rootsN bl x)).snd.snd ∧ True) ∧
 areaN bl (no % (2 : Int)) x_1 ++
 bl.getD
 ((2 : Int) + (maxR (rootsN bl x)).fst % (2 : Int) * (15 : Int) + (↑x_1 : Int)).toNat
 (nilT Int) =
 areaN bl (no % (2 : Int)) x' ∧
 True) ∧
 (↑x_1 : Int) + (1 : Int) = (↑x' : Int) ∧ True ∧ True ∧ True ∧ True ∧ True ∧ True ∧ True) ∧
 (¬(↑x_1 : Int) < (15 : Int) →
 ¬(↑x_1 : Int) < (15 : Int) ∧
 ((0 : Int) ≤ (maxR (rootsN bl x)).snd.fst ∧ (maxR (rootsN bl x)).snd.fst ≤ (↑(areaN bl (no % (2 : Int)) x_1).length : Int)) ∧
 True ∧
 (Ent.gl (0 : Nat) t.fst (Value.iface t.snd u) = Ent.gl (0 : Nat) t.fst (Value.iface t.snd u) ∧ True) ∧
 (List.take (maxR (rootsN bl x)).snd.fst.toNat (areaN bl (no % (2 : Int)) x_1) = writtenF (last, mark, l) ∧ True) ∧
 (((0 : Int) ≤ last ∧ last < (281474976710656 : Int)) ∧
 ((0 : Int) ≤ mark ∧ mark < (281474976710656 : Int)) ∧ l.length ≤ (40 : Nat) ∧ ∀ (s : ByteArray), s ∈ l → s.size ≤ (24 : Nat)) ∧
 True ∧
 (((List.take (maxR (rootsN bl x)).snd.fst.toNat (areaN bl (no % (2 : Int)) x_1)).length ≤ (100000 : Nat) ∧
 ((((maxR (rootsN bl x)).fst = no ∧ (maxR (rootsN bl x)).snd.fst = size ∧ (maxR (rootsN bl x)).snd.snd = sum ∧ True) ∧
 (last = last ∧ mark = mark ∧ True ∧ True) ∧
 (sumF (List.take (maxR (rootsN bl x)).snd.fst.toNat (areaN bl (no % (2 : Int)) x_1)) =
 (maxR (rootsN bl x)).snd.snd ∧
 True) ∧
 True) ∧
 g52_q2 t u down left turn opened bl sy no size sum last mark l) ∧
 ((((maxR (rootsN bl x)).fst = no ∧ (maxR (rootsN bl x)).snd.fst = size ∧ (maxR (rootsN bl x)).snd.snd = sum ∧ True) ∧
 (last = last ∧ mark = mark ∧ True ∧ True) ∧
 (sumF (List.take (maxR (rootsN bl x)).snd.fst.toNat (areaN bl (no % (2 : Int)) x_1)) =
 (maxR (rootsN bl x)).snd.snd ∧
 True) ∧
 True) ∧
 g52_q2 t u down left turn opened bl sy no size sum last mark l) ∧
 (((maxR (rootsN bl x)).fst = no ∧ (maxR (rootsN bl x)).snd.fst = size ∧ (maxR (rootsN bl x)).snd.snd = sum ∧ True) ∧
 (last = last ∧ mark = mark ∧ True ∧ True) ∧
 (sumF (List.take (maxR (rootsN bl x)).snd.fst.toNat (areaN bl (no % (2 : Int)) x_1)) =
 (maxR (rootsN bl x)).snd.snd ∧
 True) ∧
 True) ∧
 g52_q2 t u down left turn opened bl sy no size sum last mark l) ∧
 (List.take (maxR (rootsN bl x)).snd.fst.toNat (areaN bl (no % (2 : Int)) x_1)).length ≤ (100000 : Nat) ∧
 (((maxR (rootsN bl x)).fst = no ∧ (maxR (rootsN bl x)).snd.fst = size ∧ (maxR (rootsN bl x)).snd.snd = sum ∧ True) ∧
 (last = last ∧ mark = mark ∧ True ∧ True) ∧
 (sumF (List.take (maxR (rootsN bl x)).snd.fst.toNat (areaN bl (no % (2 : Int)) x_1)) =
 (maxR (rootsN bl x)).snd.snd ∧
 True) ∧
 True) ∧
 g52_q2 t u down left turn opened bl sy no size sum last mark l) ∧
 ((List.take (maxR (rootsN bl x)).snd.fst.toNat (areaN bl (no % (2 : Int)) x_1)).length ≤ (100000 : Nat) ∧
 (((((maxR (rootsN bl x)).fst = no ∧ (maxR (rootsN bl x)).snd.fst = size ∧ (maxR (rootsN bl x)).snd.snd = sum ∧ True) ∧
 (last = last ∧ mark = mark ∧ True ∧ True) ∧
 (sumF (List.take (maxR (rootsN bl x)).snd.fst.toNat (areaN bl (no % (2 : Int)) x_1)) =
 (maxR (rootsN bl x)).snd.snd ∧
 True) ∧
 True) ∧
 g52_q2 t u down left turn opened bl sy no size sum last mark l) ∧
 ((((maxR (rootsN bl x)).fst = no ∧ (maxR (rootsN bl x)).snd.fst = size ∧ (maxR (rootsN bl x)).snd.snd = sum ∧ True) ∧
 (last = last ∧ mark = mark ∧ True ∧ True) ∧
 (sumF (List.take (maxR (rootsN bl x)).snd.fst.toNat (areaN bl (no % (2 : Int)) x_1)) =
 (maxR (rootsN bl x)).snd.snd ∧
 True) ∧
 True) ∧
 g52_q2 t u down left turn opened bl sy no size sum last mark l) ∧
 (((maxR (rootsN bl x)).fst = no ∧ (maxR (rootsN bl x)).snd.fst = size ∧ (maxR (rootsN bl x)).snd.snd = sum ∧ True) ∧
 (last = last ∧ mark = mark ∧ True ∧ True) ∧
 (sumF (List.take (maxR (rootsN bl x)).snd.fst.toNat (areaN bl (no % (2 : Int)) x_1)) =
 (maxR (rootsN bl x)).snd.snd ∧
 True) ∧
 True) ∧
 g52_q2 t u down left turn opened bl sy no size sum last mark l) ∧
 (((((maxR (rootsN bl x)).fst = no ∧ (maxR (rootsN bl x)).snd.fst = size ∧ (maxR (rootsN bl x)).snd.snd = sum ∧ True) ∧
 (last = last ∧ mark = mark ∧ True ∧ True) ∧
 (sumF (List.take (maxR (rootsN bl x)).snd.fst.toNat (areaN bl (no % (2 : Int)) x_1)) =
 (maxR (rootsN bl x)).snd.snd ∧
 True) ∧
 True) ∧
 g52_q2 t u down left turn opened bl sy no size sum last mark l) ∧
 (((maxR (rootsN bl x)).fst = no ∧ (maxR (rootsN bl x)).snd.fst = size ∧ (maxR (rootsN bl x)).snd.snd = sum ∧ True) ∧
 (last = last ∧ mark = mark ∧ True ∧ True) ∧
 (sumF (List.take (maxR (rootsN bl x)).snd.fst.toNat (areaN bl (no % (2 : Int)) x_1)) =
 (maxR (rootsN bl x)).snd.snd ∧
 True) ∧
 True) ∧
 g52_q2 t u down left turn opened bl sy no size sum last mark l) ∧
 ((((maxR (rootsN bl x)).fst = no ∧ (maxR (rootsN bl x)).snd.fst = size ∧ (maxR (rootsN bl x)).snd.snd = sum ∧ True) ∧
 (last = last ∧ mark = mark ∧ True ∧ True) ∧
 (sumF (List.take (maxR (rootsN bl x)).snd.fst.toNat (areaN bl (no % (2 : Int)) x_1)) =
 (maxR (rootsN bl x)).snd.snd ∧
 True) ∧
 True) ∧
 g52_q2 t u down left turn opened bl sy no size sum last mark l) ∧
 (((maxR (rootsN bl x)).fst = no ∧ (maxR (rootsN bl x)).snd.fst = size ∧ (maxR (rootsN bl x)).snd.snd = sum ∧ True) ∧
 (last = last ∧ mark = mark ∧ True ∧ True) ∧
 (sumF (List.take (maxR (rootsN bl x)).snd.fst.toNat (areaN bl (no % (2 : Int)) x_1)) =
 (maxR (rootsN bl x)).snd.snd ∧
 True) ∧
 True) ∧
 g52_q2 t u down left turn opened bl sy no size sum last mark l) ∧
 ((List.take (maxR (rootsN bl x)).snd.fst.toNat (areaN bl (no % (2 : Int)) x_1)).length ≤ (100000 : Nat) ∧
 (((maxR (rootsN bl x)).fst = no ∧ (maxR (rootsN bl x)).snd.fst = size ∧ (maxR (rootsN bl x)).snd.snd = sum ∧ True) ∧
 (last = last ∧ mark = mark ∧ True ∧ True) ∧
 (sumF (List.take (maxR (rootsN bl x)).snd.fst.toNat (areaN bl (no % (2 : Int)) x_1)) =
 (maxR (rootsN bl x)).snd.snd ∧
 True) ∧
 True) ∧
 g52_q2 t u down left turn opened bl sy no size sum last mark l) ∧
 (List.take (maxR (rootsN bl x)).snd.fst.toNat (areaN bl (no % (2 : Int)) x_1)).length ≤ (100000 : Nat) ∧
 ((((maxR (rootsN bl x)).fst = no ∧ (maxR (rootsN bl x)).snd.fst = size ∧ (maxR (rootsN bl x)).snd.snd = sum ∧ True) ∧
 (last = last ∧ mark = mark ∧ True ∧ True) ∧
 (sumF (List.take (maxR (rootsN bl x)).snd.fst.toNat (areaN bl (no % (2 : Int)) x_1)) =
 (maxR (rootsN bl x)).snd.snd ∧
 True) ∧
 True) ∧
 g52_q2 t u down left turn opened bl sy no size sum last mark l) ∧
 (((maxR (rootsN bl x)).fst = no ∧ (maxR (rootsN bl x)).snd.fst = size ∧ (maxR (rootsN bl x)).snd.snd = sum ∧ True) ∧
 (last = last ∧ mark = mark ∧ True ∧ True) ∧
 (sumF (List.take (maxR (rootsN bl x)).snd.fst.toNat (areaN bl (no % (2 : Int)) x_1)) =
 (maxR (rootsN bl x)).snd.snd ∧
 True) ∧
 True) ∧
 g52_q2 t u down left turn opened bl sy no size sum last mark l)))) := by
 kernel_rfl
end Go.SX.Pe

/- Chapter 10: the newest image, proved. -/
namespace Go.SX.Pe
open Go Go.Proofs
theorem numR_range {b : List Int} (h : Byts b) : (k : Nat) → k ≤ 6 → 0 ≤ numR b k ∧ numR b k < 2 ^ (8 * k)
  | 0, _ => ⟨by simp [numR], by simp [numR]⟩
  | k + 1, hk => by
    obtain ⟨h0, h1⟩ := numR_range h k (by omega)
    have hg := h.get k
    rw [numR_step (b := b) (k := k) (by omega) rfl h0 h1 rfl hg.1 hg.2]
    generalize b.getD k 0 = c at hg ⊢
    generalize numR b k = m at h0 h1 ⊢
    have : k = 0 ∨ k = 1 ∨ k = 2 ∨ k = 3 ∨ k = 4 ∨ k = 5 := by omega
    rcases this with rfl | rfl | rfl | rfl | rfl | rfl <;> simp at h1 ⊢ <;> omega
theorem numR6 {b : List Int} (h : Byts b) : 0 ≤ numR b 6 ∧ numR b 6 < 281474976710656 := numR_range h 6 (by omega)
theorem rootR_range {b : List Int} (h : Byts b) : (0 ≤ (rootR b).1 ∧ (rootR b).1 < 281474976710656) ∧ (0 ≤ (rootR b).2.1 ∧ (rootR b).2.1 < 281474976710656) ∧ (0 ≤ (rootR b).2.2 ∧ (rootR b).2.2 < 281474976710656) := ⟨numR6 (h.drop 4), numR6 (h.drop 10), numR6 (h.drop 16)⟩
theorem rootOk_size {b : List Int} (h : rootOk b = true) : 0 < (rootR b).1 ∧ (rootR b).2.1 ≤ 1920 := by
  unfold rootOk at h
  simp only [Bool.and_eq_true, decide_eq_true_eq] at h
  exact h.1
theorem rootsN_len (bl : List (List Int)) : (k : Nat) → (rootsN bl k).length ≤ k
  | 0 => by simp [rootsN]
  | k + 1 => by
    have := rootsN_len bl k
    unfold rootsN
    rw [List.length_append]
    cases rootOk (blF bl k) <;> simp <;> omega
theorem rootsN_mem {bl : List (List Int)} {r : Rt} : {k : Nat} → r ∈ rootsN bl k → ∃ i, i < k ∧ rootOk (blF bl i) = true ∧ r = rootR (blF bl i)
  | 0, h => by simp [rootsN] at h
  | k + 1, h => by
    unfold rootsN at h
    rcases List.mem_append.1 h with h | h
    · obtain ⟨i, h1, h2⟩ := rootsN_mem h
      exact ⟨i, by omega, h2⟩
    · cases hr : rootOk (blF bl k) with
      | false => rw [hr] at h; simp at h
      | true =>
        rw [hr] at h
        have : r = rootR (blF bl k) := by simpa using h
        exact ⟨k, by omega, hr, this⟩
theorem areaN_len {d : Dk} (h : DkOK d) {im : Int} (h0 : 0 ≤ im) (h1 : im < 2) : (k : Nat) → k ≤ 15 → (areaN d.bl im k).length = 128 * k
  | 0, _ => rfl
  | k + 1, hk => by
    unfold areaN
    rw [List.length_append, areaN_len h h0 h1 k (by omega)]
    have := h.len (k := (2 + im * 15 + k).toNat) (by omega) []
    have e : blF d.bl (2 + im * 15 + k).toNat = d.bl.getD (2 + im * 15 + k).toNat [] := rfl
    rw [e, this]
    omega
theorem g52_ok {x : X52} (hd : DkOK x.d) (hn : NewP x.d.bl x.r x.c) : g52 x.t x.u x.d.down x.d.left x.d.turn x.d.opened x.d.bl x.d.sy x.r.1 x.r.2.1 x.r.2.2 x.c.1 x.c.2.1 x.c.2.2 := by
  obtain ⟨t, u, ⟨down, left, turn, opened, bl, sy⟩, ⟨no, size, sum⟩, last, mark, l⟩ := x
  have hby : ∀ i, i < 2 → Byts (blF bl i) := hn.byts
  have hz : ∀ i, i < 2 → rootOk (blF bl i) = true ∨ ∀ x ∈ blF bl i, x = 0 := hn.zero
  have hno : rootsN bl 2 = [] → (no, size, sum) = ((0, 0, 0) : Rt) ∧ (last, mark, l) = ((0, 0, []) : Cn) := hn.none
  have hso : rootsN bl 2 ≠ [] → (no, size, sum) = maxR (rootsN bl 2) ∧ CnOK (last, mark, l) ∧ (areaN bl (no % 2) 15).take size.toNat = writtenF (last, mark, l) ∧ sum = sumF (writtenF (last, mark, l)) := hn.some
  refine (g52_eq ..).mpr ?_
  simp only [g52_q1, g52_q2, pp1, eq_self, and_true, true_and, and_self, Int.toNat_natCast, List.drop_zero]
  have hr2 := rootsN_len bl 2
  refine ⟨⟨0, by omega, rfl, rfl⟩, fun x hx => ⟨fun h1 => ?_, fun h1 => ?_⟩⟩
  · have hx' : x < 2 := by omega
    have hrl := rootsN_len bl x
    refine ⟨⟨hd, by omega, by omega, hby x hx'⟩, fun h2 => ⟨sm (by omega), fi (by omega) (by omega), x + 1, by omega, by omega, ?_, by omega⟩, fun h2 => ⟨⟨hd, by omega, by omega⟩, ⟨hd.len (k := x) (by omega) [], ?_⟩, fun h => (by cases h), fun _ => ⟨fi (by omega) (by omega), x + 1, by omega, by omega, ?_, by omega⟩⟩⟩
    · show _ = rootsN bl x ++ (bif rootOk (blF bl x) then [rootR (blF bl x)] else [])
      rw [show rootOk (blF bl x) = true from h2]
      rfl
    · rcases hz x hx' with h3 | h3
      · rw [show rootOk (bl.getD x (nilT Int)) = rootOk (blF bl x) from rfl, h3] at h2; cases h2
      · exact h3
    · show _ = rootsN bl x ++ (bif rootOk (blF bl x) then [rootR (blF bl x)] else [])
      rw [show rootOk (blF bl x) = false from h2]
      simp
  · have : x = 2 := by omega
    subst this
    refine ⟨fun h2 => ?_, fun h2 => ?_⟩
    · obtain ⟨e1, e2⟩ := hno (List.eq_nil_of_length_eq_zero (by omega))
      cases e1; cases e2
      exact ⟨⟨⟨rfl, rfl, rfl⟩, rfl, rfl⟩, rfl⟩
    · have hne : rootsN bl 2 ≠ [] := fun e => h2 (by rw [e]; rfl)
      obtain ⟨e1, hc, e3, e4⟩ := hso hne
      obtain ⟨i, hi, hro, hri⟩ := rootsN_mem (maxR_mem _ hne)
      have hrr := rootR_range (hby i hi)
      have hrs := rootOk_size hro
      rw [← hri, ← e1] at hrr hrs
      obtain ⟨⟨r1, r2⟩, ⟨r3, r4⟩, _⟩ := hrr
      have r1 : 0 ≤ no := r1
      have r2 : no < 281474976710656 := r2
      have r3 : 0 ≤ size := r3
      have r5 : size ≤ 1920 := hrs.2
      rw [← e1]
      dsimp only
      have hal : ∀ k, k ≤ 15 → (areaN bl (no % 2) k).length = 128 * k := fun k hk => areaN_len (d := ⟨down, left, turn, opened, bl, sy⟩) hd (by omega) (by omega) k hk
      refine ⟨⟨by omega, hr2, fun r hr => ?_⟩, ⟨0, by omega, rfl, rfl⟩, fun y hy => ⟨fun h3 => ?_, fun h3 => ?_⟩⟩
      · obtain ⟨j, hj, _, hrj⟩ := rootsN_mem hr
        rw [hrj]
        exact (rootR_range (hby j hj)).1
      · have hl1 := hal y (by omega)
        have hl2 := hd.len (k := (2 + no % 2 * 15 + (y : Int)).toNat) (by omega) []
        have hl2 : (bl.getD (2 + no % 2 * 15 + (y : Int)).toNat []).length = 128 := hl2
        exact ⟨⟨r1, by decide⟩, fi (by omega) (by omega), fi (by omega) (by omega), fi (by omega) (by omega), ⟨hd, by omega, by omega⟩, sm (by omega), fi (by omega) (by omega), y + 1, by omega, by omega, rfl, by omega⟩
      · have : y = 15 := by omega
        subst this
        have hl := hal 15 (by omega)
        have hwl : (writtenF (last, mark, l)).length ≤ 1920 := by rw [← e3, List.length_take]; omega
        rw [e3, e4]
        exact ⟨⟨r3, by omega⟩, rfl, hc, by omega, ⟨rfl, rfl, rfl⟩, rfl⟩
theorem pick69_ok (c : Cn) : ∀ args H K, pick69 c args H K → ∃ x js, K x js := by
  intro args H K h
  unfold pick69 at h
  split at h
  · split at h
    · exact ⟨_, _, h⟩
    · exact h.elim
  · exact h.elim
theorem i69_ok (c : Cn) : (i69 c).OK Tryd.prog := ⟨H69_ok.spec (fun _ => ⟨trivial, trivial⟩) (pick69_ok c), fun h => (by cases h)⟩
theorem i37i_ok : (H37i.ci pickD).OK Tryd.prog := H37i_ok.ci (fun _ => ⟨trivial, trivial, trivial⟩) pickD_ok
theorem i64_ok : (H64.ci pickD).OK Tryd.prog := H64_ok.ci (fun _ => ⟨trivial, trivial, trivial⟩) pickD_ok
theorem H52_ok : HeapOK Tryd.prog H52 :=
  heap_flat (c := H52) (fn := Tryd.f52) (by kernel_rfl) (by kernel_rfl) (by kernel_rfl) (fun _ => ⟨trivial, trivial, trivial, trivial⟩) C52
    (fun x => cx_ok (cs := [H64.ci pickD, H37i.ci pickD, p65.ci, H66.ci pick66, i68, i69 x.c, p70.ci]) ⟨i64_ok, i37i_ok, PC.OK.ci p65_ok, H66_ok.ci (fun _ => ⟨trivial, trivial⟩) pick66_ok, i68_ok, i69_ok x.c, PC.OK.ci p70_ok, trivial⟩ _)
    (fun x hx => g52_ok hx.1 hx.2)
end Go.SX.Pe

/- Chapter 10, plain: the disk stays whole. -/
namespace Go.SX.Pe
open Go Go.Proofs
theorem actF_parts (d : Dk) : (actF d).2.turn = d.turn ∧ (actF d).2.opened = d.opened ∧ (actF d).2.bl = d.bl ∧ (actF d).2.sy = d.sy ∧ (0 ≤ d.left → 0 ≤ (actF d).2.left ∧ (actF d).2.left ≤ d.left) ∧ ((actF d).1 = 0 ∨ (actF d).1 = 8) := by
  unfold actF
  by_cases h1 : 0 < d.left
  · by_cases h2 : d.left - 1 = 0
    · simp [h1, h2]
    · simp [h1, h2]; omega
  · simp [h1]
theorem actF_ok {d : Dk} (h : DkOK d) : DkOK (actF d).2 := by
  obtain ⟨_, _, h3, h4, h5, _⟩ := actF_parts d
  have h5 := h5 h.left0
  have := h.left1
  exact ⟨h5.1, by omega, by rw [h3]; exact h.bl, by rw [h3]; exact h.each, by rw [h4]; exact h.nd, by rw [h4]; exact h.sy⟩
theorem lookF_none {α : Type} : {l : List (Int × α)} → {k : Int} → lookF l k = none → k ∉ l.map Prod.fst
  | [], _, _ => by simp
  | (j, x) :: r, k, h => by
    unfold lookF at h
    by_cases hj : j = k
    · rw [if_pos hj] at h; cases h
    · rw [if_neg hj] at h
      have := lookF_none h
      rw [List.map_cons, List.mem_cons, not_or]
      exact ⟨fun e => hj e.symm, this⟩
theorem insF_new {α : Type} : {l : List (Int × α)} → {k : Int} → (x : α) → lookF l k = none → insF l k x = l ++ [(k, x)]
  | [], _, _, _ => rfl
  | (j, y) :: r, k, x, h => by
    unfold lookF at h
    by_cases hj : j = k
    · rw [if_pos hj] at h; cases h
    · rw [if_neg hj] at h
      unfold insF
      rw [if_neg hj, insF_new x h]
      rfl
theorem syF_ok {d : Dk} (h : DkOK d) {a : Int} (h0 : 0 ≤ a) (h1 : a < 32) : ((syF d a).map Prod.fst).Nodup ∧ ∀ p ∈ syF d a, (0 ≤ p.1 ∧ p.1 < 32) ∧ p.2.length = 128 := by
  unfold syF
  cases hl : lookF d.sy a with
  | some y => exact ⟨h.nd, h.sy⟩
  | none =>
    simp only [Option.isSome_none, cond_false]
    rw [insF_new _ hl]
    refine ⟨?_, fun p hp => ?_⟩
    · rw [List.map_append, List.nodup_append]
      refine ⟨h.nd, by simp, fun x hx y hy e => lookF_none hl ?_⟩
      have : y = a := by simpa using hy
      rw [← this, ← e]; exact hx
    · rcases List.mem_append.1 hp with hp | hp
      · exact h.sy p hp
      · have : p = (a, d.bl.getD a.toNat []) := by simpa using hp
        subst this
        exact ⟨⟨h0, h1⟩, h.len (k := a.toNat) (by omega) []⟩
theorem lay128 {b : List Int} (h : b.length ≤ 128) : (layF zeroB 0 b).length = 128 := by
  have hz : zeroB.length = 128 := by simp [zeroB]
  rw [layF_length _ _ _ (by omega), hz]
theorem wrF_ok {d : Dk} (h : DkOK d) {a : Int} {b : List Int} (h0 : 0 ≤ a) (h1 : a < 32) (hb : b.length ≤ 128) : DkOK (wrF d a b) := by
  obtain ⟨k1, k2⟩ := syF_ok h h0 h1
  refine ⟨h.left0, h.left1, by show (d.bl.set _ _).length = 32; rw [List.length_set]; exact h.bl, fun x hx => ?_, k1, k2⟩
  rcases List.mem_or_eq_of_mem_set hx with hx | hx
  · exact h.each x hx
  · rw [hx]; exact lay128 hb
theorem writeF_bad {d : Dk} {a : Int} {b : List Int} (h : a < 0 ∨ 32 ≤ a ∨ 128 < b.length) : writeF d a b = (1, d) := by
  unfold writeF
  rcases h with h | h | h <;> simp [h]
theorem writeF_down {d : Dk} {a : Int} {b : List Int} (h0 : 0 ≤ a) (h1 : a < 32) (hb : b.length ≤ 128) (h : d.down = true) : writeF d a b = (8, d) := by
  have e1 : ¬ a < 0 := by omega
  have e2 : ¬ 32 ≤ a := by omega
  have e3 : ¬ 128 < b.length := by omega
  simp [writeF, e1, e2, e3, h]
theorem writeF_up {d : Dk} {a : Int} {b : List Int} (h0 : 0 ≤ a) (h1 : a < 32) (hb : b.length ≤ 128) (h : d.down = false) : writeF d a b = actF (wrF d a b) := by
  have e1 : ¬ a < 0 := by omega
  have e2 : ¬ 32 ≤ a := by omega
  have e3 : ¬ 128 < b.length := by omega
  simp [writeF, e1, e2, e3, h]
theorem writeF_ok {d : Dk} (h : DkOK d) {a : Int} {b : List Int} : DkOK (writeF d a b).2 := by
  by_cases hb : a < 0 ∨ 32 ≤ a ∨ 128 < b.length
  · rw [writeF_bad hb]; exact h
  · have h0 : 0 ≤ a := by omega
    have h1 : a < 32 := by omega
    have h2 : b.length ≤ 128 := by omega
    cases hd : d.down with
    | true => rw [writeF_down h0 h1 h2 hd]; exact h
    | false => rw [writeF_up h0 h1 h2 hd]; exact actF_ok (wrF_ok h h0 h1 h2)
theorem writeF_err {d : Dk} {a : Int} {b : List Int} (h0 : 0 ≤ a) (h1 : a < 32) (hb : b.length ≤ 128) : (writeF d a b).1 = 0 ∨ (writeF d a b).1 = 8 := by
  cases hd : d.down with
  | true => rw [writeF_down h0 h1 hb hd]; exact .inr rfl
  | false => rw [writeF_up h0 h1 hb hd]; exact (actF_parts _).2.2.2.2.2
theorem clearD_ok {d : Dk} (h : DkOK d) : DkOK (clearD d) := ⟨h.left0, h.left1, h.bl, h.each, by simp [clearD], by simp [clearD]⟩
theorem syncF_ok {d : Dk} (h : DkOK d) : DkOK (syncF d).2 := by
  unfold syncF
  cases hd : d.down with
  | true => exact h
  | false =>
    by_cases h1 : (actF d).1 = 0
    · simp only [h1, decide_true, cond_true, cond_false]; exact clearD_ok (actF_ok h)
    · simp only [h1, decide_false, cond_false]; exact actF_ok h
theorem newD_ok : DkOK newD := by
  refine ⟨by decide, by decide, by simp [newD], fun b hb => ?_, by simp [newD], by simp [newD]⟩
  have : b = zeroB := List.eq_of_mem_replicate hb
  rw [this]; simp [zeroB]
end Go.SX.Pe
