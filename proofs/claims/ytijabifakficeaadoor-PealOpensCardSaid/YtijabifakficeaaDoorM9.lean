/- Parts of the proof, one after the other: Pe10 Pe10E Pe10Q Pe11 Pe11E Pe11Q. -/
import Derived.Test.YtijabifakficeaaDoorM8
/- Chapter 10: a list's state, what is asked. -/
namespace Go.SX.Pe
open Go Go.Proofs
noncomputable section
abbrev Sta : Type := Int × List ByteArray × Int
abbrev aSt : ATy := (true, tSt)
@[reducible] def p23 : PC := ⟨23, [aSt, aSt], [aB], fun p => p.1.2.1.length ≤ 1000000, fun p => decide (p.1 = p.2)⟩
@[reducible] def A23 (a b : Sta) : Ann where
  τ := Nat
  pre := []
  preC := []
  keep := [2, 3]
  slots k := [(5, .c (.int .i64 k))]
  ents _ := []
  ok k := k ≤ a.2.1.length ∧ a.2.1.take k = b.2.1.take k ∧ a.1 = b.1 ∧ a.2.2 = b.2.2 ∧ a.2.1.length = b.2.1.length
  m k := a.2.1.length - k
@[reducible] def C23 (p : Sta × Sta) : Ctx := cx [] [(0, fun _ => A23 p.1 p.2)]
def g23 (p : Sta × Sta) : Prop := p23.VC (C23 p) Tryd.f23 p
@[reducible] def H22 : HC where
  f := 22
  X := Dk × Ls
  Hs x := [dE x.1 1, mE x.1, lE x.2 0 3 0, sRow 0 x.2.c.2.2]
  ags _ := [.c (.ptr 2 0)]
  Pre x := x.2.c.2.2.length ≤ 40 ∧ (x.2.c.2.2.length : Int) ≤ x.2.c.1 ∧ x.2.c.1 ≤ 1000000000
  res x := .tup [(true, [.int .i64 x.2.c.1, .own 4 1, .int .i64 x.2.c.2.1]), (false, [.kb true])]
  out x := [dE x.1 1, mE x.1, lE x.2 0 3 0, sRow 0 x.2.c.2.2, sRow 1 x.2.c.2.2]
  fr _ := false
  cn := [.cmp 0 0 1]
@[reducible] def A22 (c : Cn) (B R : Nat) : Ann where
  τ := Nat
  pre := []
  preC := [(B, 1, 9, .str)]
  keep := [2, 4, 6]
  slots k := [(7, .c (.int .i64 k)), (3, .c (.kb false))]
  ents k := [(B, .blk 53 [.int .i64 c.1, .own R 1, .int .i64 c.2.1]), (R, sRow 0 (c.2.2.take k))]
  ok k := k ≤ c.2.2.length
  m k := c.2.2.length - k
def with22 (c : Cn) (st : St) : Ann := match findT 6 st.t with
  | .c (.ptr b 0) => A22 c b st.h.length
  | _ => noAnn
@[reducible] def C22 (x : Dk × Ls) : Ctx := cx [H15.ci pickL, i16, i17] [(0, with22 x.2.c)]
def g22 (d : Dk) (l : Ls) : Prop := HVC (C22 (d, l)) Tryd.f22 H22 (d, l)
end
end Go.SX.Pe

/- Printed by VC.lean: what the executor asks. -/
namespace Go.SX.Pe
open Go Go.Proofs
def g23_q1 (p : Sta × Sta) : Prop :=
 false = decide (p.fst = p.snd)
def g23_q2 (p : Sta × Sta) : Prop :=
 ¬(↑p.fst.snd.fst.length : Int) = (↑p.snd.snd.fst.length : Int)
def g23_q3 (p : Sta × Sta) : Prop :=
 ¬g23_q2 p
def g23_q4 (p : Sta × Sta) : Prop :=
 p.fst.fst = p.snd.fst ∧ p.fst.snd.snd = p.snd.snd.snd ∧ p.fst.snd.fst.length = p.snd.snd.fst.length
def g23_q5 (p : Sta × Sta) : Prop :=
 (p.fst.fst = p.fst.fst ∧ p.fst.snd.fst = p.fst.snd.fst ∧ p.fst.snd.snd = p.fst.snd.snd ∧ True) ∧
 (p.snd.fst = p.snd.fst ∧ p.snd.snd.fst = p.snd.snd.fst ∧ p.snd.snd.snd = p.snd.snd.snd ∧ True) ∧ True
theorem g23_eq (p : Sta × Sta) : g23 p = (
 (¬p.fst.fst = p.snd.fst → ¬p.fst.fst = p.snd.fst ∧ ¬p.fst.fst = p.snd.fst ∧ g23_q1 p) ∧
 (¬¬p.fst.fst = p.snd.fst →
 ¬¬p.fst.fst = p.snd.fst ∧
 ¬¬p.fst.fst = p.snd.fst ∧
 (¬p.fst.snd.snd = p.snd.snd.snd → ¬p.fst.snd.snd = p.snd.snd.snd ∧ ¬p.fst.snd.snd = p.snd.snd.snd ∧ ¬p.fst.snd.snd = p.snd.snd.snd ∧ g23_q1 p) ∧
 (¬¬p.fst.snd.snd = p.snd.snd.snd →
 ¬¬p.fst.snd.snd = p.snd.snd.snd ∧
 ¬¬p.fst.snd.snd = p.snd.snd.snd ∧
 ¬¬p.fst.snd.snd = p.snd.snd.snd ∧
 (g23_q2 p → g23_q2 p ∧ g23_q2 p ∧ g23_q1 p) ∧
 (g23_q3 p →
 g23_q3 p ∧
 g23_q3 p ∧
 (∃ (x0 : Nat),
 (x0 ≤ p.fst.snd.fst.length ∧ List.take x0 p.fst.snd.fst = List.take x0 p.snd.snd.fst ∧ g23_q4 p) ∧
 g23_q5 p ∧ (0 : Int) = (↑x0 : Int) ∧ True ∧ True ∧ True) ∧
 ∀ (x : Nat),
 x ≤ p.fst.snd.fst.length ∧ List.take x p.fst.snd.fst = List.take x p.snd.snd.fst ∧ g23_q4 p →
 ((↑x : Int) < (↑p.fst.snd.fst.length : Int) →
 (↑x : Int) < (↑p.fst.snd.fst.length : Int) ∧
 ((0 : Int) ≤ (↑x : Int) ∧ (↑x : Int) < (↑p.fst.snd.fst.length : Int)) ∧
 ((0 : Int) ≤ (↑x : Int) ∧ (↑x : Int) < (↑p.snd.snd.fst.length : Int)) ∧
 (¬p.fst.snd.fst.getD (↑x : Int).toNat ByteArray.empty = p.snd.snd.fst.getD (↑x : Int).toNat ByteArray.empty →
 ¬p.fst.snd.fst.getD (↑x : Int).toNat ByteArray.empty = p.snd.snd.fst.getD (↑x : Int).toNat ByteArray.empty ∧ g23_q1 p) ∧
 (¬¬p.fst.snd.fst.getD (↑x : Int).toNat ByteArray.empty = p.snd.snd.fst.getD (↑x : Int).toNat ByteArray.empty →
 ¬¬p.fst.snd.fst.getD (↑x : Int).toNat ByteArray.empty = p.snd.snd.fst.getD (↑x : Int).toNat ByteArray.empty ∧
 Fits IntKind.i64 ((↑x : Int) + (1 : Int)) ∧
 ∃ (x' : Nat),
 (x' ≤ p.fst.snd.fst.length ∧ List.take x' p.fst.snd.fst = List.take x' p.snd.snd.fst ∧ g23_q4 p) ∧
 p.fst.snd.fst.length - x' < p.fst.snd.fst.length - x ∧
 g23_q5 p ∧ (↑x : Int) + (1 : Int) = (↑x' : Int) ∧ True ∧ True ∧ True)) ∧
 (¬(↑x : Int) < (↑p.fst.snd.fst.length : Int) → ¬(↑x : Int) < (↑p.fst.snd.fst.length : Int) ∧ true = decide (p.fst = p.snd)))))) := by
 kernel_rfl
def g22_q1 (_d : Dk) (l : Ls) : Prop :=
 True ∧
 l.br = l.br ∧
 True ∧
 l.turn = l.turn ∧
 l.opened = l.opened ∧
 l.r.fst = l.r.fst ∧ l.r.snd.fst = l.r.snd.fst ∧ l.r.snd.snd = l.r.snd.snd ∧ l.dirty = l.dirty ∧ l.c.fst = l.c.fst ∧ l.c.snd.fst = l.c.snd.fst ∧ True ∧ True
def g22_q2 (d : Dk) (l : Ls) : Prop :=
 ((l.c.fst = l.c.fst ∧ False ∧ l.c.snd.fst = l.c.snd.fst ∧ True) ∧ (False ∧ True) ∧ True) ∧
 ((True ∧ d.down = d.down ∧ d.left = d.left ∧ d.turn = d.turn ∧ d.opened = d.opened ∧ True) ∧ (True ∧ True) ∧ d.bl = d.bl) ∧
 d.sy = d.sy ∧ g22_q1 d l ∧ l.c.snd.snd = l.c.snd.snd ∧ False ∧ True
theorem g22_eq (d : Dk) (l : Ls) : g22 d l = (
 True ∧
 (((True ∧ d.down = d.down ∧ d.left = d.left ∧ d.turn = d.turn ∧ d.opened = d.opened ∧ True) ∧ (True ∧ True) ∧ d.bl = d.bl) ∧
 d.sy = d.sy ∧ g22_q1 d l ∧ l.c.snd.snd = l.c.snd.snd ∧ True) ∧
 (True ∧ True) ∧
 (l.c.snd.snd.length ≤ (40 : Nat) ∧ (0 : Int) ≤ l.c.fst ∧ l.c.fst ≤ (1000000000 : Int)) ∧
 True ∧
 (¬(0 : Int) = (0 : Int) → ¬(0 : Int) = (0 : Int) ∧ ¬(0 : Int) = (0 : Int) ∧ g22_q2 d l) ∧
 (¬¬(0 : Int) = (0 : Int) →
 ¬¬(0 : Int) = (0 : Int) ∧
 ¬¬(0 : Int) = (0 : Int) ∧
 (l.c.fst < (↑(entsN l.c l.c.snd.snd.length).length : Int) →
 l.c.fst < (↑(entsN l.c l.c.snd.snd.length).length : Int) ∧ l.c.fst < (↑(entsN l.c l.c.snd.snd.length).length : Int) ∧ g22_q2 d l) ∧
 (¬l.c.fst < (↑(entsN l.c l.c.snd.snd.length).length : Int) →
 ¬l.c.fst < (↑(entsN l.c l.c.snd.snd.length).length : Int) ∧
 ¬l.c.fst < (↑(entsN l.c l.c.snd.snd.length).length : Int) ∧
 (∃ (x0 : Nat),
 x0 ≤ l.c.snd.snd.length ∧
 (((True ∧ d.down = d.down ∧ d.left = d.left ∧ d.turn = d.turn ∧ d.opened = d.opened ∧ True) ∧ (True ∧ True) ∧ d.bl = d.bl) ∧
 d.sy = d.sy ∧
 g22_q1 d l ∧
 l.c.snd.snd = l.c.snd.snd ∧
 ((0 : Int) = (0 : Int) ∧ Value.slice none (0 : Nat) (0 : Nat) = Value.slice none (0 : Nat) (0 : Nat) ∧ (0 : Int) = (0 : Int) ∧ True) ∧
 entsN l.c l.c.snd.snd.length = entsN l.c l.c.snd.snd.length ∧
 (l.c.fst = l.c.fst ∧ True ∧ l.c.snd.fst = l.c.snd.fst ∧ True) ∧ nilT ByteArray = List.take x0 l.c.snd.snd ∧ True) ∧
 (0 : Int) = (↑x0 : Int) ∧ True ∧ True ∧ True ∧ True ∧ True) ∧
 ∀ (x : Nat),
 x ≤ l.c.snd.snd.length →
 ((↑x : Int) < (↑(entsN l.c l.c.snd.snd.length).length : Int) →
 (↑x : Int) < (↑(entsN l.c l.c.snd.snd.length).length : Int) ∧
 ((0 : Int) ≤ (↑x : Int) ∧ (↑x : Int) < (↑(entsN l.c l.c.snd.snd.length).length : Int)) ∧
 Fits IntKind.i64 (l.c.fst - (↑(entsN l.c l.c.snd.snd.length).length : Int)) ∧
 Fits IntKind.i64 (l.c.fst - (↑(entsN l.c l.c.snd.snd.length).length : Int) + (1 : Int)) ∧
 Fits IntKind.i64 (l.c.fst - (↑(entsN l.c l.c.snd.snd.length).length : Int) + (1 : Int) + (↑x : Int)) ∧
 (¬((entsN l.c l.c.snd.snd.length).getD (↑x : Int).toNat ((0 : Int), ByteArray.empty)).fst =
 l.c.fst - (↑(entsN l.c l.c.snd.snd.length).length : Int) + (1 : Int) + (↑x : Int) →
 ¬((entsN l.c l.c.snd.snd.length).getD (↑x : Int).toNat ((0 : Int), ByteArray.empty)).fst =
 l.c.fst - (↑(entsN l.c l.c.snd.snd.length).length : Int) + (1 : Int) + (↑x : Int) ∧
 ((l.c.fst = l.c.fst ∧ True ∧ l.c.snd.fst = l.c.snd.fst ∧ True) ∧ (False ∧ True) ∧ True) ∧
 ((True ∧ d.down = d.down ∧ d.left = d.left ∧ d.turn = d.turn ∧ d.opened = d.opened ∧ True) ∧ (True ∧ True) ∧ d.bl = d.bl) ∧
 d.sy = d.sy ∧ g22_q1 d l ∧ l.c.snd.snd = l.c.snd.snd ∧ List.take x l.c.snd.snd = l.c.snd.snd ∧ True) ∧
 (¬¬((entsN l.c l.c.snd.snd.length).getD (↑x : Int).toNat ((0 : Int), ByteArray.empty)).fst =
 l.c.fst - (↑(entsN l.c l.c.snd.snd.length).length : Int) + (1 : Int) + (↑x : Int) →
 ¬¬((entsN l.c l.c.snd.snd.length).getD (↑x : Int).toNat ((0 : Int), ByteArray.empty)).fst =
 l.c.fst - (↑(entsN l.c l.c.snd.snd.length).length : Int) + (1 : Int) + (↑x : Int) ∧
 ((0 : Int) ≤ (↑x : Int) ∧ (↑x : Int) < (↑(entsN l.c l.c.snd.snd.length).length : Int)) ∧
 Small ((List.take x l.c.snd.snd).length + ((0 : Nat) + (1 : Nat))) ∧
 Fits IntKind.i64 ((↑x : Int) + (1 : Int)) ∧
 ∃ (x' : Nat),
 x' ≤ l.c.snd.snd.length ∧
 l.c.snd.snd.length - x' < l.c.snd.snd.length - x ∧
 (((True ∧ d.down = d.down ∧ d.left = d.left ∧ d.turn = d.turn ∧ d.opened = d.opened ∧ True) ∧
 (True ∧ True) ∧ d.bl = d.bl) ∧
 d.sy = d.sy ∧
 g22_q1 d l ∧
 l.c.snd.snd = l.c.snd.snd ∧
 ((0 : Int) = (0 : Int) ∧
 Value.slice none (0 : Nat) (0 : Nat) = Value.slice none (0 : Nat) (0 : Nat) ∧
 (0 : Int) = (0 : Int) ∧ True) ∧
 entsN l.c l.c.snd.snd.length = entsN l.c l.c.snd.snd.length ∧
 (l.c.fst = l.c.fst ∧ True ∧ l.c.snd.fst = l.c.snd.fst ∧ True) ∧
 List.take x l.c.snd.snd ++
 [((entsN l.c l.c.snd.snd.length).getD (↑x : Int).toNat ((0 : Int), ByteArray.empty)).snd] =
 List.take x' l.c.snd.snd ∧
 True) ∧
 (↑x : Int) + (1 : Int) = (↑x' : Int) ∧ True ∧ True ∧ True ∧ True ∧ True)) ∧
 (¬(↑x : Int) < (↑(entsN l.c l.c.snd.snd.length).length : Int) →
 ¬(↑x : Int) < (↑(entsN l.c l.c.snd.snd.length).length : Int) ∧
 ((l.c.fst = l.c.fst ∧ True ∧ l.c.snd.fst = l.c.snd.fst ∧ True) ∧ (True ∧ True) ∧ True) ∧
 ((True ∧ d.down = d.down ∧ d.left = d.left ∧ d.turn = d.turn ∧ d.opened = d.opened ∧ True) ∧ (True ∧ True) ∧ d.bl = d.bl) ∧
 d.sy = d.sy ∧ g22_q1 d l ∧ l.c.snd.snd = l.c.snd.snd ∧ List.take x l.c.snd.snd = l.c.snd.snd ∧ True)))) := by
 kernel_rfl
end Go.SX.Pe

/- Chapter 10: a list's state, proved. -/
namespace Go.SX.Pe
open Go Go.Proofs
theorem g23_ok {p : Sta × Sta} (h : p.1.2.1.length ≤ 1000000) : g23 p := by
  obtain ⟨⟨a1, a2, a3⟩, b1, b2, b3⟩ := p
  have h : a2.length ≤ 1000000 := h
  refine (g23_eq ..).mpr ?_
  simp only [g23_q1, g23_q2, g23_q3, g23_q4, g23_q5, pp1, eq_self, and_true, true_and, and_self, Decidable.not_not, Int.toNat_natCast]
  refine ⟨fun k => ?_, fun k1 => ⟨fun k => ?_, fun k2 => ⟨fun k => ?_, fun k3 => ⟨⟨0, ⟨by omega, by simp, k1, k2, by omega⟩, rfl⟩, fun x hx => ⟨fun k4 => ⟨by omega, by omega, fun k5 => ?_, fun k5 => ⟨fi (by omega) (by omega), x + 1, ⟨by omega, ?_, k1, k2, by omega⟩, by omega, by omega⟩⟩, fun k4 => ?_⟩⟩⟩⟩⟩
  · simp [k]
  · simp [k]
  · have : a2 ≠ b2 := fun e => k (by rw [e])
    simp [this]
  · have : a2 ≠ b2 := fun e => k5 (by rw [e])
    simp [this]
  · rw [take_snoc (show x < a2.length by omega) ByteArray.empty, take_snoc (show x < b2.length by omega) ByteArray.empty, hx.2.1, k5]
  · obtain ⟨q1, q2, _⟩ := hx
    have hxa : x = a2.length := by omega
    rw [hxa, List.take_length, List.take_of_length_le (by omega)] at q2
    simp [k1, k2, q2]
theorem p23_ok : p23.OK Tryd.prog := p23.ok C23 (fun _ => cx_ok (cs := []) trivial _) (by kernel_rfl) (by kernel_rfl) (by kernel_rfl) (fun _ hx => g23_ok hx)
theorem entsN_get (c : Cn) : (k j : Nat) → j < k → (entsN c k).getD j (0, ByteArray.empty) = (c.1 - (c.2.2.length : Int) + 1 + (j : Int), c.2.2.getD j ByteArray.empty)
  | 0, j, h => absurd h (Nat.not_lt_zero _)
  | k + 1, j, h => by
    unfold entsN
    by_cases hj : j < k
    · have hl := entsN_len c k
      have := entsN_get c k j hj
      simp only [List.getD] at this ⊢
      rw [List.getElem?_append_left (by omega)]
      exact this
    · have : j = k := by omega
      subst this
      have hl := entsN_len c j
      simp only [List.getD]
      rw [List.getElem?_append_right (by omega), hl, Nat.sub_self]
      rfl
theorem g22_ok {d : Dk} {l : Ls} (h : l.c.2.2.length ≤ 40) (h0 : (l.c.2.2.length : Int) ≤ l.c.1) (h1 : l.c.1 ≤ 1000000000) : g22 d l := by
  refine (g22_eq ..).mpr ?_
  simp only [g22_q1, g22_q2, pp1, eq_self, and_true, true_and, and_self, Decidable.not_not, Int.toNat_natCast, entsN_len]
  refine ⟨⟨h, by omega, h1⟩, fun k => absurd trivial k, fun _ => ⟨fun k => by omega, fun _ => ⟨⟨0, by omega, rfl, rfl⟩, fun x hx => ⟨fun k1 => ?_, fun k1 => ?_⟩⟩⟩⟩
  · have hx' : x < l.c.2.2.length := by omega
    rw [entsN_get l.c _ x hx']
    refine ⟨by omega, fi (by omega) (by omega), fi (by omega) (by omega), fi (by omega) (by omega), fun k => absurd rfl k, fun _ => ⟨by omega, sm (by rw [List.length_take]; omega), fi (by omega) (by omega), x + 1, by omega, by omega, ?_, by omega⟩⟩
    rw [take_snoc hx' ByteArray.empty]
  · rw [List.take_of_length_le (by omega)]
theorem H22_ok : HeapOK Tryd.prog H22 := heap_flat (c := H22) (fn := Tryd.f22) (by kernel_rfl) (by kernel_rfl) (by kernel_rfl) (fun _ => ⟨trivial, trivial, trivial, trivial, trivial⟩) C22 (fun _ => cx_ok (cs := [H15.ci pickL, i16, i17]) ⟨i15_ok, i16_ok, i17_ok, trivial⟩ _) (fun x hx => g22_ok hx.1 hx.2.1 hx.2.2)
theorem i22_ok : (H22.ci pickL).OK Tryd.prog := H22_ok.ci (fun _ => ⟨trivial, trivial, trivial, trivial, trivial⟩) pickL_ok
end Go.SX.Pe

/- Chapter 10: PealKept, what is asked. -/
namespace Go.SX.Pe
open Go Go.Proofs
noncomputable section
@[reducible] def i11 (n : Nd) : CI := inz 11 Tryd.f11 (cx [H19v.ci (pick19v n), H18.ci pick52] [])
@[reducible] def i13 : CI := inz 13 Tryd.f13 (cx [] [])
def cutS (s : ByteArray) (n : Int) : ByteArray := s.extract 0 (min (s.size : Int) n).toNat
def textN (l : List ByteArray) (k : Nat) : ByteArray := bif decide (0 < l.length) then cutS (l.getD (k % l.length) ByteArray.empty) 24 else ByteArray.empty
def allN (l : List ByteArray) : Nat → List ByteArray
  | 0 => []
  | k + 1 => allN l k ++ [textN l k]
def lastN (l : List ByteArray) : Nat → List ByteArray
  | 0 => []
  | k + 1 => addC (lastN l k) (textN l k)
def drtN (b : Bool) (k : Nat) : Bool := bif decide (0 < k) then true else b
def keptL (L : Ls) (l : List ByteArray) (k : Nat) : Ls := ⟨L.br, L.turn, L.opened, L.r, drtN L.dirty k, (k, 0, lastN l k)⟩
def zeroE (l : List (Int × ByteArray)) (k : Nat) : List (Int × ByteArray) := (l.take k).map (fun e => (0, e.2)) ++ l.drop k
@[reducible] def A3 (L : Ls) (l : List ByteArray) (n : Int) (d x T A : Nat) : Ann where
  τ := Nat
  pre := [(7, 9, .str)]
  preC := []
  keep := [0, 1, 5, 6]
  slots k := [(8, .c (.int .i64 k)), (7, .c (.own A 1)), (4, .c (.kb false))]
  ents k := [(x, lE (keptL L l k) d T 1), (T, sRow 0 (lastN l k)), (A, sRow 0 (allN l k))]
  ok k := (k : Int) ≤ n
  m k := n.toNat - k
  mvs := [.cell x 11]
def with3 (l : List ByteArray) (n : Int) (st : St) : Ann := match findT 5 st.t, findT 7 st.t with
  | .c (.ptr w 0), .c (.own A _) => (match st.h[w]? with
    | some (.blk _ [.ptr d 0, .ptr x 0, _, _]) => (match st.h[x]? with
      | some (.blk _ [_, br, _, .int .i64 t, .int .i64 o, .int .i64 nn, .int .i64 sz, .int .i64 sm, dt, .int .i64 la, .int .i64 ma, .own T _]) => (match br.asB, dt.asB with
        | some b, some c => A3 ⟨b, t, o, (nn, sz, sm), c, (la, ma, [])⟩ l n d x T A
        | _, _ => noAnn)
      | _ => noAnn)
    | _ => noAnn)
  | _, _ => noAnn
@[reducible] def A3b : Ann where
  τ := Nat
  pre := []
  preC := []
  keep := [0, 1, 5, 6, 7]
  slots k := [(12, .c (.int .i64 k)), (4, .c (.kb false))]
  ents _ := []
  ok k := k ≤ 2
  m k := 2 - k
@[reducible] def A3c (es : List (Int × ByteArray)) (E : Nat) : Ann where
  τ := Nat
  pre := []
  preC := []
  keep := [0, 1, 5, 6, 7, 12, 13]
  slots k := [(15, .c (.int .i64 k)), (4, .c (.kb false))]
  ents k := [(E, eRow 1 (zeroE es k))]
  ok k := k ≤ es.length
  m k := es.length - k
def with3c (st : St) : Ann := match findT 13 st.t with
  | .c (.own E _) => (match st.h[E]? with
    | some (.row _ (.pair (.int .i64) .str) _ es) => A3c es E
    | _ => noAnn)
  | _ => noAnn
structure X3 where
  g : Xg
  many : Int
  l : List ByteArray
@[reducible] def H3 : HC where
  f := 3
  X := X3
  Hs x := [gE x.g.t x.g.u]
  ags x := [.c (.int .u8 x.many), .c (.ro .str x.l)]
  Pre x := 0 ≤ x.many ∧ x.many ≤ 255 ∧ x.l.length ≤ 9223372036854775807
  res _ := .c (.kb true)
  out x := [gE x.g.t x.g.u]
  fr _ := false
@[reducible] noncomputable def cb (cs : List CI) (an : List (Nat × (St → Ann))) (b : Nat) : Ctx := ctxB tbl cs (fun n => annOf n an) b
@[reducible] def C3 (x : X3) : Ctx := cb [i11 x.g.n, i12 x.g.n, i13, i14, H15.ci pickL, i16, i17] [(0, with3 x.l (x.many % 100)), (1, fun _ => A3b), (2, with3c)] 1
def g3 (t : GT) (u : Value) (n : Nd) (many : Int) (l : List ByteArray) : Prop := HVC (C3 ⟨⟨t, u, n⟩, many, l⟩) Tryd.f3 H3 ⟨⟨t, u, n⟩, many, l⟩
end
end Go.SX.Pe

/- Printed by VC.lean: what the executor asks. -/
namespace Go.SX.Pe
open Go Go.Proofs
def g3_q1 (t : GT) (u : Value) (_n : Nd) (_many : Int) (_l : List ByteArray) : Prop :=
 ¬(0 : Int) = (0 : Int) →
 ¬(0 : Int) = (0 : Int) ∧ ¬(0 : Int) = (0 : Int) ∧ False ∧ Ent.gl (0 : Nat) t.fst (Value.iface t.snd u) = Ent.gl (0 : Nat) t.fst (Value.iface t.snd u) ∧ True
def g3_q2 (_t : GT) (_u : Value) (n : Nd) (_many : Int) (_l : List ByteArray) : Prop :=
 (True ∧ (openD n.d).down = (openD n.d).down ∧ (openD n.d).left = (openD n.d).left ∧ (openD n.d).turn = (openD n.d).turn ∧ (openD n.d).opened = (openD n.d).opened ∧ True) ∧
 (True ∧ True) ∧ (openD n.d).bl = (openD n.d).bl
def g3_q3 (_t : GT) (_u : Value) (_n : Nd) (_many : Int) (_l : List ByteArray) : Prop :=
 [((0 : Int), nilT ByteArray, (0 : Int))] = [((0 : Int), nilT ByteArray, (0 : Int))]
def g3_q4 (_t : GT) (_u : Value) (_n : Nd) (_many : Int) (_l : List ByteArray) : Prop :=
 True ∧ (0 : Int) = (0 : Int) ∧ True ∧ (0 : Int) = (0 : Int) ∧ Value.slice none (0 : Nat) (0 : Nat) = Value.slice none (0 : Nat) (0 : Nat) ∧ (0 : Int) = (0 : Int) ∧ True
end Go.SX.Pe

/- Chapter 10: PealKept, proved. -/
namespace Go.SX.Pe
open Go Go.Proofs
theorem wfU {n : Int} (h : (Ty.int .u8).Wf n) : 0 ≤ n ∧ n ≤ 255 := h
theorem cb_ok {cs : List CI} (h : CsOK Tryd.prog cs) (an : List (Nat × (St → Ann))) (b : Nat) : CtxOK Tryd.prog (cb cs an b) := ctxB_ok mixed (chkAll_ok tbl_ok) h _ _
end Go.SX.Pe
