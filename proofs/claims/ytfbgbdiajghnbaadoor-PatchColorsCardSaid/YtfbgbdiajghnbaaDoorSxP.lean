/- SX, part P: the caller's input reads as plain data. -/
import Derived.Test.YtfbgbdiajghnbaaDoorSxO
import Derived.Deep.Slices
import Derived.OpenShut
import Derived.ChangeOld
import Derived.Carry
namespace Go.SX
open Go Go.RowKit Go.Deep Go.ChangeShapes Go.WideShapes

/-- A type of the program, and the kind of data that it holds. -/
inductive TyM (P : Program) : TypeId → Ty → Prop
  | int {t : TypeId} {k : IntKind} (h : P.underlying t = some (.int k)) : TyM P t (.int k)
  | bool {t : TypeId} (h : P.underlying t = some .bool) : TyM P t .bool
  | str {t : TypeId} (h : P.underlying t = some .string) : TyM P t .str
  | pair {t : TypeId} {a b : Ty} {f0 f1 : Field} (h : P.underlying t = some (.struct #[f0, f1])) (o0 : f0.offset = 0) (o1 : f1.offset = a.size) (c0 : P.cellsOf f0.type = a.size) (c1 : P.cellsOf f1.type = b.size)
      (h0 : TyM P f0.type a) (h1 : TyM P f1.type b) (ct : P.cellsOf t = a.size + b.size) : TyM P t (.pair a b)
  | two {t e : TypeId} {a : Ty} (h : P.underlying t = some (.array 2 e)) (ce : P.cellsOf e = a.size) (h0 : TyM P e a) (ct : P.cellsOf t = a.size + a.size) : TyM P t (.pair a a)
  | three {t e : TypeId} {a : Ty} (h : P.underlying t = some (.array 3 e)) (ce : P.cellsOf e = a.size) (h0 : TyM P e a) (ct : P.cellsOf t = a.size + (a.size + a.size)) : TyM P t (.pair a (.pair a a))
  | slice {t e : TypeId} {a : Ty} (h : P.underlying t = some (.slice e)) (ce : P.cellsOf e = a.size) (h0 : TyM P e a) : TyM P t (.slice a)

def Ty.Wf : (T : Ty) → T.den → Prop
  | .int k, n => k.min ≤ n ∧ n ≤ k.max
  | .bool, _ => True
  | .str, s => s.size ≤ maxLen
  | .pair a b, p => a.Wf p.1 ∧ b.Wf p.2
  | .slice a, xs => xs.length ≤ maxLen ∧ ∀ x ∈ xs, a.Wf x

theorem list_of {α : Type} {R : Nat → α → Prop} : (n : Nat) → (∀ i, i < n → ∃ x, R i x) → ∃ xs : List α, xs.length = n ∧ ∀ i x, xs[i]? = some x → R i x
  | 0, _ => ⟨[], rfl, fun i x h => by simp at h⟩
  | n + 1, h => by
    obtain ⟨xs, h1, h2⟩ := list_of n fun i hi => h i (Nat.lt_succ_of_lt hi)
    obtain ⟨x, hx⟩ := h n (Nat.lt_succ_self n)
    refine ⟨xs ++ [x], by simp [h1], fun i y hy => ?_⟩
    rcases Nat.lt_or_ge i n with hi | hi
    · rw [List.getElem?_append_left (by omega)] at hy; exact h2 i y hy
    · rw [List.getElem?_append_right (by omega)] at hy
      have e : i - xs.length = 0 := by
        rcases Nat.eq_zero_or_pos (i - xs.length) with h | h
        · exact h
        · rw [List.getElem?_eq_none (by simp; omega)] at hy; cases hy
      rw [e] at hy
      simp at hy
      have e' : i = n := by omega
      rw [e', ← hy]; exact hx

section
variable {H : Type} {enc : TypeId × Value → H} {P : Program} {w : World} {base : Nat} {spare : Nat → Bool} {held : Bool}

theorem cell_lt {w : World} {a : Addr} {v : Value} (hc : w.cell? a = some v) : a.block < w.heap.size := by
  unfold World.cell? at hc
  cases hx : w.heap[a.block]? with
  | none => rw [hx] at hc; cases hc
  | some o => exact (Array.getElem?_eq_some_iff.1 hx).1

theorem split2 {α : Type} (cs : List α) (n m : Nat) (h : cs.length = n + m) : cs = (cs.drop 0).take n ++ (cs.drop n).take m := by
  rw [List.drop_zero]
  have : (cs.drop n).take m = cs.drop n := List.take_of_length_le (by simp; omega)
  rw [this, List.take_append_drop]

theorem open_ty {t : TypeId} {T : Ty} (hT : TyM P t T) : ∀ {fuel : Nat} {cs : List Value} {x : DataW H × List MemPlace}, DataW.trod enc P w base spare held fuel t cs = some x → ∃ y : T.den, T.Rep w (fun b => b < w.heap.size) y cs ∧ T.Wf y := by
  induction hT with
  | int h =>
    intro fuel cs x hx
    cases fuel with
    | zero => simp [DataW.trod] at hx
    | succ n =>
      unfold DataW.trod at hx
      simp only [h] at hx
      split at hx <;> simp_all
      rename_i k k' n hk
      obtain ⟨⟨h1, h2⟩, _⟩ := hx
      subst h1
      unfold Lit.wf at h2
      rw [Bool.and_eq_true] at h2
      exact ⟨n, by first | rfl | (subst hk; rfl), by first | exact of_decide_eq_true h2.1 | (subst hk; exact of_decide_eq_true h2.1), by first | exact of_decide_eq_true h2.2 | (subst hk; exact of_decide_eq_true h2.2)⟩
  | bool h =>
    intro fuel cs x hx
    cases fuel with
    | zero => simp [DataW.trod] at hx
    | succ n =>
      unfold DataW.trod at hx
      simp only [h] at hx
      split at hx <;> simp_all
      rename_i b
      cases b
      · exact .inl ⟨rfl, trivial⟩
      · exact .inr ⟨rfl, trivial⟩
  | str h =>
    intro fuel cs x hx
    cases fuel with
    | zero => simp [DataW.trod] at hx
    | succ n =>
      unfold DataW.trod at hx
      simp only [h] at hx
      split at hx <;> simp_all
      exact ⟨_, rfl, hx.1⟩
  | @pair t a b f0 f1 h o0 o1 c0 c1 m0 m1 ct ih0 ih1 =>
    intro fuel cs x hx
    obtain ⟨xs, n, _, _, hl, hxl, hf⟩ := DataW.trod_struct h hx
    match xs, hxl with
    | [y0, y1], _ =>
      have g0 := hf 0 f0 rfl
      have g1 := hf 1 f1 rfl
      rw [o0, c0] at g0
      rw [o1, c1] at g1
      obtain ⟨d0, r0, w0⟩ := ih0 g0
      obtain ⟨d1, r1, w1⟩ := ih1 g1
      exact ⟨(d0, d1), ⟨_, _, split2 cs a.size b.size (by rw [hl, ct]), r0, r1⟩, w0, w1⟩
  | @two t e a h ce m0 ct ih =>
    intro fuel cs x hx
    obtain ⟨xs, n, _, _, hl, hxl, hf⟩ := DataW.trod_array h hx
    match xs, hxl with
    | [y0, y1], _ =>
      have g0 := hf 0 (by omega)
      have g1 := hf 1 (by omega)
      rw [ce] at g0 g1
      rw [Nat.zero_mul] at g0
      rw [Nat.one_mul] at g1
      obtain ⟨d0, r0, w0⟩ := ih g0
      obtain ⟨d1, r1, w1⟩ := ih g1
      exact ⟨(d0, d1), ⟨_, _, split2 cs a.size a.size (by rw [hl, ct]), r0, r1⟩, w0, w1⟩
  | @three t e a h ce m0 ct ih =>
    intro fuel cs x hx
    obtain ⟨xs, n, _, _, hl, hxl, hf⟩ := DataW.trod_array h hx
    match xs, hxl with
    | [y0, y1, y2], _ =>
      have g0 := hf 0 (by omega)
      have g1 := hf 1 (by omega)
      have g2 := hf 2 (by omega)
      rw [ce] at g0 g1 g2
      rw [Nat.zero_mul] at g0
      rw [Nat.one_mul] at g1
      obtain ⟨d0, r0, w0⟩ := ih g0
      obtain ⟨d1, r1, w1⟩ := ih g1
      obtain ⟨d2, r2, w2⟩ := ih g2
      have e1 : (cs.drop (2 * a.size)).take a.size = ((cs.drop a.size).drop a.size).take a.size := by
        rw [List.drop_drop]
        congr 2
        omega
      rw [e1] at r2
      have hd : ((cs.drop a.size).drop a.size).take a.size = (cs.drop a.size).drop a.size := List.take_of_length_le (by
        simp only [List.length_drop]
        omega)
      rw [hd] at r2
      exact ⟨(d0, d1, d2), ⟨(cs.drop 0).take a.size, cs.drop a.size, by simp, r0, ⟨_, _, (List.take_append_drop a.size (cs.drop a.size)).symm, r1, r2⟩⟩, w0, w1, w2⟩
  | @slice t e a h ce m0 ih =>
    intro fuel cs x hx
    rcases open_slice h hx with ⟨rfl, _⟩ | ⟨ad, len, cap, m, n, D, Pl, rfl, hb, hl, hm, hmm, _, hel⟩
    · exact ⟨[], ⟨none, 0, rfl, Nat.le_refl _, fun h => absurd rfl h⟩, Nat.zero_le _, fun x hx => by cases hx⟩
    · have hlm : len ≤ m := by rw [hmm]; split <;> omega
      obtain ⟨xs, hxl, hxs⟩ := list_of (R := fun i (y : a.den) => ∃ c, a.Rep w (fun b => b < w.heap.size) y c ∧ a.Wf y ∧ c.length = a.size ∧ ∀ (j : Nat) (u : Value), c[j]? = some u → w.cell? (ad.add (i * a.size + j)) = some u) len fun i hi => by
        obtain ⟨cs', q1, q2⟩ := hel i (by omega)
        obtain ⟨y, r1, r2⟩ := ih q2
        obtain ⟨_, z1, z2⟩ := World.cells?_some q1
        refine ⟨y, cs', r1, r2, by rw [z1, ce], fun j u hu => ?_⟩
        have hj : j < P.cellsOf e := by rw [← z1]; exact (List.getElem?_eq_some_iff.1 hu).1
        have := z2 j hj
        rw [add_add, ce, hu] at this
        exact this
      have hblk : xs ≠ [] → ad.block < w.heap.size := fun hne => by
        have h0 : 0 < xs.length := List.length_pos_iff.2 hne
        obtain ⟨c, _, _, q3, q4⟩ := hxs 0 xs[0] (List.getElem?_eq_getElem h0)
        have hc : 0 < c.length := by rw [q3]; exact a.size_pos
        have := cell_lt (q4 0 c[0] (List.getElem?_eq_getElem hc))
        rwa [block_add] at this
      refine ⟨xs, ⟨some ad, cap, by rw [hxl], by omega, fun hne => ⟨ad, rfl, hblk hne, hblk hne, fun i y hy => ?_⟩⟩, by rw [hxl]; omega, fun y hy => ?_⟩
      · obtain ⟨c, q1, _, q3, q4⟩ := hxs i y hy
        exact ⟨c, q1, q3, q4⟩
      · obtain ⟨i, hi⟩ := List.getElem?_of_mem hy
        exact (hxs i y hi).choose_spec.2.1

end
end Go.SX
