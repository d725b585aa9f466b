/- SX, part S: functions that call themselves; results that may be nil. -/
import Derived.Test.YtfbgbdiajghnbaaDoorSxR
namespace Go.SX
open Go Go.RowKit

section
variable {P : Program} {C : Ctx} {B : Nat} {X : Nat → Prop} {w0 w : World} {H : List Ent} {g : Gh}

/-- One call, by the executor's run of the body. -/
theorem pure_at {f : FuncId} {fn : Func} {as rs : List ATy} {F : ADen as → ADen rs} {x : ADen as} (hC : CtxOK P C) (hf : P.funcs[f]? = some fn) (h : PureVC C fn as rs F x) {ok : Nat → Prop} {vals : List Value} {w : World} (ha : ArgsR w ok as x vals) :
    Calls P f vals.toArray w fun e w' => ∃ v, e = .returned v ∧ ResR w' (fun b => ok b ∨ w.heap.size ≤ b) rs (F x) v ∧ Below w.heap.size w w' := by
  let g : Gh := ⟨fun _ => 0, fun _ => undef, fun b => ok b ∨ w.heap.size ≤ b⟩
  have hs : Sat w.heap.size (fun _ => False) w [] g w :=
    ⟨rfl, rfl, rfl, Nat.le_refl _, Nat.le_refl _, fun b hb => .inr (hb.elim id False.elim), fun _ _ _ => rfl, fun i e h => by simp at h, fun i j e f b h => by simp at h⟩
  have hargs : ArgsRep w [] g (argSVs as x) vals := argSVs_rep as (ArgsR.mono ⟨Nat.le_refl _, fun b _ h => ⟨⟨.inl h, by rintro ⟨i, e, h, _⟩; simp at h⟩, rfl⟩⟩ as ha)
  unfold PureVC at h
  refine (body_calls hC hf h hs hargs).mono ?_
  rintro e w' ⟨v, rfl, sv, H', g', hk, hs', hev, hr⟩
  obtain ⟨y, h1, rfl⟩ := resDat_sound hs' rs hr hk
  refine ⟨v, rfl, ?_, ⟨hs'.os, hs'.tape, hs'.output, hs'.size0, fun b hb => hs'.old b hb id⟩⟩
  rw [hev.ok] at h1
  exact h1

@[reducible] def PC.below (c : PC) (m : ADen c.as → Nat) (n : Nat) : PC := ⟨c.f, c.as, c.rs, fun x => c.Pre x ∧ m x < n, c.F⟩

/-- A function over plain data that calls itself. -/
theorem PC.rec_ok (c : PC) {fn : Func} (m : ADen c.as → Nat) (C : ADen c.as → Ctx) (hC : ∀ x, (c.below m (m x)).OK P → CtxOK P (C x)) (hf : P.funcs[c.f]? = some fn) (hn : (fn.name == "runtime.NumGoroutine") = false) (hb : fn.body.isNone = false)
    (h : ∀ x, c.Pre x → c.VC (C x) fn x) : c.OK P := by
  have key : ∀ n, (c.below m n).OK P := by
    intro n
    induction n with
    | zero => exact ⟨⟨fn, hf, hn, hb⟩, fun ok x vals w hx => absurd hx.2 (Nat.not_lt_zero _)⟩
    | succ n ih =>
      refine ⟨⟨fn, hf, hn, hb⟩, fun ok x vals w hx ha => ?_⟩
      have hlow : (c.below m (m x)).OK P := ⟨ih.1, fun ok y vals w hy ha => ih.2 ok y vals w ⟨hy.1, by have := hx.2; have := hy.2; omega⟩ ha⟩
      exact pure_at (hC x hlow) hf (h x hx.1) ha
  exact ⟨⟨fn, hf, hn, hb⟩, fun ok x vals w hx ha => (key (m x + 1)).2 ok x vals w ⟨hx, Nat.lt_succ_self _⟩ ha⟩

/-! ### A slice that may be nil -/

structure NC where
  f : FuncId
  as : List ATy
  t : Ty
  Pre : ADen as → Prop
  F : ADen as → Option (List t.den)

def NilR (w : World) (ok : Nat → Prop) (t : Ty) (o : Option (List t.den)) (v : Value) : Prop :=
  match o with
  | none => v = .slice none 0 0
  | some ys => (Ty.slice t).Rep w ok ys [v]

def NilOK (P : Program) (c : NC) : Prop :=
  (∃ fn, P.funcs[c.f]? = some fn ∧ (fn.name == "runtime.NumGoroutine") = false ∧ fn.body.isNone = false) ∧
  ∀ (ok : Nat → Prop) (x : ADen c.as) (vals : List Value) (w : World), c.Pre x → ArgsR w ok c.as x vals →
    Calls P c.f vals.toArray w fun e w' => ∃ v, e = .returned v ∧ NilR w' (fun b => ok b ∨ w.heap.size ≤ b) c.t (c.F x) v ∧ Below w.heap.size w w'

def nilRes (t : Ty) (sv : SV) (H : List Ent) (o : Option (List t.den)) : Prop :=
  match sv with
  | .c (.raw u) => bif isNil u then o = none else False
  | sv => argDat false (false, .slice t) sv H fun y _ => o = some y

/-- What is to be shown of the body. -/
def NilVC (C : Ctx) (fn : Func) (c : NC) (x : ADen c.as) : Prop := runBody C fn (argSVs c.as x) [] fun sv H => nilRes c.t sv H (c.F x)

def nilSpec (c : NC) : Spec := fun args H K =>
  argsDat false c.as args H fun x H => c.Pre x ∧ (c.F x = none → K (.c (.raw (.slice none 0 0))) H) ∧ ∀ ys, c.F x = some ys → K (.c (.ro c.t ys)) H

theorem nilRes_sound (hs : Sat B X w0 H g w) {t : Ty} {sv : SV} {v : Value} (hr : sv.Rep w H g v) {o : Option (List t.den)} (h : nilRes t sv H o) : NilR w g.ok t o v := by
  unfold nilRes at h
  split at h
  · rename_i u
    cases hu : isNil u with
    | false => rw [hu] at h; exact h.elim
    | true =>
      rw [hu] at h
      have ho : o = none := h
      subst ho
      have e : v = u := hr
      show v = _
      rw [e, isNil_eq hu]
  · obtain ⟨y, H', a1, a2, _, _, a5, a6⟩ := arg_sound false hs hr h
    subst a6
    have h5 := a5 rfl
    unfold VRep at h5
    simp only [Bool.false_eq_true, if_false] at h5
    exact Ty.Rep.mono ⟨Nat.le_refl _, fun b _ h => ⟨h.1, rfl⟩⟩ (.slice t) h5

theorem nil_at {c : NC} {fn : Func} {x : ADen c.as} (hC : CtxOK P C) (hf : P.funcs[c.f]? = some fn) (h : NilVC C fn c x) {ok : Nat → Prop} {vals : List Value} {w : World} (ha : ArgsR w ok c.as x vals) :
    Calls P c.f vals.toArray w fun e w' => ∃ v, e = .returned v ∧ NilR w' (fun b => ok b ∨ w.heap.size ≤ b) c.t (c.F x) v ∧ Below w.heap.size w w' := by
  let g : Gh := ⟨fun _ => 0, fun _ => undef, fun b => ok b ∨ w.heap.size ≤ b⟩
  have hs : Sat w.heap.size (fun _ => False) w [] g w :=
    ⟨rfl, rfl, rfl, Nat.le_refl _, Nat.le_refl _, fun b hb => .inr (hb.elim id False.elim), fun _ _ _ => rfl, fun i e h => by simp at h, fun i j e f b h => by simp at h⟩
  have hargs : ArgsRep w [] g (argSVs c.as x) vals := argSVs_rep c.as (ArgsR.mono ⟨Nat.le_refl _, fun b _ h => ⟨⟨.inl h, by rintro ⟨i, e, h, _⟩; simp at h⟩, rfl⟩⟩ c.as ha)
  unfold NilVC at h
  refine (body_calls hC hf h hs hargs).mono ?_
  rintro e w' ⟨v, rfl, sv, H', g', hk, hs', hev, hr⟩
  have h1 := nilRes_sound hs' hr hk
  refine ⟨v, rfl, ?_, ⟨hs'.os, hs'.tape, hs'.output, hs'.size0, fun b hb => hs'.old b hb id⟩⟩
  rw [hev.ok] at h1
  exact h1

theorem NilOK.spec {c : NC} (h : NilOK P c) : SpecOK P c.f (nilSpec c) := by
  refine ⟨h.1, fun B X w0 H g w args vals K hsp hs ha => ?_⟩
  unfold nilSpec at hsp
  obtain ⟨x, H', a1, a2, a3, a4, a5, hpre, hk1, hk2⟩ := args_sound false c.as hs ha hsp
  have fin : ∀ w', Below w.heap.size w w' → Sat B X w0 H' g w' ∧ Evo w H g w' H' g := fun w' hb => by
    obtain ⟨b1, b2⟩ := Sat.same (w1 := w') a1 hb.os hb.tape hb.output hb.size hb.block
    exact ⟨b1, a2.trans b2⟩
  refine (h.2 (Stable H' g) x vals w hpre (a5 rfl)).mono ?_
  rintro e w' ⟨v, rfl, hr, hb⟩
  obtain ⟨b1, b2⟩ := fin w' hb
  cases hF : c.F x with
  | none =>
    rw [hF] at hr
    exact ⟨v, rfl, _, H', g, hk1 hF, b1, b2, hr⟩
  | some ys =>
    rw [hF] at hr
    have hr' : (Ty.slice c.t).Rep w' (fun b => Stable H' g b ∨ w.heap.size ≤ b) ys [v] := hr
    refine ⟨v, rfl, _, H', g, hk2 ys hF, b1, b2, Ty.Rep.mono ⟨Nat.le_refl _, fun b hbl hok => ⟨?_, rfl⟩⟩ (.slice c.t) hr'⟩
    rcases hok with h1 | h1
    · exact h1
    · refine ⟨a1.okB b (.inl (Nat.le_trans a1.hB h1)), ?_⟩
      rintro ⟨i, en, q1, q2⟩
      have := (a1.ents i en q1).lt b q2
      omega

@[reducible] def NC.ci (c : NC) : CI := ⟨c.f, nilSpec c, false, true⟩
theorem NilOK.ci {c : NC} (h : NilOK P c) : c.ci.OK P := ⟨h.spec, fun h => (by cases h)⟩
@[reducible] def NC.below (c : NC) (m : ADen c.as → Nat) (n : Nat) : NC := ⟨c.f, c.as, c.t, fun x => c.Pre x ∧ m x < n, c.F⟩

theorem NC.rec_ok (c : NC) {fn : Func} (m : ADen c.as → Nat) (C : ADen c.as → Ctx) (hC : ∀ x, NilOK P (c.below m (m x)) → CtxOK P (C x)) (hf : P.funcs[c.f]? = some fn) (hn : (fn.name == "runtime.NumGoroutine") = false) (hb : fn.body.isNone = false)
    (h : ∀ x, c.Pre x → NilVC (C x) fn c x) : NilOK P c := by
  have key : ∀ n, NilOK P (c.below m n) := by
    intro n
    induction n with
    | zero => exact ⟨⟨fn, hf, hn, hb⟩, fun ok x vals w hx => absurd hx.2 (Nat.not_lt_zero _)⟩
    | succ n ih =>
      refine ⟨⟨fn, hf, hn, hb⟩, fun ok x vals w hx ha => ?_⟩
      have hlow : NilOK P (c.below m (m x)) := ⟨ih.1, fun ok y vals w hy ha => ih.2 ok y vals w ⟨hy.1, by have := hx.2; have := hy.2; omega⟩ ha⟩
      exact nil_at (c := c) (hC x hlow) hf (h x hx.1) ha
  exact ⟨⟨fn, hf, hn, hb⟩, fun ok x vals w hx ha => (key (m x + 1)).2 ok x vals w ⟨hx, Nat.lt_succ_self _⟩ ha⟩
end
attribute [irreducible] NilVC
end Go.SX
