/- SX, part N: contracts over plain data. -/
import Derived.Test.YtfbgbdiajghnbaaDoorSxM
namespace Go.SX
open Go Go.RowKit

/-- A parameter's or result's kind; is it an aggregate? -/
abbrev ATy := Bool × Ty

@[reducible] def ADen : List ATy → Type
  | [] => Unit
  | [a] => a.2.den
  | a :: b :: r => a.2.den × ADen (b :: r)

def VRep (w : World) (ok : Nat → Prop) (a : ATy) (x : a.2.den) (v : Value) : Prop :=
  if a.1 = true then ∃ cs : List Value, v = .agg cs.toArray ∧ a.2.Rep w ok x cs else a.2.Rep w ok x [v]

def ArgsR (w : World) (ok : Nat → Prop) : (as : List ATy) → ADen as → List Value → Prop
  | [], _, vs => vs = []
  | [a], x, vs => ∃ v, vs = [v] ∧ VRep w ok a x v
  | a :: b :: r, p, vs => ∃ v vr, vs = v :: vr ∧ VRep w ok a p.1 v ∧ ArgsR w ok (b :: r) p.2 vr

def ResR (w : World) (ok : Nat → Prop) : (rs : List ATy) → ADen rs → Value → Prop
  | [a], x, v => VRep w ok a x v
  | rs, x, v => ∃ vs : List Value, v = .tuple vs.toArray ∧ ArgsR w ok rs x vs

/-- A function over plain data: called where 'Pre' holds it returns 'F', and changes nothing that was there. -/
def PureOK (P : Program) (f : FuncId) (as rs : List ATy) (Pre : ADen as → Prop) (F : ADen as → ADen rs) : Prop :=
  (∃ fn, P.funcs[f]? = some fn ∧ (fn.name == "runtime.NumGoroutine") = false ∧ fn.body.isNone = false) ∧
  ∀ (ok : Nat → Prop) (x : ADen as) (vals : List Value) (w : World), Pre x → ArgsR w ok as x vals →
    Calls P f vals.toArray w fun e w' => ∃ v, e = .returned v ∧ ResR w' (fun b => ok b ∨ w.heap.size ≤ b) rs (F x) v ∧ Below w.heap.size w w'

def Ty.flat : Ty → Bool
  | .pair a b => a.flat && b.flat
  | .slice _ => false
  | _ => true

def argDat (lend : Bool) (a : ATy) (v : SV) (H : List Ent) (K : a.2.den → List Ent → Prop) : Prop :=
  match v with
  | .c x => bif a.1 then False else bif x.one then a.2.dat lend [x] H (fun y r H => match r with | [] => K y H | _ => False) else False
  | .agg l => bif a.1 then a.2.dat lend l H (fun y r H => match r with | [] => K y H | _ => False) else False
  | _ => False

def argsDat (lend : Bool) : (as : List ATy) → List SV → List Ent → (ADen as → List Ent → Prop) → Prop
  | [], l, H, K => match l with
    | [] => K () H
    | _ => False
  | [a], l, H, K => match l with
    | [v] => argDat lend a v H K
    | _ => False
  | a :: b :: r, l, H, K => match l with
    | v :: vs => argDat lend a v H fun x H => argsDat lend (b :: r) vs H fun y H => K (x, y) H
    | _ => False

def aSV (a : ATy) (x : a.2.den) : SV := mkV a.1 (a.2.scs x)

def argSVs : (as : List ATy) → ADen as → List SV
  | [], _ => []
  | [a], x => [aSV a x]
  | a :: b :: r, p => aSV a p.1 :: argSVs (b :: r) p.2

def resComps : (rs : List ATy) → ADen rs → List (Bool × List SC)
  | [], _ => []
  | [a], x => [(a.1, a.2.scs x)]
  | a :: b :: r, p => (a.1, a.2.scs p.1) :: resComps (b :: r) p.2

def resSV : (rs : List ATy) → ADen rs → SV
  | [a], x => aSV a x
  | rs, x => .tup (resComps rs x)

def pureSpec (as rs : List ATy) (Pre : ADen as → Prop) (F : ADen as → ADen rs) : Spec := fun args H K =>
  argsDat (rs.all fun r => r.2.flat) as args H fun x H => Pre x ∧ K (resSV rs (F x)) H

def compsDat : (rs : List ATy) → List (Bool × List SC) → List Ent → (ADen rs → Prop) → Prop
  | [], l, _, K => match l with
    | [] => K ()
    | _ => False
  | [a], l, H, K => match l with
    | [(g, cs)] => bif g == a.1 then a.2.dat false cs H (fun y r _ => match r with | [] => K y | _ => False) else False
    | _ => False
  | a :: b :: r, l, H, K => match l with
    | (g, cs) :: l => bif g == a.1 then a.2.dat false cs H (fun x q H => match q with | [] => compsDat (b :: r) l H fun y => K (x, y) | _ => False) else False
    | _ => False

def resDat : (rs : List ATy) → SV → List Ent → (ADen rs → Prop) → Prop
  | [a], v, H, K => argDat false a v H fun y _ => K y
  | rs, .tup l, H, K => compsDat rs l H K
  | _, _, _, _ => False

/-- What is to be shown of a function's body. -/
def PureVC (C : Ctx) (fn : Func) (as rs : List ATy) (F : ADen as → ADen rs) (x : ADen as) : Prop :=
  runBody C fn (argSVs as x) [] fun sv H => resDat rs sv H fun y => y = F x

section
variable {P : Program} {C : Ctx} {B : Nat} {X : Nat → Prop} {w0 w : World} {H : List Ent} {g : Gh}

theorem Ty.flat_rep {w' : World} {ok ok' : Nat → Prop} : (t : Ty) → t.flat = true → {x : t.den} → {cs : List Value} → t.Rep w ok x cs → t.Rep w' ok' x cs
  | .int _, _, _, _, h | .bool, _, _, _, h | .str, _, _, _, h => h
  | .pair a b, hf, _, _, ⟨c1, c2, e, h1, h2⟩ => by
    unfold Ty.flat at hf
    rw [Bool.and_eq_true] at hf
    exact ⟨c1, c2, e, Ty.flat_rep a hf.1 h1, Ty.flat_rep b hf.2 h2⟩
  | .slice _, hf, _, _, _ => by cases hf

theorem VRep.mono {w' : World} {ok ok' : Nat → Prop} {a : ATy} {x : a.2.den} {v : Value} (h : VRep w ok a x v) (hk : ∀ cs, a.2.Rep w ok x cs → a.2.Rep w' ok' x cs) : VRep w' ok' a x v := by
  unfold VRep at h ⊢
  split
  · rename_i h1; rw [if_pos h1] at h; obtain ⟨cs, e, h⟩ := h; exact ⟨cs, e, hk _ h⟩
  · rename_i h1; rw [if_neg h1] at h; exact hk _ h

theorem ArgsR.mono {w' : World} {ok ok' : Nat → Prop} (hk : Keeps w ok w' ok') : (as : List ATy) → {x : ADen as} → {vs : List Value} → ArgsR w ok as x vs → ArgsR w' ok' as x vs
  | [], _, _, h => h
  | [a], _, _, ⟨v, e, h⟩ => ⟨v, e, h.mono fun _ h => Ty.Rep.mono hk a.2 h⟩
  | a :: b :: r, _, _, ⟨v, vr, e, h1, h2⟩ => ⟨v, vr, e, h1.mono fun _ h => Ty.Rep.mono hk a.2 h, ArgsR.mono hk (b :: r) h2⟩

theorem aSV_rep {a : ATy} {x : a.2.den} {v : Value} (h : VRep w (Stable H g) a x v) : (aSV a x).Rep w H g v := by
  unfold VRep at h
  cases ha : a.1 with
  | true =>
    rw [ha] at h
    simp only [if_true] at h
    obtain ⟨cs, e, h⟩ := h
    unfold aSV
    rw [ha]
    exact mkV_rep (Ty.scs_rep a.2 h) (Ty.Rep.one a.2 h) (by simpa using e)
  | false =>
    rw [ha] at h
    simp only [Bool.false_eq_true, if_false] at h
    unfold aSV
    rw [ha]
    exact mkV_rep (Ty.scs_rep a.2 h) (Ty.Rep.one a.2 h) (by simp)

theorem argSVs_rep : (as : List ATy) → {x : ADen as} → {vs : List Value} → ArgsR w (Stable H g) as x vs → ArgsRep w H g (argSVs as x) vs
  | [], _, vs, h => by
    have e : vs = [] := h
    subst e
    exact ⟨rfl, fun j x v h1 _ => by simp [argSVs] at h1⟩
  | [a], x, vs, ⟨v, e, h⟩ => by
    subst e
    refine ⟨rfl, fun j y u h1 h2 => ?_⟩
    cases j with
    | zero => simp [argSVs] at h1 h2; subst h1; subst h2; exact aSV_rep h
    | succ j => simp [argSVs] at h1
  | a :: b :: r, p, vs, ⟨v, vr, e, h1, h2⟩ => by
    subst e
    have ih := argSVs_rep (b :: r) h2
    refine ⟨by simp [argSVs, ih.1], fun j y u q1 q2 => ?_⟩
    cases j with
    | zero => simp [argSVs] at q1 q2; subst q1; subst q2; exact aSV_rep h1
    | succ j => exact ih.2 j y u (by simpa [argSVs] using q1) (by simpa using q2)

theorem resComps_rep : (rs : List ATy) → {x : ADen rs} → {vs : List Value} → ArgsR w (Stable H g) rs x vs →
    vs.length = (resComps rs x).length ∧ ∀ (j : Nat) (p : Bool × List SC) (u : Value), (resComps rs x)[j]? = some p → vs[j]? = some u → CompRep w H g p u
  | [], _, vs, h => by
    have e : vs = [] := h
    subst e
    exact ⟨rfl, fun j x v h1 _ => by simp [resComps] at h1⟩
  | [a], x, vs, ⟨v, e, h⟩ => by
    subst e
    refine ⟨rfl, fun j y u h1 h2 => ?_⟩
    cases j with
    | zero => simp [resComps] at h1 h2; subst h1; subst h2; exact comp h
    | succ j => simp [resComps] at h1
  | a :: b :: r, p, vs, ⟨v, vr, e, h1, h2⟩ => by
    subst e
    have ih := resComps_rep (b :: r) h2
    refine ⟨by simp [resComps, ih.1], fun j y u q1 q2 => ?_⟩
    cases j with
    | zero => simp [resComps] at q1 q2; subst q1; subst q2; exact comp h1
    | succ j => exact ih.2 j y u (by simpa [resComps] using q1) (by simpa using q2)
where
  comp {a : ATy} {x : a.2.den} {v : Value} (h : VRep w (Stable H g) a x v) : CompRep w H g (a.1, a.2.scs x) v := by
    unfold VRep at h
    cases ha : a.1 with
    | true =>
      rw [ha] at h
      simp only [if_true] at h
      obtain ⟨cs, e, h⟩ := h
      exact ⟨cs, Ty.scs_rep a.2 h, Ty.Rep.one a.2 h, by simpa using e⟩
    | false =>
      rw [ha] at h
      simp only [Bool.false_eq_true, if_false] at h
      exact ⟨[v], Ty.scs_rep a.2 h, Ty.Rep.one a.2 h, by simp⟩

theorem resSV_rep : (rs : List ATy) → {x : ADen rs} → {v : Value} → ResR w (Stable H g) rs x v → (resSV rs x).Rep w H g v
  | [a], _, _, h => aSV_rep h
  | [], _, _, ⟨vs, e, h⟩ => ⟨vs, e, resComps_rep [] h⟩
  | a :: b :: r, _, _, ⟨vs, e, h⟩ => ⟨vs, e, resComps_rep (a :: b :: r) h⟩

theorem arg_sound (lend : Bool) {a : ATy} {v : SV} {u : Value} (hs : Sat B X w0 H g w) (hr : v.Rep w H g u) {K : a.2.den → List Ent → Prop} (h : argDat lend a v H K) :
    ∃ x H', Sat B X w0 H' g w ∧ Evo w H g w H' g ∧ (lend = true → H' = H) ∧ (lend = true → VRep w (fun _ => True) a x u) ∧ (lend = false → VRep w (Stable H' g) a x u) ∧ K x H' := by
  unfold argDat at h
  split at h
  · rename_i x
    cases ha : a.1 with
    | true => rw [ha] at h; exact h.elim
    | false =>
      rw [ha] at h
      simp only [cond_false] at h
      cases ho : x.one with
      | false => rw [ho] at h; exact h.elim
      | true =>
        rw [ho] at h
        simp only [cond_true] at h
        have hx : Reps w H g [x] [u] := ⟨rfl, fun j c v h1 h2 => by
          cases j with
          | zero => simp at h1 h2; subst h1; subst h2; exact hr
          | succ j => simp at h1⟩
        obtain ⟨y, cs, r, vr, H', a1, a2, a3, _, a4, a5, a6, a7, a8⟩ := dat_sound (ok := fun _ => True) lend a.2 hs hx h (fun _ _ => trivial)
        match r, a7, a8 with
        | [], a7, a8 =>
          have hvr : vr = [] := List.eq_nil_of_length_eq_zero a7.1
          subst hvr
          rw [List.append_nil] at a1
          subst a1
          refine ⟨y, H', a2, a3, a4, fun hl => ?_, fun hl => ?_, a8⟩
          · unfold VRep; rw [ha]; simpa using a5 hl
          · unfold VRep; rw [ha]; simpa using a6 hl
  · rename_i l
    cases ha : a.1 with
    | false => rw [ha] at h; exact h.elim
    | true =>
      rw [ha] at h
      simp only [cond_true] at h
      obtain ⟨vs, e, h1, h2⟩ := hr
      obtain ⟨y, cs, r, vr, H', a1, a2, a3, _, a4, a5, a6, a7, a8⟩ := dat_sound (ok := fun _ => True) lend a.2 hs h1 h (fun _ _ => trivial)
      match r, a7, a8 with
      | [], a7, a8 =>
        have hvr : vr = [] := List.eq_nil_of_length_eq_zero a7.1
        subst hvr
        rw [List.append_nil] at a1
        subst a1
        refine ⟨y, H', a2, a3, a4, fun hl => ?_, fun hl => ?_, a8⟩
        · unfold VRep; rw [ha]; simp only [if_true]; exact ⟨vs, e, a5 hl⟩
        · unfold VRep; rw [ha]; simp only [if_true]; exact ⟨vs, e, a6 hl⟩
  · exact h.elim

theorem args_sound (lend : Bool) : (as : List ATy) → {l : List SV} → {H : List Ent} → {vs : List Value} → Sat B X w0 H g w → ArgsRep w H g l vs → {K : ADen as → List Ent → Prop} → argsDat lend as l H K →
    ∃ x H', Sat B X w0 H' g w ∧ Evo w H g w H' g ∧ (lend = true → H' = H) ∧ (lend = true → ArgsR w (fun _ => True) as x vs) ∧ (lend = false → ArgsR w (Stable H' g) as x vs) ∧ K x H'
  | [], l, H, vs, hs, hr, K, h => by
    match l, hr, h with
    | [], hr, h =>
      have : vs = [] := List.eq_nil_of_length_eq_zero hr.1
      exact ⟨(), H, hs, Evo.refl _ _ _, fun _ => rfl, fun _ => this, fun _ => this, h⟩
  | [a], l, H, vs, hs, hr, K, h => by
    match l, vs, hr, h with
    | [v], [u], hr, h =>
      obtain ⟨x, H', a1, a2, a3, a4, a5, a6⟩ := arg_sound lend hs (hr.2 0 v u rfl rfl) h
      exact ⟨x, H', a1, a2, a3, fun hl => ⟨u, rfl, a4 hl⟩, fun hl => ⟨u, rfl, a5 hl⟩, a6⟩
    | [v], [], hr, _ => exact absurd hr.1 (by simp)
    | [v], _ :: _ :: _, hr, _ => exact absurd hr.1 (by simp)
  | a :: b :: r, l, H, vs, hs, hr, K, h => by
    match l, vs, hr, h with
    | v :: l, u :: vs, hr, h =>
      simp only [argsDat] at h
      obtain ⟨x, H1, a1, a2, a3, a4, a5, a6⟩ := arg_sound lend hs (hr.2 0 v u rfl rfl) h
      have hrest : ArgsRep w H1 g l vs := ⟨by simpa using hr.1, fun j y u h1 h2 => (hr.2 (j + 1) y u (by simpa using h1) (by simpa using h2)).evo a2⟩
      obtain ⟨y, H2, b1, b2, b3, b4, b5, b6⟩ := args_sound lend (b :: r) a1 hrest a6
      exact ⟨(x, y), H2, b1, a2.trans b2, fun hl => (b3 hl).trans (a3 hl), fun hl => ⟨u, vs, rfl, a4 hl, b4 hl⟩, fun hl => ⟨u, vs, rfl, (a5 hl).mono fun _ h => Ty.Rep.mono b2.keeps a.2 h, b5 hl⟩, b6⟩
    | _ :: _, [], hr, _ => exact absurd hr.1 (by simp)

theorem ResR.mono {w' : World} {ok ok' : Nat → Prop} (hk : Keeps w ok w' ok') : (rs : List ATy) → {x : ADen rs} → {v : Value} → ResR w ok rs x v → ResR w' ok' rs x v
  | [a], _, _, h => VRep.mono h fun _ h => Ty.Rep.mono hk a.2 h
  | [], _, _, ⟨vs, e, h⟩ => ⟨vs, e, ArgsR.mono hk [] h⟩
  | a :: b :: r, _, _, ⟨vs, e, h⟩ => ⟨vs, e, ArgsR.mono hk (a :: b :: r) h⟩

theorem ArgsR.flat {w' : World} {ok ok' : Nat → Prop} : (as : List ATy) → (as.all fun r => r.2.flat) = true → {x : ADen as} → {vs : List Value} → ArgsR w ok as x vs → ArgsR w' ok' as x vs
  | [], _, _, _, h => h
  | [a], hf, _, _, ⟨v, e, h⟩ => ⟨v, e, h.mono fun _ h => Ty.flat_rep a.2 (by simpa using hf) h⟩
  | a :: b :: r, hf, _, _, ⟨v, vr, e, h1, h2⟩ => by
    rw [List.all_cons, Bool.and_eq_true] at hf
    exact ⟨v, vr, e, h1.mono fun _ h => Ty.flat_rep a.2 hf.1 h, ArgsR.flat (b :: r) hf.2 h2⟩

theorem ResR.flat {w' : World} {ok ok' : Nat → Prop} : (rs : List ATy) → (rs.all fun r => r.2.flat) = true → {x : ADen rs} → {v : Value} → ResR w ok rs x v → ResR w' ok' rs x v
  | [a], hf, _, _, h => VRep.mono h fun _ h => Ty.flat_rep a.2 (by simpa using hf) h
  | [], hf, _, _, ⟨vs, e, h⟩ => ⟨vs, e, ArgsR.flat [] hf h⟩
  | a :: b :: r, hf, _, _, ⟨vs, e, h⟩ => ⟨vs, e, ArgsR.flat (a :: b :: r) hf h⟩

/-- A contract over plain data serves the executor at a call. -/
theorem PureOK.spec {f : FuncId} {as rs : List ATy} {Pre : ADen as → Prop} {F : ADen as → ADen rs} (h : PureOK P f as rs Pre F) : SpecOK P f (pureSpec as rs Pre F) := by
  refine ⟨h.1, fun B X w0 H g w args vals K hsp hs ha => ?_⟩
  unfold pureSpec at hsp
  obtain ⟨x, H', a1, a2, a3, a4, a5, hpre, hk⟩ := args_sound _ as hs ha hsp
  have fin : ∀ w', Below w.heap.size w w' → Sat B X w0 H' g w' ∧ Evo w H g w' H' g := fun w' hb => by
    obtain ⟨b1, b2⟩ := Sat.same (w1 := w') a1 hb.os hb.tape hb.output hb.size hb.block
    exact ⟨b1, a2.trans b2⟩
  cases hl : rs.all fun r => r.2.flat with
  | true =>
    refine (h.2 (fun _ => True) x vals w hpre (a4 hl)).mono ?_
    rintro e w' ⟨v, rfl, hr, hb⟩
    obtain ⟨b1, b2⟩ := fin w' hb
    exact ⟨v, rfl, _, H', g, hk, b1, b2, resSV_rep rs (ResR.flat rs hl hr)⟩
  | false =>
    refine (h.2 (Stable H' g) x vals w hpre (a5 hl)).mono ?_
    rintro e w' ⟨v, rfl, hr, hb⟩
    obtain ⟨b1, b2⟩ := fin w' hb
    refine ⟨v, rfl, _, H', g, hk, b1, b2, resSV_rep rs (ResR.mono ⟨Nat.le_refl _, fun b hbl hok => ⟨?_, rfl⟩⟩ rs hr)⟩
    rcases hok with h1 | h1
    · exact h1
    · refine ⟨a1.okB b (.inl (Nat.le_trans a1.hB h1)), ?_⟩
      rintro ⟨i, en, q1, q2⟩
      have := (a1.ents i en q1).lt b q2
      omega

/-- The same, and it changes nothing that was there. -/
theorem PureOK.keeps {f : FuncId} {as rs : List ATy} {Pre : ADen as → Prop} {F : ADen as → ADen rs} (h : PureOK P f as rs Pre F) : SpecKeeps P f (pureSpec as rs Pre F) := by
  intro B X w0 H g w args vals K hsp hs ha
  unfold pureSpec at hsp
  obtain ⟨x, H', a1, a2, a3, a4, a5, hpre, hk⟩ := args_sound _ as hs ha hsp
  have fin : ∀ w', Below w.heap.size w w' → Sat B X w0 H' g w' ∧ Evo w H g w' H' g := fun w' hb => by
    obtain ⟨b1, b2⟩ := Sat.same (w1 := w') a1 hb.os hb.tape hb.output hb.size hb.block
    exact ⟨b1, a2.trans b2⟩
  cases hl : rs.all fun r => r.2.flat with
  | true =>
    refine (h.2 (fun _ => True) x vals w hpre (a4 hl)).mono ?_
    rintro e w' ⟨v, rfl, hr, hb⟩
    obtain ⟨b1, b2⟩ := fin w' hb
    exact ⟨v, rfl, ⟨_, H', g, hk, b1, b2, resSV_rep rs (ResR.flat rs hl hr)⟩, ⟨hb.size, hb.block⟩⟩
  | false =>
    refine (h.2 (Stable H' g) x vals w hpre (a5 hl)).mono ?_
    rintro e w' ⟨v, rfl, hr, hb⟩
    obtain ⟨b1, b2⟩ := fin w' hb
    refine ⟨v, rfl, ⟨_, H', g, hk, b1, b2, resSV_rep rs (ResR.mono ⟨Nat.le_refl _, fun b hbl hok => ⟨?_, rfl⟩⟩ rs hr)⟩, ⟨hb.size, hb.block⟩⟩
    rcases hok with h1 | h1
    · exact h1
    · refine ⟨a1.okB b (.inl (Nat.le_trans a1.hB h1)), ?_⟩
      rintro ⟨i, en, q1, q2⟩
      have := (a1.ents i en q1).lt b q2
      omega

theorem comps_dat_sound : (rs : List ATy) → {l : List (Bool × List SC)} → {H : List Ent} → {vs : List Value} → Sat B X w0 H g w → vs.length = l.length →
    (∀ (j : Nat) (p : Bool × List SC) (u : Value), l[j]? = some p → vs[j]? = some u → CompRep w H g p u) → {K : ADen rs → Prop} → compsDat rs l H K → ∃ y, ArgsR w g.ok rs y vs ∧ K y
  | [], l, H, vs, hs, hl, hr, K, h => by
    match l, h with
    | [], h => exact ⟨(), List.eq_nil_of_length_eq_zero hl, h⟩
  | [a], l, H, vs, hs, hl, hr, K, h => by
    match l, vs, hl, hr, h with
    | [(b, cs)], [u], hl, hr, h =>
      simp only [compsDat] at h
      obtain ⟨us, q1, q2, q3⟩ := hr 0 _ u rfl rfl
      cases hb : (b == a.1) with
      | false => rw [hb] at h; exact h.elim
      | true =>
        rw [hb] at h
        have hba : b = a.1 := by simpa using hb
        simp only [cond_true] at h
        obtain ⟨y, c, r, vr, H', a1, a2, a3, _, a4, a5, a6, a7, a8⟩ := dat_sound (ok := fun _ => True) false a.2 hs q1 h (fun h => by cases h)
        match r, a7, a8 with
        | [], a7, a8 =>
          have hvr : vr = [] := List.eq_nil_of_length_eq_zero a7.1
          subst hvr
          rw [List.append_nil] at a1
          subst a1
          refine ⟨y, ⟨u, rfl, ?_⟩, a8⟩
          have hrep := Ty.Rep.mono (w' := w) (ok' := g.ok) ⟨Nat.le_refl _, fun b _ h => ⟨h.1, rfl⟩⟩ a.2 (a6 rfl)
          unfold VRep
          subst hba
          simp only at q3
          cases ha : a.1 with
          | true => rw [ha] at q3; simp only [if_true] at q3 ⊢; exact ⟨us, q3, hrep⟩
          | false => rw [ha] at q3; simp only [Bool.false_eq_true, if_false] at q3 ⊢; rw [q3] at hrep; exact hrep
    | [_], [], hl, _, _ => simp at hl
    | [_], _ :: _ :: _, hl, _, _ => simp at hl
  | a :: b :: r, l, H, vs, hs, hl, hr, K, h => by
    match l, vs, hl, hr, h with
    | (b1, cs) :: l, u :: vs, hl, hr, h =>
      simp only [compsDat] at h
      obtain ⟨us, q1, q2, q3⟩ := hr 0 _ u rfl rfl
      cases hb : (b1 == a.1) with
      | false => rw [hb] at h; exact h.elim
      | true =>
        rw [hb] at h
        have hba : b1 = a.1 := by simpa using hb
        simp only [cond_true] at h
        obtain ⟨y, c, q, vr, H', a1, a2, a3, _, a4, a5, a6, a7, a8⟩ := dat_sound (ok := fun _ => True) false a.2 hs q1 h (fun h => by cases h)
        match q, a7, a8 with
        | [], a7, a8 =>
          have hvr : vr = [] := List.eq_nil_of_length_eq_zero a7.1
          subst hvr
          rw [List.append_nil] at a1
          subst a1
          obtain ⟨z, c1, c2⟩ := comps_dat_sound (b :: r) a2 (by simpa using hl) (fun j p v h1 h2 => (hr (j + 1) p v (by simpa using h1) (by simpa using h2)).evo a3) a8
          refine ⟨(y, z), ⟨u, vs, rfl, ?_, c1⟩, c2⟩
          have hrep := Ty.Rep.mono (w' := w) (ok' := g.ok) ⟨Nat.le_refl _, fun b _ h => ⟨h.1, rfl⟩⟩ a.2 (a6 rfl)
          unfold VRep
          subst hba
          simp only at q3
          cases ha : a.1 with
          | true => rw [ha] at q3; simp only [if_true] at q3 ⊢; exact ⟨us, q3, hrep⟩
          | false => rw [ha] at q3; simp only [Bool.false_eq_true, if_false] at q3 ⊢; rw [q3] at hrep; exact hrep
    | _ :: _, [], hl, _, _ => simp at hl

theorem resDat_sound (hs : Sat B X w0 H g w) : (rs : List ATy) → {sv : SV} → {v : Value} → sv.Rep w H g v → {K : ADen rs → Prop} → resDat rs sv H K → ∃ y, ResR w g.ok rs y v ∧ K y
  | [a], sv, v, hr, K, h => by
    obtain ⟨x, H', a1, a2, _, _, a5, a6⟩ := arg_sound false hs hr h
    exact ⟨x, (a5 rfl).mono fun _ h => Ty.Rep.mono ⟨Nat.le_refl _, fun b _ h => ⟨h.1, rfl⟩⟩ a.2 h, a6⟩
  | [], sv, v, hr, K, h => by
    match sv, hr, h with
    | .tup l, ⟨vs, e, hl, hr⟩, h =>
      obtain ⟨y, h1, h2⟩ := comps_dat_sound [] hs hl hr h
      exact ⟨y, ⟨vs, e, h1⟩, h2⟩
  | a :: b :: r, sv, v, hr, K, h => by
    match sv, hr, h with
    | .tup l, ⟨vs, e, hl, hr⟩, h =>
      obtain ⟨y, h1, h2⟩ := comps_dat_sound (a :: b :: r) hs hl hr h
      exact ⟨y, ⟨vs, e, h1⟩, h2⟩

/-- A contract over plain data, from the executor's run of the body. -/
theorem pure_of_vc {f : FuncId} {fn : Func} {as rs : List ATy} (C : ADen as → Ctx) (hC : ∀ x, CtxOK P (C x)) (hf : P.funcs[f]? = some fn) (hn : (fn.name == "runtime.NumGoroutine") = false) (hb : fn.body.isNone = false)
    {Pre : ADen as → Prop} {F : ADen as → ADen rs} (h : ∀ x, Pre x → PureVC (C x) fn as rs F x) : PureOK P f as rs Pre F := by
  refine ⟨⟨fn, hf, hn, hb⟩, fun ok x vals w hpre ha => ?_⟩
  let g : Gh := ⟨fun _ => 0, fun _ => undef, fun b => ok b ∨ w.heap.size ≤ b⟩
  have hs : Sat w.heap.size (fun _ => False) w [] g w :=
    ⟨rfl, rfl, rfl, Nat.le_refl _, Nat.le_refl _, fun b hb => .inr (hb.elim id False.elim), fun _ _ _ => rfl, fun i e h => by simp at h, fun i j e f b h => by simp at h⟩
  have hargs : ArgsRep w [] g (argSVs as x) vals := argSVs_rep as (ArgsR.mono ⟨Nat.le_refl _, fun b _ h => ⟨⟨.inl h, by rintro ⟨i, e, h, _⟩; simp at h⟩, rfl⟩⟩ as ha)
  refine (body_calls (hC x) hf (h x hpre) hs hargs).mono ?_
  rintro e w' ⟨v, rfl, sv, H', g', hk, hs', hev, hr⟩
  obtain ⟨y, h1, rfl⟩ := resDat_sound hs' rs hr hk
  refine ⟨v, rfl, ?_, ⟨hs'.os, hs'.tape, hs'.output, hs'.size0, fun b hb => hs'.old b hb id⟩⟩
  rw [hev.ok] at h1
  exact h1

/-- The same, the function being entered at a call in its text. -/
theorem runBody_spec (hC : CtxOK P C) {f : FuncId} {fn : Func} (hf : P.funcs[f]? = some fn) (hn : (fn.name == "runtime.NumGoroutine") = false) (hb : fn.body.isNone = false) : SpecOK P f (runBody C fn) :=
  ⟨⟨fn, hf, hn, hb⟩, fun _ _ _ _ _ _ _ _ _ h hs ha => body_calls hC hf h hs ha⟩

end
attribute [irreducible] PureVC

end Go.SX
