/- Parts of the proof, one after the other: SxN SxO SxP SxQ SxR SxS SxT. -/
import Derived.Test.YtijabifakficeaaDoorM3
import Derived.Deep.Slices
import Derived.OpenShut
import Derived.ChangeOld
import Derived.Carry
/- SX, part N: contracts over plain data. -/
namespace Go.SX
open Go Go.RowKit
abbrev ATy := Bool × Ty
@[reducible] def ADen : List ATy → Type
  | [] => Unit
  | [a] => a.2.den
  | a :: b :: r => a.2.den × ADen (b :: r)
def VRep (w : World) (ok : Nat → Prop) (a : ATy) (x : a.2.den) (v : Value) : Prop :=
  if a.1 = true then ∃ cs : List Value, v = .agg cs.toArray ∧ a.2.Rep w ok x cs else a.2.Rep w ok x [v]
def ArgsR (w : World) (ok : Nat → Prop) : (as : List ATy) → ADen as → List Value → Prop
  | [], _, vs => vs = []
  | [a], x, vs => ∃ v, vs = [v] ∧ VRep w ok a x v
  | a :: b :: r, p, vs => ∃ v vr, vs = v :: vr ∧ VRep w ok a p.1 v ∧ ArgsR w ok (b :: r) p.2 vr
def ResR (w : World) (ok : Nat → Prop) : (rs : List ATy) → ADen rs → Value → Prop
  | [a], x, v => VRep w ok a x v
  | rs, x, v => ∃ vs : List Value, v = .tuple vs.toArray ∧ ArgsR w ok rs x vs
def PureOK (P : Program) (f : FuncId) (as rs : List ATy) (Pre : ADen as → Prop) (F : ADen as → ADen rs) : Prop :=
  (∃ fn, P.funcs[f]? = some fn ∧ (fn.name == "runtime.NumGoroutine") = false ∧ fn.body.isNone = false) ∧
  ∀ (ok : Nat → Prop) (x : ADen as) (vals : List Value) (w : World), Pre x → ArgsR w ok as x vals →
    Calls P f vals.toArray w fun e w' => ∃ v, e = .returned v ∧ ResR w' (fun b => ok b ∨ w.heap.size ≤ b) rs (F x) v ∧ Below w.heap.size w w'
def Ty.flat : Ty → Bool
  | .pair a b => a.flat && b.flat
  | .slice _ => false
  | .arr _ t => t.flat
  | _ => true
def argDat (lend : Bool) (a : ATy) (v : SV) (H : List Ent) (K : a.2.den → List Ent → Prop) : Prop :=
  match v with
  | .c x => bif a.1 then False else bif x.one then a.2.dat lend [x] H (fun y r H => match r with | [] => K y H | _ => False) else False
  | .agg l => bif a.1 then a.2.dat lend l H (fun y r H => match r with | [] => K y H | _ => False) else False
  | _ => False
def argsDat (lend : Bool) : (as : List ATy) → List SV → List Ent → (ADen as → List Ent → Prop) → Prop
  | [], l, H, K => match l with
    | [] => K () H
    | _ => False
  | [a], l, H, K => match l with
    | [v] => argDat lend a v H K
    | _ => False
  | a :: b :: r, l, H, K => match l with
    | v :: vs => argDat lend a v H fun x H => argsDat lend (b :: r) vs H fun y H => K (x, y) H
    | _ => False
def aSV (a : ATy) (x : a.2.den) : SV := mkV a.1 (a.2.scs x)
def argSVs : (as : List ATy) → ADen as → List SV
  | [], _ => []
  | [a], x => [aSV a x]
  | a :: b :: r, p => aSV a p.1 :: argSVs (b :: r) p.2
def resComps : (rs : List ATy) → ADen rs → List (Bool × List SC)
  | [], _ => []
  | [a], x => [(a.1, a.2.scs x)]
  | a :: b :: r, p => (a.1, a.2.scs p.1) :: resComps (b :: r) p.2
def resSV : (rs : List ATy) → ADen rs → SV
  | [a], x => aSV a x
  | rs, x => .tup (resComps rs x)
def pureSpec (as rs : List ATy) (Pre : ADen as → Prop) (F : ADen as → ADen rs) : Spec := fun args H K =>
  argsDat (rs.all fun r => r.2.flat) as args H fun x H => Pre x ∧ K (resSV rs (F x)) H
def compsDat : (rs : List ATy) → List (Bool × List SC) → List Ent → (ADen rs → Prop) → Prop
  | [], l, _, K => match l with
    | [] => K ()
    | _ => False
  | [a], l, H, K => match l with
    | [(g, cs)] => bif g == a.1 then a.2.dat false cs H (fun y r _ => match r with | [] => K y | _ => False) else False
    | _ => False
  | a :: b :: r, l, H, K => match l with
    | (g, cs) :: l => bif g == a.1 then a.2.dat false cs H (fun x q H => match q with | [] => compsDat (b :: r) l H fun y => K (x, y) | _ => False) else False
    | _ => False
def resDat : (rs : List ATy) → SV → List Ent → (ADen rs → Prop) → Prop
  | [a], v, H, K => argDat false a v H fun y _ => K y
  | rs, .tup l, H, K => compsDat rs l H K
  | _, _, _, _ => False
def PureVC (C : Ctx) (fn : Func) (as rs : List ATy) (F : ADen as → ADen rs) (x : ADen as) : Prop :=
  runBody C fn (argSVs as x) [] fun sv H => resDat rs sv H fun y => y = F x
section
variable {P : Program} {C : Ctx} {B : Nat} {X : Nat → Prop} {w0 w : World} {H : List Ent} {g : Gh}
theorem Ty.flat_rep {w' : World} {ok ok' : Nat → Prop} : (t : Ty) → t.flat = true → {x : t.den} → {cs : List Value} → t.Rep w ok x cs → t.Rep w' ok' x cs
  | .int _, _, _, _, h | .bool, _, _, _, h | .str, _, _, _, h => h
  | .pair a b, hf, _, _, ⟨c1, c2, e, h1, h2⟩ => by
    unfold Ty.flat at hf
    rw [Bool.and_eq_true] at hf
    exact ⟨c1, c2, e, Ty.flat_rep a hf.1 h1, Ty.flat_rep b hf.2 h2⟩
  | .slice _, hf, _, _, _ => by cases hf
  | .arr _ t, hf, _, _, ⟨h1, h2, h3⟩ => ⟨h1, h2, h3.mono (fun _ _ h => Ty.flat_rep t hf h) fun _ _ h => h⟩
theorem VRep.mono {w' : World} {ok ok' : Nat → Prop} {a : ATy} {x : a.2.den} {v : Value} (h : VRep w ok a x v) (hk : ∀ cs, a.2.Rep w ok x cs → a.2.Rep w' ok' x cs) : VRep w' ok' a x v := by
  unfold VRep at h ⊢
  split
  · rename_i h1; rw [if_pos h1] at h; obtain ⟨cs, e, h⟩ := h; exact ⟨cs, e, hk _ h⟩
  · rename_i h1; rw [if_neg h1] at h; exact hk _ h
theorem ArgsR.mono {w' : World} {ok ok' : Nat → Prop} (hk : Keeps w ok w' ok') : (as : List ATy) → {x : ADen as} → {vs : List Value} → ArgsR w ok as x vs → ArgsR w' ok' as x vs
  | [], _, _, h => h
  | [a], _, _, ⟨v, e, h⟩ => ⟨v, e, h.mono fun _ h => Ty.Rep.mono hk a.2 h⟩
  | a :: b :: r, _, _, ⟨v, vr, e, h1, h2⟩ => ⟨v, vr, e, h1.mono fun _ h => Ty.Rep.mono hk a.2 h, ArgsR.mono hk (b :: r) h2⟩
theorem aSV_rep {a : ATy} {x : a.2.den} {v : Value} (h : VRep w (Stable H g) a x v) : (aSV a x).Rep w H g v := by
  unfold VRep at h
  cases ha : a.1 with
  | true =>
    rw [ha] at h
    simp only [if_true] at h
    obtain ⟨cs, e, h⟩ := h
    unfold aSV
    rw [ha]
    exact mkV_rep (Ty.scs_rep a.2 h) (Ty.Rep.one a.2 h) (by simpa using e)
  | false =>
    rw [ha] at h
    simp only [Bool.false_eq_true, if_false] at h
    unfold aSV
    rw [ha]
    exact mkV_rep (Ty.scs_rep a.2 h) (Ty.Rep.one a.2 h) (by simp)
theorem argSVs_rep : (as : List ATy) → {x : ADen as} → {vs : List Value} → ArgsR w (Stable H g) as x vs → ArgsRep w H g (argSVs as x) vs
  | [], _, vs, h => by
    have e : vs = [] := h
    subst e
    exact ⟨rfl, fun j x v h1 _ => by simp [argSVs] at h1⟩
  | [a], x, vs, ⟨v, e, h⟩ => by
    subst e
    refine ⟨rfl, fun j y u h1 h2 => ?_⟩
    cases j with
    | zero => simp [argSVs] at h1 h2; subst h1; subst h2; exact aSV_rep h
    | succ j => simp [argSVs] at h1
  | a :: b :: r, p, vs, ⟨v, vr, e, h1, h2⟩ => by
    subst e
    have ih := argSVs_rep (b :: r) h2
    refine ⟨by simp [argSVs, ih.1], fun j y u q1 q2 => ?_⟩
    cases j with
    | zero => simp [argSVs] at q1 q2; subst q1; subst q2; exact aSV_rep h1
    | succ j => exact ih.2 j y u (by simpa [argSVs] using q1) (by simpa using q2)
theorem resComps_rep : (rs : List ATy) → {x : ADen rs} → {vs : List Value} → ArgsR w (Stable H g) rs x vs →
    vs.length = (resComps rs x).length ∧ ∀ (j : Nat) (p : Bool × List SC) (u : Value), (resComps rs x)[j]? = some p → vs[j]? = some u → CompRep w H g p u
  | [], _, vs, h => by
    have e : vs = [] := h
    subst e
    exact ⟨rfl, fun j x v h1 _ => by simp [resComps] at h1⟩
  | [a], x, vs, ⟨v, e, h⟩ => by
    subst e
    refine ⟨rfl, fun j y u h1 h2 => ?_⟩
    cases j with
    | zero => simp [resComps] at h1 h2; subst h1; subst h2; exact comp h
    | succ j => simp [resComps] at h1
  | a :: b :: r, p, vs, ⟨v, vr, e, h1, h2⟩ => by
    subst e
    have ih := resComps_rep (b :: r) h2
    refine ⟨by simp [resComps, ih.1], fun j y u q1 q2 => ?_⟩
    cases j with
    | zero => simp [resComps] at q1 q2; subst q1; subst q2; exact comp h1
    | succ j => exact ih.2 j y u (by simpa [resComps] using q1) (by simpa using q2)
where
  comp {a : ATy} {x : a.2.den} {v : Value} (h : VRep w (Stable H g) a x v) : CompRep w H g (a.1, a.2.scs x) v := by
    unfold VRep at h
    cases ha : a.1 with
    | true =>
      rw [ha] at h
      simp only [if_true] at h
      obtain ⟨cs, e, h⟩ := h
      exact ⟨cs, Ty.scs_rep a.2 h, Ty.Rep.one a.2 h, by simpa using e⟩
    | false =>
      rw [ha] at h
      simp only [Bool.false_eq_true, if_false] at h
      exact ⟨[v], Ty.scs_rep a.2 h, Ty.Rep.one a.2 h, by simp⟩
theorem resSV_rep : (rs : List ATy) → {x : ADen rs} → {v : Value} → ResR w (Stable H g) rs x v → (resSV rs x).Rep w H g v
  | [_a], _, _, h => aSV_rep h
  | [], _, _, ⟨vs, e, h⟩ => ⟨vs, e, resComps_rep [] h⟩
  | a :: b :: r, _, _, ⟨vs, e, h⟩ => ⟨vs, e, resComps_rep (a :: b :: r) h⟩
theorem arg_sound (lend : Bool) {a : ATy} {v : SV} {u : Value} (hs : Sat B X w0 H g w) (hr : v.Rep w H g u) {K : a.2.den → List Ent → Prop} (h : argDat lend a v H K) :
    ∃ x H', Sat B X w0 H' g w ∧ Evo w H g w H' g ∧ (lend = true → H' = H) ∧ (lend = true → VRep w (fun _ => True) a x u) ∧ (lend = false → VRep w (Stable H' g) a x u) ∧ K x H' := by
  unfold argDat at h
  split at h
  · rename_i x
    cases ha : a.1 with
    | true => rw [ha] at h; exact h.elim
    | false =>
      rw [ha] at h
      simp only [cond_false] at h
      cases ho : x.one with
      | false => rw [ho] at h; exact h.elim
      | true =>
        rw [ho] at h
        simp only [cond_true] at h
        have hx : Reps w H g [x] [u] := ⟨rfl, fun j c v h1 h2 => by
          cases j with
          | zero => simp at h1 h2; subst h1; subst h2; exact hr
          | succ j => simp at h1⟩
        obtain ⟨y, cs, r, vr, H', a1, a2, a3, _, a4, a5, a6, a7, a8⟩ := dat_sound (ok := fun _ => True) lend a.2 hs hx h (fun _ _ => trivial)
        match r, a7, a8 with
        | [], a7, a8 =>
          have hvr : vr = [] := List.eq_nil_of_length_eq_zero a7.1
          subst hvr
          rw [List.append_nil] at a1
          subst a1
          refine ⟨y, H', a2, a3, a4, fun hl => ?_, fun hl => ?_, a8⟩
          · unfold VRep; rw [ha]; simpa using a5 hl
          · unfold VRep; rw [ha]; simpa using a6 hl
  · rename_i l
    cases ha : a.1 with
    | false => rw [ha] at h; exact h.elim
    | true =>
      rw [ha] at h
      simp only [cond_true] at h
      obtain ⟨vs, e, h1, h2⟩ := hr
      obtain ⟨y, cs, r, vr, H', a1, a2, a3, _, a4, a5, a6, a7, a8⟩ := dat_sound (ok := fun _ => True) lend a.2 hs h1 h (fun _ _ => trivial)
      match r, a7, a8 with
      | [], a7, a8 =>
        have hvr : vr = [] := List.eq_nil_of_length_eq_zero a7.1
        subst hvr
        rw [List.append_nil] at a1
        subst a1
        refine ⟨y, H', a2, a3, a4, fun hl => ?_, fun hl => ?_, a8⟩
        · unfold VRep; rw [ha]; simp only [if_true]; exact ⟨vs, e, a5 hl⟩
        · unfold VRep; rw [ha]; simp only [if_true]; exact ⟨vs, e, a6 hl⟩
  · exact h.elim
theorem args_sound (lend : Bool) : (as : List ATy) → {l : List SV} → {H : List Ent} → {vs : List Value} → Sat B X w0 H g w → ArgsRep w H g l vs → {K : ADen as → List Ent → Prop} → argsDat lend as l H K →
    ∃ x H', Sat B X w0 H' g w ∧ Evo w H g w H' g ∧ (lend = true → H' = H) ∧ (lend = true → ArgsR w (fun _ => True) as x vs) ∧ (lend = false → ArgsR w (Stable H' g) as x vs) ∧ K x H'
  | [], l, H, vs, hs, hr, K, h => by
    match l, hr, h with
    | [], hr, h =>
      have : vs = [] := List.eq_nil_of_length_eq_zero hr.1
      exact ⟨(), H, hs, Evo.refl _ _ _, fun _ => rfl, fun _ => this, fun _ => this, h⟩
  | [a], l, H, vs, hs, hr, K, h => by
    match l, vs, hr, h with
    | [v], [u], hr, h =>
      obtain ⟨x, H', a1, a2, a3, a4, a5, a6⟩ := arg_sound lend hs (hr.2 0 v u rfl rfl) h
      exact ⟨x, H', a1, a2, a3, fun hl => ⟨u, rfl, a4 hl⟩, fun hl => ⟨u, rfl, a5 hl⟩, a6⟩
    | [v], [], hr, _ => exact absurd hr.1 (by simp)
    | [v], _ :: _ :: _, hr, _ => exact absurd hr.1 (by simp)
  | a :: b :: r, l, H, vs, hs, hr, K, h => by
    match l, vs, hr, h with
    | v :: l, u :: vs, hr, h =>
      simp only [argsDat] at h
      obtain ⟨x, H1, a1, a2, a3, a4, a5, a6⟩ := arg_sound lend hs (hr.2 0 v u rfl rfl) h
      have hrest : ArgsRep w H1 g l vs := ⟨by simpa using hr.1, fun j y u h1 h2 => (hr.2 (j + 1) y u (by simpa using h1) (by simpa using h2)).evo a2⟩
      obtain ⟨y, H2, b1, b2, b3, b4, b5, b6⟩ := args_sound lend (b :: r) a1 hrest a6
      exact ⟨(x, y), H2, b1, a2.trans b2, fun hl => (b3 hl).trans (a3 hl), fun hl => ⟨u, vs, rfl, a4 hl, b4 hl⟩, fun hl => ⟨u, vs, rfl, (a5 hl).mono fun _ h => Ty.Rep.mono b2.keeps a.2 h, b5 hl⟩, b6⟩
    | _ :: _, [], hr, _ => exact absurd hr.1 (by simp)
theorem ResR.mono {w' : World} {ok ok' : Nat → Prop} (hk : Keeps w ok w' ok') : (rs : List ATy) → {x : ADen rs} → {v : Value} → ResR w ok rs x v → ResR w' ok' rs x v
  | [a], _, _, h => VRep.mono h fun _ h => Ty.Rep.mono hk a.2 h
  | [], _, _, ⟨vs, e, h⟩ => ⟨vs, e, ArgsR.mono hk [] h⟩
  | a :: b :: r, _, _, ⟨vs, e, h⟩ => ⟨vs, e, ArgsR.mono hk (a :: b :: r) h⟩
theorem ArgsR.flat {w' : World} {ok ok' : Nat → Prop} : (as : List ATy) → (as.all fun r => r.2.flat) = true → {x : ADen as} → {vs : List Value} → ArgsR w ok as x vs → ArgsR w' ok' as x vs
  | [], _, _, _, h => h
  | [a], hf, _, _, ⟨v, e, h⟩ => ⟨v, e, h.mono fun _ h => Ty.flat_rep a.2 (by simpa using hf) h⟩
  | a :: b :: r, hf, _, _, ⟨v, vr, e, h1, h2⟩ => by
    rw [List.all_cons, Bool.and_eq_true] at hf
    exact ⟨v, vr, e, h1.mono fun _ h => Ty.flat_rep a.2 hf.1 h, ArgsR.flat (b :: r) hf.2 h2⟩
theorem ResR.flat {w' : World} {ok ok' : Nat → Prop} : (rs : List ATy) → (rs.all fun r => r.2.flat) = true → {x : ADen rs} → {v : Value} → ResR w ok rs x v → ResR w' ok' rs x v
  | [a], hf, _, _, h => VRep.mono h fun _ h => Ty.flat_rep a.2 (by simpa using hf) h
  | [], hf, _, _, ⟨vs, e, h⟩ => ⟨vs, e, ArgsR.flat [] hf h⟩
  | a :: b :: r, hf, _, _, ⟨vs, e, h⟩ => ⟨vs, e, ArgsR.flat (a :: b :: r) hf h⟩
theorem PureOK.spec {f : FuncId} {as rs : List ATy} {Pre : ADen as → Prop} {F : ADen as → ADen rs} (h : PureOK P f as rs Pre F) : SpecOK P f (pureSpec as rs Pre F) := by
  refine ⟨h.1, fun B X w0 H g w args vals K hsp hs ha => ?_⟩
  unfold pureSpec at hsp
  obtain ⟨x, H', a1, a2, a3, a4, a5, hpre, hk⟩ := args_sound _ as hs ha hsp
  have fin : ∀ w', Below w.heap.size w w' → Sat B X w0 H' g w' ∧ Evo w H g w' H' g := fun w' hb => by
    obtain ⟨b1, b2⟩ := Sat.same (w1 := w') a1 hb.os hb.tape hb.output hb.size hb.block
    exact ⟨b1, a2.trans b2⟩
  cases hl : rs.all fun r => r.2.flat with
  | true =>
    refine (h.2 (fun _ => True) x vals w hpre (a4 hl)).mono ?_
    rintro e w' ⟨v, rfl, hr, hb⟩
    obtain ⟨b1, b2⟩ := fin w' hb
    exact ⟨v, rfl, _, H', g, hk, b1, b2, resSV_rep rs (ResR.flat rs hl hr)⟩
  | false =>
    refine (h.2 (Stable H' g) x vals w hpre (a5 hl)).mono ?_
    rintro e w' ⟨v, rfl, hr, hb⟩
    obtain ⟨b1, b2⟩ := fin w' hb
    refine ⟨v, rfl, _, H', g, hk, b1, b2, resSV_rep rs (ResR.mono ⟨Nat.le_refl _, fun b hbl hok => ⟨?_, rfl⟩⟩ rs hr)⟩
    rcases hok with h1 | h1
    · exact h1
    · refine ⟨a1.okB b (.inl (Nat.le_trans a1.hB h1)), ?_⟩
      rintro ⟨i, en, q1, q2⟩
      have := (a1.ents i en q1).lt b q2
      omega
theorem PureOK.keeps {f : FuncId} {as rs : List ATy} {Pre : ADen as → Prop} {F : ADen as → ADen rs} (h : PureOK P f as rs Pre F) : SpecKeeps P f (pureSpec as rs Pre F) := by
  intro B X w0 H g w args vals K hsp hs ha
  unfold pureSpec at hsp
  obtain ⟨x, H', a1, a2, a3, a4, a5, hpre, hk⟩ := args_sound _ as hs ha hsp
  have fin : ∀ w', Below w.heap.size w w' → Sat B X w0 H' g w' ∧ Evo w H g w' H' g := fun w' hb => by
    obtain ⟨b1, b2⟩ := Sat.same (w1 := w') a1 hb.os hb.tape hb.output hb.size hb.block
    exact ⟨b1, a2.trans b2⟩
  cases hl : rs.all fun r => r.2.flat with
  | true =>
    refine (h.2 (fun _ => True) x vals w hpre (a4 hl)).mono ?_
    rintro e w' ⟨v, rfl, hr, hb⟩
    obtain ⟨b1, b2⟩ := fin w' hb
    exact ⟨v, rfl, ⟨_, H', g, hk, b1, b2, resSV_rep rs (ResR.flat rs hl hr)⟩, ⟨hb.size, hb.block⟩⟩
  | false =>
    refine (h.2 (Stable H' g) x vals w hpre (a5 hl)).mono ?_
    rintro e w' ⟨v, rfl, hr, hb⟩
    obtain ⟨b1, b2⟩ := fin w' hb
    refine ⟨v, rfl, ⟨_, H', g, hk, b1, b2, resSV_rep rs (ResR.mono ⟨Nat.le_refl _, fun b hbl hok => ⟨?_, rfl⟩⟩ rs hr)⟩, ⟨hb.size, hb.block⟩⟩
    rcases hok with h1 | h1
    · exact h1
    · refine ⟨a1.okB b (.inl (Nat.le_trans a1.hB h1)), ?_⟩
      rintro ⟨i, en, q1, q2⟩
      have := (a1.ents i en q1).lt b q2
      omega
theorem comps_dat_sound : (rs : List ATy) → {l : List (Bool × List SC)} → {H : List Ent} → {vs : List Value} → Sat B X w0 H g w → vs.length = l.length →
    (∀ (j : Nat) (p : Bool × List SC) (u : Value), l[j]? = some p → vs[j]? = some u → CompRep w H g p u) → {K : ADen rs → Prop} → compsDat rs l H K → ∃ y, ArgsR w g.ok rs y vs ∧ K y
  | [], l, H, vs, hs, hl, hr, K, h => by
    match l, h with
    | [], h => exact ⟨(), List.eq_nil_of_length_eq_zero hl, h⟩
  | [a], l, H, vs, hs, hl, hr, K, h => by
    match l, vs, hl, hr, h with
    | [(b, cs)], [u], hl, hr, h =>
      simp only [compsDat] at h
      obtain ⟨us, q1, q2, q3⟩ := hr 0 _ u rfl rfl
      cases hb : (b == a.1) with
      | false => rw [hb] at h; exact h.elim
      | true =>
        rw [hb] at h
        have hba : b = a.1 := by simpa using hb
        simp only [cond_true] at h
        obtain ⟨y, c, r, vr, H', a1, a2, a3, _, a4, a5, a6, a7, a8⟩ := dat_sound (ok := fun _ => True) false a.2 hs q1 h (fun h => by cases h)
        match r, a7, a8 with
        | [], a7, a8 =>
          have hvr : vr = [] := List.eq_nil_of_length_eq_zero a7.1
          subst hvr
          rw [List.append_nil] at a1
          subst a1
          refine ⟨y, ⟨u, rfl, ?_⟩, a8⟩
          have hrep := Ty.Rep.mono (w' := w) (ok' := g.ok) ⟨Nat.le_refl _, fun b _ h => ⟨h.1, rfl⟩⟩ a.2 (a6 rfl)
          unfold VRep
          subst hba
          simp only at q3
          cases ha : a.1 with
          | true => rw [ha] at q3; simp only [if_true] at q3 ⊢; exact ⟨us, q3, hrep⟩
          | false => rw [ha] at q3; simp only [Bool.false_eq_true, if_false] at q3 ⊢; rw [q3] at hrep; exact hrep
    | [_], [], hl, _, _ => simp at hl
    | [_], _ :: _ :: _, hl, _, _ => simp at hl
  | a :: b :: r, l, H, vs, hs, hl, hr, K, h => by
    match l, vs, hl, hr, h with
    | (b1, cs) :: l, u :: vs, hl, hr, h =>
      simp only [compsDat] at h
      obtain ⟨us, q1, q2, q3⟩ := hr 0 _ u rfl rfl
      cases hb : (b1 == a.1) with
      | false => rw [hb] at h; exact h.elim
      | true =>
        rw [hb] at h
        have hba : b1 = a.1 := by simpa using hb
        simp only [cond_true] at h
        obtain ⟨y, c, q, vr, H', a1, a2, a3, _, a4, a5, a6, a7, a8⟩ := dat_sound (ok := fun _ => True) false a.2 hs q1 h (fun h => by cases h)
        match q, a7, a8 with
        | [], a7, a8 =>
          have hvr : vr = [] := List.eq_nil_of_length_eq_zero a7.1
          subst hvr
          rw [List.append_nil] at a1
          subst a1
          obtain ⟨z, c1, c2⟩ := comps_dat_sound (b :: r) a2 (by simpa using hl) (fun j p v h1 h2 => (hr (j + 1) p v (by simpa using h1) (by simpa using h2)).evo a3) a8
          refine ⟨(y, z), ⟨u, vs, rfl, ?_, c1⟩, c2⟩
          have hrep := Ty.Rep.mono (w' := w) (ok' := g.ok) ⟨Nat.le_refl _, fun b _ h => ⟨h.1, rfl⟩⟩ a.2 (a6 rfl)
          unfold VRep
          subst hba
          simp only at q3
          cases ha : a.1 with
          | true => rw [ha] at q3; simp only [if_true] at q3 ⊢; exact ⟨us, q3, hrep⟩
          | false => rw [ha] at q3; simp only [Bool.false_eq_true, if_false] at q3 ⊢; rw [q3] at hrep; exact hrep
    | _ :: _, [], hl, _, _ => simp at hl
theorem resDat_sound (hs : Sat B X w0 H g w) : (rs : List ATy) → {sv : SV} → {v : Value} → sv.Rep w H g v → {K : ADen rs → Prop} → resDat rs sv H K → ∃ y, ResR w g.ok rs y v ∧ K y
  | [a], sv, v, hr, K, h => by
    obtain ⟨x, H', a1, a2, _, _, a5, a6⟩ := arg_sound false hs hr h
    exact ⟨x, (a5 rfl).mono fun _ h => Ty.Rep.mono ⟨Nat.le_refl _, fun b _ h => ⟨h.1, rfl⟩⟩ a.2 h, a6⟩
  | [], sv, v, hr, K, h => by
    match sv, hr, h with
    | .tup l, ⟨vs, e, hl, hr⟩, h =>
      obtain ⟨y, h1, h2⟩ := comps_dat_sound [] hs hl hr h
      exact ⟨y, ⟨vs, e, h1⟩, h2⟩
  | a :: b :: r, sv, v, hr, K, h => by
    match sv, hr, h with
    | .tup l, ⟨vs, e, hl, hr⟩, h =>
      obtain ⟨y, h1, h2⟩ := comps_dat_sound (a :: b :: r) hs hl hr h
      exact ⟨y, ⟨vs, e, h1⟩, h2⟩
theorem pure_of_vc {f : FuncId} {fn : Func} {as rs : List ATy} (C : ADen as → Ctx) (hC : ∀ x, CtxOK P (C x)) (hf : P.funcs[f]? = some fn) (hn : (fn.name == "runtime.NumGoroutine") = false) (hb : fn.body.isNone = false)
    {Pre : ADen as → Prop} {F : ADen as → ADen rs} (h : ∀ x, Pre x → PureVC (C x) fn as rs F x) : PureOK P f as rs Pre F := by
  refine ⟨⟨fn, hf, hn, hb⟩, fun ok x vals w hpre ha => ?_⟩
  let g : Gh := ⟨fun _ => 0, fun _ => undef, fun b => ok b ∨ w.heap.size ≤ b⟩
  have hs : Sat w.heap.size (fun _ => False) w [] g w :=
    ⟨rfl, rfl, rfl, Nat.le_refl _, Nat.le_refl _, fun b hb => .inr (hb.elim id False.elim), fun _ _ _ => rfl, fun i e h => by simp at h, fun i j e f b h => by simp at h⟩
  have hargs : ArgsRep w [] g (argSVs as x) vals := argSVs_rep as (ArgsR.mono ⟨Nat.le_refl _, fun b _ h => ⟨⟨.inl h, by rintro ⟨i, e, h, _⟩; simp at h⟩, rfl⟩⟩ as ha)
  refine (body_calls (hC x) hf (h x hpre) hs hargs).mono ?_
  rintro e w' ⟨v, rfl, sv, H', g', hk, hs', hev, hr⟩
  obtain ⟨y, h1, rfl⟩ := resDat_sound hs' rs hr hk
  refine ⟨v, rfl, ?_, ⟨hs'.os, hs'.tape, hs'.output, hs'.size0, fun b hb => hs'.old b hb id⟩⟩
  rw [hev.ok] at h1
  exact h1
theorem runBody_spec (hC : CtxOK P C) {f : FuncId} {fn : Func} (hf : P.funcs[f]? = some fn) (hn : (fn.name == "runtime.NumGoroutine") = false) (hb : fn.body.isNone = false) : SpecOK P f (runBody C fn) :=
  ⟨⟨fn, hf, hn, hb⟩, fun _ _ _ _ _ _ _ _ _ h hs ha => body_calls hC hf h hs ha⟩
end
attribute [irreducible] PureVC
end Go.SX

/- SX, part O: the table of types, checked by computation; small helps. -/
namespace Go.SX
open Go Go.RowKit
def simpleEq : Value → Value → Bool
  | .int k n, .int k' n' => decide (k = k') && decide (n = n')
  | .bool a, .bool b => a == b
  | .string a, .string b => decide (a = b)
  | .slice none n c, .slice none n' c' => Nat.beq n n' && Nat.beq c c'
  | .pointer none, .pointer none => true
  | .map none, .map none => true
  | .nilIface, .nilIface => true
  | .nilFunc, .nilFunc => true
  | _, _ => false
theorem simpleEq_eq {a b : Value} (h : simpleEq a b = true) : a = b := by
  unfold simpleEq at h
  split at h <;> simp_all
theorem simpleEq_one {a b : Value} (h : simpleEq a b = true) : a.oneCell' = true := by
  unfold simpleEq at h
  split at h <;> first | rfl | cases h
def simpleEqs : List Value → List Value → Bool
  | [], [] => true
  | a :: r, b :: s => simpleEq a b && simpleEqs r s
  | _, _ => false
theorem simpleEqs_eq : {a b : List Value} → simpleEqs a b = true → a = b ∧ ∀ u ∈ a, u.oneCell' = true
  | [], [], _ => ⟨rfl, fun u hu => by simp at hu⟩
  | x :: r, y :: s, h => by
    simp only [simpleEqs, Bool.and_eq_true] at h
    obtain ⟨e, h1⟩ := simpleEqs_eq h.2
    refine ⟨by rw [simpleEq_eq h.1, e], fun u hu => ?_⟩
    rcases List.mem_cons.1 hu with h2 | h2
    · subst h2; exact simpleEq_one h.1
    · exact h1 u h2
  | [], _ :: _, h => by simp [simpleEqs] at h
  | _ :: _, [], h => by simp [simpleEqs] at h
def fieldsEq : List Field → List (Nat × TypeId) → Bool
  | [], [] => true
  | f :: r, p :: s => Nat.beq f.offset p.1 && Nat.beq f.type p.2 && fieldsEq r s
  | _, _ => false
theorem fieldsEq_eq : {a : List Field} → {b : List (Nat × TypeId)} → fieldsEq a b = true → a.map (fun f => (f.offset, f.type)) = b
  | [], [], _ => rfl
  | f :: r, p :: s, h => by
    simp only [fieldsEq, Bool.and_eq_true] at h
    simp [Nat.eq_of_beq_eq_true h.1.1, Nat.eq_of_beq_eq_true h.1.2, fieldsEq_eq h.2]
  | [], _ :: _, h => by simp [fieldsEq] at h
  | _ :: _, [], h => by simp [fieldsEq] at h
def De.chk (u : Option TypeDesc) : De → Bool
  | .other => match u with
    | some (.struct _) | some (.array _ _) | none => false
    | some _ => true
  | .int k => match u with | some (.int k') => decide (k = k') | _ => false
  | .bool => match u with | some .bool => true | _ => false
  | .str => match u with | some .string => true | _ => false
  | .slice e => match u with | some (.slice e') => Nat.beq e e' | _ => false
  | .struct fs => match u with | some (.struct fields) => fieldsEq fields.toList fs | _ => false
  | .array n e => match u with | some (.array n' e') => Nat.beq n n' && Nat.beq e e' | _ => false
  | .ptr e => match u with | some (.pointer e') => Nat.beq e e' | _ => false
  | .map k e => match u with | some (.map k' e') => Nat.beq k k' && Nat.beq e e' | _ => false
theorem De.chk_fits {P : Program} {t : TypeId} {d : De} (h : d.chk (P.underlying t) = true) : d.Fits P t := by
  cases d <;> simp only [De.chk, De.Fits] at h ⊢
  case other =>
    generalize P.underlying t = u at h
    match u, h with
    | some .invalid, _ | some .bool, _ | some (.int _), _ | some (.float _), _ | some (.complex _), _ | some .string, _ | some .unsafePointer, _ | some (.pointer _), _ | some (.slice _), _ | some (.map _ _), _
    | some (.chan _ _), _ | some (.func _ _ _), _ | some (.interface _), _ | some (.tuple _), _ | some (.named _ _), _ => exact ⟨_, rfl, fun _ h => (by cases h), fun _ _ h => (by cases h)⟩
  case int k =>
    generalize P.underlying t = u at h ⊢
    match u, h with
    | some (.int k'), h => rw [of_decide_eq_true h]
  case bool =>
    generalize P.underlying t = u at h ⊢
    match u, h with
    | some .bool, h => rfl
  case str =>
    generalize P.underlying t = u at h ⊢
    match u, h with
    | some .string, h => rfl
  case slice e =>
    generalize P.underlying t = u at h ⊢
    match u, h with
    | some (.slice e'), h => rw [Nat.eq_of_beq_eq_true h]
  case struct fs =>
    generalize P.underlying t = u at h ⊢
    match u, h with
    | some (.struct fields), h => exact ⟨fields, rfl, fieldsEq_eq h⟩
  case array n e =>
    generalize P.underlying t = u at h ⊢
    match u, h with
    | some (.array n' e'), h =>
      simp only [Bool.and_eq_true] at h
      rw [Nat.eq_of_beq_eq_true h.1, Nat.eq_of_beq_eq_true h.2]
  case ptr e =>
    generalize P.underlying t = u at h ⊢
    match u, h with
    | some (.pointer e'), h => rw [Nat.eq_of_beq_eq_true h]
  case map k e =>
    generalize P.underlying t = u at h ⊢
    match u, h with
    | some (.map k' e'), h =>
      simp only [Bool.and_eq_true] at h
      rw [Nat.eq_of_beq_eq_true h.1, Nat.eq_of_beq_eq_true h.2]
def TI.chk (P : Program) (t : TypeId) (ti : TI) : Bool :=
  (match P.info? t with
  | some i => Nat.beq i.size ti.size && Nat.beq i.bytes ti.bytes && (match i.zero with
    | some z => simpleEqs ti.zero z.cells.toList && (match ti.desc.isAgg, z with | true, .agg _ => true | true, _ => false | false, .agg _ => false | false, _ => Nat.beq ti.size 1)
    | none => false)
  | none => false) && ti.desc.chk (P.underlying t) && Nat.beq ti.zero.length ti.size &&
  (match ti.ty with | some T => Nat.beq T.size ti.size && simpleEqs T.zeros ti.zero | none => true) &&
  (match ti.arr with | some (p, T, q) => simpleEqs (p ++ T.zeros ++ q) ti.zero | none => true) &&
  (!ti.eqs || (!P.stoodInHeld t && !P.eqGuardType P.depth t && (match P.underlying t with | some (.struct fields) => fields.toList.all (fun f => !(f.name == "_")) | _ => true)))
theorem TI.chk_ok {P : Program} {t : TypeId} {ti : TI} (h : ti.chk P t = true) : TIok P t ti := by
  unfold TI.chk at h
  simp only [Bool.and_eq_true] at h
  obtain ⟨⟨⟨⟨⟨h1, h2⟩, h3⟩, h4⟩, h6⟩, h5⟩ := h
  cases hi : P.info? t with
  | none => rw [hi] at h1; cases h1
  | some i =>
    rw [hi] at h1
    simp only [Bool.and_eq_true] at h1
    obtain ⟨⟨q1, q2⟩, q3⟩ := h1
    cases hz : i.zero with
    | none => rw [hz] at q3; cases q3
    | some z =>
      rw [hz] at q3
      simp only [Bool.and_eq_true] at q3
      obtain ⟨q4, q5⟩ := q3
      obtain ⟨e1, e2⟩ := simpleEqs_eq q4
      refine ⟨⟨i, hi, Nat.eq_of_beq_eq_true q1, Nat.eq_of_beq_eq_true q2, z, hz, e1.symm, fun ha => ?_⟩, De.chk_fits h2, Nat.eq_of_beq_eq_true h3, fun ha => ?_, fun ha i' z' hi' hz' => ?_, e2, fun T hT => ?_, fun p T q ha => ?_, fun he => ?_⟩
      · rw [ha] at q5
        cases z <;> first | (simp at q5; done) | skip
        rename_i cs
        simp only [Value.cells] at e1
        rw [e1]
      · rw [ha] at q5
        cases z <;> first | exact Nat.eq_of_beq_eq_true q5 | (simp at q5; done)
      · rw [hi] at hi'
        obtain rfl : i = i' := by simpa using hi'
        rw [hz] at hz'
        obtain rfl : z = z' := by simpa using hz'
        rw [e1]
        rw [ha] at q5
        cases z <;> first | rfl | (simp at q5; done)
      · rw [hT] at h4
        simp only [Bool.and_eq_true] at h4
        exact ⟨Nat.eq_of_beq_eq_true h4.1, (simpleEqs_eq h4.2).1⟩
      · rw [ha] at h6
        exact (simpleEqs_eq h6).1.symm
      · rw [he] at h5
        simp only [Bool.not_true, Bool.false_or, Bool.and_eq_true, Bool.not_eq_true'] at h5
        refine ⟨h5.1.1, h5.1.2, fun fields hu f hf => ?_⟩
        rw [hu] at h5
        have := List.all_eq_true.1 h5.2 f hf
        simpa using this
def chkAll (P : Program) : List (TypeId × TI) → Bool
  | [] => true
  | p :: r => p.2.chk P p.1 && chkAll P r
theorem chkAll_ok {P : Program} : {l : List (TypeId × TI)} → chkAll P l = true → ∀ t ti, tyFind t l = some ti → TIok P t ti
  | [], _, t, ti, h => by simp [tyFind] at h
  | (k, i) :: r, h, t, ti, hf => by
    simp only [chkAll, Bool.and_eq_true] at h
    unfold tyFind at hf
    cases hk : Nat.beq k t with
    | true =>
      rw [hk] at hf
      have := Nat.eq_of_beq_eq_true hk
      subst this
      simp only [cond_true, Option.some.injEq] at hf
      subst hf
      exact TI.chk_ok h.1
    | false => rw [hk] at hf; exact chkAll_ok h.2 t ti hf
def SpecsOK (P : Program) : List (FuncId × Spec) → Prop
  | [] => True
  | p :: r => SpecOK P p.1 p.2 ∧ SpecsOK P r
structure CI where
  f : FuncId
  s : Spec
  k : Bool
  z : Bool
def CI.OK (P : Program) (c : CI) : Prop := SpecOK P c.f c.s ∧ (c.k = true → SpecKeeps P c.f c.s)
def CsOK (P : Program) : List CI → Prop
  | [] => True
  | c :: r => c.OK P ∧ CsOK P r
def consOf : List CI → List (FuncId × Spec)
  | [] => []
  | c :: r => (c.f, c.s) :: consOf r
def keepOf : List CI → FuncId → Bool
  | [], _ => false
  | c :: r, f => bif Nat.beq c.f f then c.k else keepOf r f
def frzOf : List CI → FuncId → Bool
  | [], _ => false
  | c :: r, f => bif Nat.beq c.f f then c.z else frzOf r f
theorem cons_ok {P : Program} : (l : List CI) → CsOK P l → ∀ f s, specFind f (consOf l) = some s → SpecOK P f s ∧ (keepOf l f = true → SpecKeeps P f s)
  | [], _, f, s, h => by simp [consOf, specFind] at h
  | c :: r, hl, f, s, hf => by
    unfold consOf specFind at hf
    unfold keepOf
    cases hk : Nat.beq c.f f with
    | true =>
      rw [hk] at hf
      have := Nat.eq_of_beq_eq_true hk
      subst this
      simp only [cond_true, Option.some.injEq] at hf
      subst hf
      exact hl.1
    | false => rw [hk] at hf; exact cons_ok r hl.2 f s hf
@[reducible] def ctxOf (tys : List (TypeId × TI)) (cs : List CI) (ann : Nat → Option (St → Ann)) : Ctx := ⟨tys, consOf cs, ann, keepOf cs, frzOf cs, false, fun _ => none, fun _ _ _ => False, false, false, false, 0, false, 0⟩
@[reducible] def ctxY (M : (a : Bool) → (T : Ty) → Ext a T → Prop) (tys : List (TypeId × TI)) (cs : List CI) (ann : Nat → Option (St → Ann)) : Ctx := ⟨tys, consOf cs, ann, keepOf cs, frzOf cs, false, fun _ => none, M, true, false, false, 0, false, 0⟩
@[reducible] def ctxR (M : (a : Bool) → (T : Ty) → Ext a T → Prop) (tys : List (TypeId × TI)) (cs : List CI) (ann : Nat → Option (St → Ann)) (rann : Nat → Option (St → RAnn)) : Ctx := ⟨tys, consOf cs, ann, keepOf cs, frzOf cs, true, rann, M, false, false, false, 0, false, 0⟩
@[reducible] def ctxW (tys : List (TypeId × TI)) (cs : List CI) (ann : Nat → Option (St → Ann)) : Ctx := ⟨tys, consOf cs, ann, keepOf cs, frzOf cs, false, fun _ => none, fun _ _ _ => False, false, false, true, 0, false, 0⟩
@[reducible] def ctxC (tys : List (TypeId × TI)) (cs : List CI) : Ctx := ⟨tys, consOf cs, fun _ => none, keepOf cs, frzOf cs, false, fun _ => none, fun _ _ _ => False, false, true, false, 0, false, 0⟩
@[reducible] def ctxU (tys : List (TypeId × TI)) (cs : List CI) (ann : Nat → Option (St → Ann)) (k : Nat) : Ctx := ⟨tys, consOf cs, ann, keepOf cs, frzOf cs, false, fun _ => none, fun _ _ _ => False, false, false, false, k, false, 0⟩
@[reducible] def ctxS (tys : List (TypeId × TI)) (cs : List CI) (ann : Nat → Option (St → Ann)) : Ctx := ⟨tys, consOf cs, ann, keepOf cs, frzOf cs, false, fun _ => none, fun _ _ _ => False, false, false, false, 0, true, 0⟩
@[reducible] def ctxB (tys : List (TypeId × TI)) (cs : List CI) (ann : Nat → Option (St → Ann)) (b : Nat) : Ctx := ⟨tys, consOf cs, ann, keepOf cs, frzOf cs, false, fun _ => none, fun _ _ _ => False, false, false, false, 0, true, b⟩
@[reducible] def callM (P : Program) : (a : Bool) → (T : Ty) → Ext a T → Prop := fun _ _ E => E.Call P
theorem ctx_ok {P : Program} {tys : List (TypeId × TI)} (hm : P.follows .mixedOrders = true) (h1 : ∀ t ti, tyFind t tys = some ti → TIok P t ti) {cs : List CI} (h : CsOK P cs) (ann : Nat → Option (St → Ann)) : CtxOK P (ctxOf tys cs ann) :=
  ⟨h1, fun f s hf => (cons_ok cs h f s hf).1, fun f s hk hf => (cons_ok cs h f s hf).2 hk, hm, fun _ _ _ h => h.elim, fun h => by cases h⟩
theorem ctxB_ok {P : Program} {tys : List (TypeId × TI)} (hm : P.follows .mixedOrders = true) (h1 : ∀ t ti, tyFind t tys = some ti → TIok P t ti) {cs : List CI} (h : CsOK P cs) (ann : Nat → Option (St → Ann)) (b : Nat) : CtxOK P (ctxB tys cs ann b) :=
  ⟨h1, fun f s hf => (cons_ok cs h f s hf).1, fun f s hk hf => (cons_ok cs h f s hf).2 hk, hm, fun _ _ _ h => h.elim, fun h => by cases h⟩
theorem ctxC_ok {P : Program} {tys : List (TypeId × TI)} (hm : P.follows .mixedOrders = true) (h1 : ∀ t ti, tyFind t tys = some ti → TIok P t ti) {cs : List CI} (h : CsOK P cs) : CtxOK P (ctxC tys cs) :=
  ⟨h1, fun f s hf => (cons_ok cs h f s hf).1, fun f s hk hf => (cons_ok cs h f s hf).2 hk, hm, fun _ _ _ h => h.elim, fun h => by cases h⟩
theorem ctxY_ok {P : Program} {tys : List (TypeId × TI)} (hm : P.follows .mixedOrders = true) (h1 : ∀ t ti, tyFind t tys = some ti → TIok P t ti) {cs : List CI} (h : CsOK P cs) (ann : Nat → Option (St → Ann)) : CtxOK P (ctxY (callM P) tys cs ann) :=
  ⟨h1, fun f s hf => (cons_ok cs h f s hf).1, fun f s hk hf => (cons_ok cs h f s hf).2 hk, hm, fun _ _ _ h => h, fun h => by cases h⟩
theorem ctxR_ok {P : Program} {tys : List (TypeId × TI)} (hm : P.follows .mixedOrders = true) (h1 : ∀ t ti, tyFind t tys = some ti → TIok P t ti) {cs : List CI} (h : CsOK P cs) (ann : Nat → Option (St → Ann)) (rann : Nat → Option (St → RAnn)) : CtxOK P (ctxR (callM P) tys cs ann rann) :=
  ⟨h1, fun f s hf => (cons_ok cs h f s hf).1, fun f s hk hf => (cons_ok cs h f s hf).2 hk, hm, fun _ _ _ h => h, fun _ _ _ _ h => h⟩
structure PC where
  f : FuncId
  as : List ATy
  rs : List ATy
  Pre : ADen as → Prop
  F : ADen as → ADen rs
@[reducible] def PC.OK (P : Program) (c : PC) : Prop := PureOK P c.f c.as c.rs c.Pre c.F
@[reducible] def PC.ci (c : PC) : CI := ⟨c.f, pureSpec c.as c.rs c.Pre c.F, true, !(c.rs.all fun r => r.2.flat)⟩
theorem PC.OK.ci {P : Program} {c : PC} (h : c.OK P) : c.ci.OK P := ⟨PureOK.spec h, fun _ => PureOK.keeps h⟩
@[reducible] def inl (f : FuncId) (fn : Func) (C : Ctx) : CI := ⟨f, runBody C fn, false, false⟩
theorem inl_ok {P : Program} {f : FuncId} {fn : Func} {C : Ctx} (hC : CtxOK P C) (hf : P.funcs[f]? = some fn) (hn : (fn.name == "runtime.NumGoroutine") = false) (hb : fn.body.isNone = false) : (inl f fn C).OK P :=
  ⟨runBody_spec hC hf hn hb, fun h => (by cases h)⟩
@[reducible] def PC.VC (c : PC) (C : Ctx) (fn : Func) (x : ADen c.as) : Prop := PureVC C fn c.as c.rs c.F x
theorem PC.ok {P : Program} (c : PC) {fn : Func} (C : ADen c.as → Ctx) (hC : ∀ x, CtxOK P (C x)) (hf : P.funcs[c.f]? = some fn) (hn : (fn.name == "runtime.NumGoroutine") = false) (hb : fn.body.isNone = false)
    (h : ∀ x, c.Pre x → c.VC (C x) fn x) : c.OK P := pure_of_vc C hC hf hn hb h
def annOf (n : Nat) : List (Nat × (St → Ann)) → Option (St → Ann)
  | [] => none
  | (k, a) :: r => bif Nat.beq k n then some a else annOf n r
theorem fits_i64 {n : Int} (h1 : -1000000000000000000 ≤ n) (h2 : n ≤ 1000000000000000000) : Fits .i64 n := by
  unfold Fits
  have e1 : IntKind.i64.min = -9223372036854775808 := by decide
  have e2 : IntKind.i64.max = 9223372036854775807 := by decide
  rw [e1, e2]
  omega
end Go.SX

/- SX, part P: the caller's input reads as plain data. -/
namespace Go.SX
open Go Go.RowKit Go.Deep Go.ChangeShapes Go.WideShapes
inductive TyM (P : Program) : TypeId → Ty → Prop
  | int {t : TypeId} {k : IntKind} (h : P.underlying t = some (.int k)) : TyM P t (.int k)
  | bool {t : TypeId} (h : P.underlying t = some .bool) : TyM P t .bool
  | str {t : TypeId} (h : P.underlying t = some .string) : TyM P t .str
  | pair {t : TypeId} {a b : Ty} {f0 f1 : Field} (h : P.underlying t = some (.struct #[f0, f1])) (o0 : f0.offset = 0) (o1 : f1.offset = a.size) (c0 : P.cellsOf f0.type = a.size) (c1 : P.cellsOf f1.type = b.size)
      (h0 : TyM P f0.type a) (h1 : TyM P f1.type b) (ct : P.cellsOf t = a.size + b.size) : TyM P t (.pair a b)
  | two {t e : TypeId} {a : Ty} (h : P.underlying t = some (.array 2 e)) (ce : P.cellsOf e = a.size) (h0 : TyM P e a) (ct : P.cellsOf t = a.size + a.size) : TyM P t (.pair a a)
  | three {t e : TypeId} {a : Ty} (h : P.underlying t = some (.array 3 e)) (ce : P.cellsOf e = a.size) (h0 : TyM P e a) (ct : P.cellsOf t = a.size + (a.size + a.size)) : TyM P t (.pair a (.pair a a))
  | slice {t e : TypeId} {a : Ty} (h : P.underlying t = some (.slice e)) (ce : P.cellsOf e = a.size) (h0 : TyM P e a) : TyM P t (.slice a)
def Ty.Wf : (T : Ty) → T.den → Prop
  | .int k, n => k.min ≤ n ∧ n ≤ k.max
  | .bool, _ => True
  | .str, s => s.size ≤ maxLen
  | .pair a b, p => a.Wf p.1 ∧ b.Wf p.2
  | .slice a, xs => xs.length ≤ maxLen ∧ ∀ x ∈ xs, a.Wf x
  | .arr n a, xs => xs.length = n + 1 ∧ ∀ x ∈ xs, a.Wf x
theorem list_of {α : Type} {R : Nat → α → Prop} : (n : Nat) → (∀ i, i < n → ∃ x, R i x) → ∃ xs : List α, xs.length = n ∧ ∀ i x, xs[i]? = some x → R i x
  | 0, _ => ⟨[], rfl, fun i x h => by simp at h⟩
  | n + 1, h => by
    obtain ⟨xs, h1, h2⟩ := list_of n fun i hi => h i (Nat.lt_succ_of_lt hi)
    obtain ⟨x, hx⟩ := h n (Nat.lt_succ_self n)
    refine ⟨xs ++ [x], by simp [h1], fun i y hy => ?_⟩
    rcases Nat.lt_or_ge i n with hi | hi
    · rw [List.getElem?_append_left (by omega)] at hy; exact h2 i y hy
    · rw [List.getElem?_append_right (by omega)] at hy
      have e : i - xs.length = 0 := by
        rcases Nat.eq_zero_or_pos (i - xs.length) with h | h
        · exact h
        · rw [List.getElem?_eq_none (by simp; omega)] at hy; cases hy
      rw [e] at hy
      simp at hy
      have e' : i = n := by omega
      rw [e', ← hy]; exact hx
section
variable {H : Type} {enc : TypeId × Value → H} {P : Program} {w : World} {base : Nat} {spare : Nat → Bool} {held : Bool}
theorem cell_lt {w : World} {a : Addr} {v : Value} (hc : w.cell? a = some v) : a.block < w.heap.size := by
  unfold World.cell? at hc
  cases hx : w.heap[a.block]? with
  | none => rw [hx] at hc; cases hc
  | some o => exact (Array.getElem?_eq_some_iff.1 hx).1
theorem split2 {α : Type} (cs : List α) (n m : Nat) (h : cs.length = n + m) : cs = (cs.drop 0).take n ++ (cs.drop n).take m := by
  rw [List.drop_zero]
  have : (cs.drop n).take m = cs.drop n := List.take_of_length_le (by simp; omega)
  rw [this, List.take_append_drop]
theorem open_ty {t : TypeId} {T : Ty} (hT : TyM P t T) : ∀ {fuel : Nat} {cs : List Value} {x : DataW H × List MemPlace}, DataW.trod enc P w base spare held fuel t cs = some x → ∃ y : T.den, T.Rep w (fun b => b < w.heap.size) y cs ∧ T.Wf y := by
  induction hT with
  | int h =>
    intro fuel cs x hx
    cases fuel with
    | zero => simp [DataW.trod] at hx
    | succ n =>
      unfold DataW.trod at hx
      simp only [h] at hx
      split at hx <;> simp_all
      rename_i k k' n hk
      obtain ⟨⟨h1, h2⟩, _⟩ := hx
      subst h1
      unfold Lit.wf at h2
      rw [Bool.and_eq_true] at h2
      exact ⟨n, by first | rfl | (subst hk; rfl), by first | exact of_decide_eq_true h2.1 | (subst hk; exact of_decide_eq_true h2.1), by first | exact of_decide_eq_true h2.2 | (subst hk; exact of_decide_eq_true h2.2)⟩
  | bool h =>
    intro fuel cs x hx
    cases fuel with
    | zero => simp [DataW.trod] at hx
    | succ n =>
      unfold DataW.trod at hx
      simp only [h] at hx
      split at hx <;> simp_all
      rename_i b
      cases b
      · exact .inl ⟨rfl, trivial⟩
      · exact .inr ⟨rfl, trivial⟩
  | str h =>
    intro fuel cs x hx
    cases fuel with
    | zero => simp [DataW.trod] at hx
    | succ n =>
      unfold DataW.trod at hx
      simp only [h] at hx
      split at hx <;> simp_all
      exact ⟨_, rfl, hx.1⟩
  | @pair t a b f0 f1 h o0 o1 c0 c1 m0 m1 ct ih0 ih1 =>
    intro fuel cs x hx
    obtain ⟨xs, n, _, _, hl, hxl, hf⟩ := DataW.trod_struct h hx
    match xs, hxl with
    | [y0, y1], _ =>
      have g0 := hf 0 f0 rfl
      have g1 := hf 1 f1 rfl
      rw [o0, c0] at g0
      rw [o1, c1] at g1
      obtain ⟨d0, r0, w0⟩ := ih0 g0
      obtain ⟨d1, r1, w1⟩ := ih1 g1
      exact ⟨(d0, d1), ⟨_, _, split2 cs a.size b.size (by rw [hl, ct]), r0, r1⟩, w0, w1⟩
  | @two t e a h ce m0 ct ih =>
    intro fuel cs x hx
    obtain ⟨xs, n, _, _, hl, hxl, hf⟩ := DataW.trod_array h hx
    match xs, hxl with
    | [y0, y1], _ =>
      have g0 := hf 0 (by omega)
      have g1 := hf 1 (by omega)
      rw [ce] at g0 g1
      rw [Nat.zero_mul] at g0
      rw [Nat.one_mul] at g1
      obtain ⟨d0, r0, w0⟩ := ih g0
      obtain ⟨d1, r1, w1⟩ := ih g1
      exact ⟨(d0, d1), ⟨_, _, split2 cs a.size a.size (by rw [hl, ct]), r0, r1⟩, w0, w1⟩
  | @three t e a h ce m0 ct ih =>
    intro fuel cs x hx
    obtain ⟨xs, n, _, _, hl, hxl, hf⟩ := DataW.trod_array h hx
    match xs, hxl with
    | [y0, y1, y2], _ =>
      have g0 := hf 0 (by omega)
      have g1 := hf 1 (by omega)
      have g2 := hf 2 (by omega)
      rw [ce] at g0 g1 g2
      rw [Nat.zero_mul] at g0
      rw [Nat.one_mul] at g1
      obtain ⟨d0, r0, w0⟩ := ih g0
      obtain ⟨d1, r1, w1⟩ := ih g1
      obtain ⟨d2, r2, w2⟩ := ih g2
      have e1 : (cs.drop (2 * a.size)).take a.size = ((cs.drop a.size).drop a.size).take a.size := by
        rw [List.drop_drop]
        congr 2
        omega
      rw [e1] at r2
      have hd : ((cs.drop a.size).drop a.size).take a.size = (cs.drop a.size).drop a.size := List.take_of_length_le (by
        simp only [List.length_drop]
        omega)
      rw [hd] at r2
      exact ⟨(d0, d1, d2), ⟨(cs.drop 0).take a.size, cs.drop a.size, by simp, r0, ⟨_, _, (List.take_append_drop a.size (cs.drop a.size)).symm, r1, r2⟩⟩, w0, w1, w2⟩
  | @slice t e a h ce m0 ih =>
    intro fuel cs x hx
    rcases open_slice h hx with ⟨rfl, _⟩ | ⟨ad, len, cap, m, n, D, Pl, rfl, hb, hl, hm, hmm, _, hel⟩
    · exact ⟨[], ⟨none, 0, rfl, Nat.le_refl _, fun h => absurd rfl h⟩, Nat.zero_le _, fun x hx => by cases hx⟩
    · have hlm : len ≤ m := by rw [hmm]; split <;> omega
      obtain ⟨xs, hxl, hxs⟩ := list_of (R := fun i (y : a.den) => ∃ c, a.Rep w (fun b => b < w.heap.size) y c ∧ a.Wf y ∧ c.length = a.size ∧ ∀ (j : Nat) (u : Value), c[j]? = some u → w.cell? (ad.add (i * a.size + j)) = some u) len fun i hi => by
        obtain ⟨cs', q1, q2⟩ := hel i (by omega)
        obtain ⟨y, r1, r2⟩ := ih q2
        obtain ⟨_, z1, z2⟩ := World.cells?_some q1
        refine ⟨y, cs', r1, r2, by rw [z1, ce], fun j u hu => ?_⟩
        have hj : j < P.cellsOf e := by rw [← z1]; exact (List.getElem?_eq_some_iff.1 hu).1
        have := z2 j hj
        rw [add_add, ce, hu] at this
        exact this
      have hblk : xs ≠ [] → ad.block < w.heap.size := fun hne => by
        have h0 : 0 < xs.length := List.length_pos_iff.2 hne
        obtain ⟨c, _, _, q3, q4⟩ := hxs 0 xs[0] (List.getElem?_eq_getElem h0)
        have hc : 0 < c.length := by rw [q3]; exact a.size_pos
        have := cell_lt (q4 0 c[0] (List.getElem?_eq_getElem hc))
        rwa [block_add] at this
      refine ⟨xs, ⟨some ad, cap, by rw [hxl], by omega, fun hne => ⟨ad, rfl, hblk hne, hblk hne, fun i y hy => ?_⟩⟩, by rw [hxl]; omega, fun y hy => ?_⟩
      · obtain ⟨c, q1, _, q3, q4⟩ := hxs i y hy
        exact ⟨c, q1, q3, q4⟩
      · obtain ⟨i, hi⟩ := List.getElem?_of_mem hy
        exact (hxs i y hi).choose_spec.2.1
end
end Go.SX

/- SX, part Q: contracts of functions that write what they are handed. -/
namespace Go.SX
open Go Go.RowKit
def SC.same (ρ : Nat → Nat) (n : Nat) (H : List Ent) : SC → SC → Prop
  | .any, _ => True
  | .int k x, .int k' y => bif decide (k = k') then y = x else False
  | .bool _ b, c => match c.asB with
    | some b' => b' = b
    | none => False
  | .kb b, .kb b' => bif b == b' then True else False
  | .str s, .str s' => s' = s
  | .ptr i o, .ptr j o' => bif Nat.beq (ρ i) j && Nat.beq o o' && Nat.blt i n then True else False
  | .ro t xs, .ro t' ys => if h : t' = t then (h ▸ ys) = xs else False
  | .roc t xs, .roc t' ys => if h : t' = t then (h ▸ ys) = xs else False
  | .ro _ xs, .raw u => bif isNil u then xs = [] else False
  | .own i v, .own j v' => match H[j]? with
    | some (.row _ _ w _) => bif Nat.beq (ρ i) j && Nat.beq v 0 && Nat.beq v' w && Nat.blt i n then True else False
    | _ => False
  | .mid i v o m, .mid j v' o' m' => match H[j]? with
    | some (.row _ _ w _) => bif Nat.beq (ρ i) j && Nat.beq v 0 && Nat.beq v' w && Nat.blt i n then o' = o ∧ m' = m else False
    | _ => False
  | .fn f caps, .fn f' caps' => bif Nat.beq f f' && natsEq (caps.map ρ) caps' && caps.all (fun i => Nat.blt i n) then True else False
  | .raw u, .raw v => v = u
  | .tab i, .tab j => bif Nat.beq (ρ i) j && Nat.blt i n then True else False
  | _, _ => False
def sameL (ρ : Nat → Nat) (n : Nat) (H : List Ent) : List SC → List SC → Prop
  | [], [] => True
  | x :: r, y :: s => SC.same ρ n H x y ∧ sameL ρ n H r s
  | _, _ => False
def SV.same (ρ : Nat → Nat) (n : Nat) (H : List Ent) : SV → SV → Prop
  | .c x, .c y => SC.same ρ n H x y
  | .agg l, .agg m => sameL ρ n H l m
  | _, _ => False
def sameVs (ρ : Nat → Nat) (n : Nat) (H : List Ent) : List SV → List SV → Prop
  | [], [] => True
  | x :: r, y :: s => SV.same ρ n H x y ∧ sameVs ρ n H r s
  | _, _ => False
def Ent.same (ρ : Nat → Nat) (n : Nat) (H : List Ent) : Ent → Ent → Prop
  | .blk e cs, .blk e' cs' => bif Nat.beq e e' then sameL ρ n H cs cs' else False
  | .row e t v xs, .row e' t' _ xs' => bif Nat.beq e e' && Nat.beq v 0 then (if h : t' = t then (h ▸ xs') = xs else False) else False
  | .tab a t es, .tab a' t' es' => bif a == a' then (if h : t' = t then (h ▸ es' : List (Int × t.den)) = es else False) else False
  | .gl b e v, .gl b' e' v' => Ent.gl b' e' v' = Ent.gl b e v
  | .con e t x, .con e' t' x' => bif Nat.beq e e' then (if h : t' = t then (h ▸ x' : t.den) = x else False) else False
  | .obj e pre t x post, .obj e' pre' t' x' post' => bif Nat.beq e e' then sameL ρ n H pre pre' ∧ sameL ρ n H post post' ∧ (if h : t' = t then (h ▸ x' : t.den) = x else False) else False
  | .ext a T E o pre, e => e = .ext a T E o pre
  | _, _ => False
def sameEnts (ρ : Nat → Nat) (n : Nat) (H : List Ent) : Nat → List Ent → Prop
  | _, [] => True
  | k, e :: r => (match H[ρ k]? with
    | some e' => Ent.same ρ n H e e'
    | none => False) ∧ sameEnts ρ n H (k + 1) r
def ndL : List Nat → Bool
  | [] => true
  | j :: r => !(r.any (Nat.beq j)) && ndL r
def verAt (H : List Ent) (j : Nat) : Nat := match H[j]? with
  | some (.row _ _ v _) => v
  | _ => 0
def atL (js : List Nat) (k : Nat) : Nat := match js, k with
  | [], _ => 0
  | j :: _, 0 => j
  | _ :: r, k + 1 => atL r k
def updH : List Nat → List Ent → List Ent → List Ent
  | j :: js, e :: es, H => updH js es (H.set j e)
  | _, _, H => H
def renEnts (ρ V : Nat → Nat) : Nat → List Ent → List Ent
  | _, [] => []
  | k, e :: r => renEnt ρ V k e :: renEnts ρ V (k + 1) r
section
variable {P : Program} {B : Nat} {X : Nat → Prop} {w0 w w' : World} {H H0 Ho Hn : List Ent} {g g' : Gh} {ρ V : Nat → Nat} {n : Nat}
theorem SC.same_rep {g0 : Gh} (hb : ∀ k, k < n → g0.b k = g.b (ρ k)) (hv : ∀ k, k < n → g0.v k = g.v (ρ k)) (hn : H0.length = n)
    (hrow : ∀ k e t v xs, k < n → H[ρ k]? = some (.row e t v xs) → ∃ e', H0[k]? = some (.row e' t 0 xs))
    (hst : ∀ b, b < w.heap.size → Stable H g b → Stable H0 g0 b) {x y : SC} {v : Value} (h : SC.same ρ n H x y) (hr : y.Rep w H g v) : x.Rep w H0 g0 v := by
  unfold SC.same at h
  split at h
  · trivial
  · rename_i k a k' b
    cases hd : decide (k = k') with
    | false => rw [hd] at h; exact h.elim
    | true =>
      rw [hd] at h
      have e := of_decide_eq_true hd
      subst e
      simp only [cond_true] at h
      subst h
      exact hr
  · rename_i b
    cases y <;> simp only [SC.asB] at h <;> try exact h.elim
    all_goals (subst h; exact hr)
  · rename_i b b'
    cases hd : (b == b') with
    | false => rw [hd] at h; exact h.elim
    | true =>
      have e : b = b' := by simpa using hd
      subst e
      exact hr
  · subst h; exact hr
  · rename_i i o j o'
    cases hd : (Nat.beq (ρ i) j && Nat.beq o o' && Nat.blt i n) with
    | false => rw [hd] at h; exact h.elim
    | true =>
      simp only [Bool.and_eq_true] at hd
      have e1 := Nat.eq_of_beq_eq_true hd.1.1
      have e2 := Nat.eq_of_beq_eq_true hd.1.2
      have e3 : i < n := Nat.le_of_ble_eq_true hd.2
      subst e1; subst e2
      exact ⟨by omega, by rw [hb i e3]; exact hr.2⟩
  · rename_i t xs t' ys
    split at h
    · rename_i ht
      subst ht
      subst h
      exact Ty.Rep.stable (t := .slice _) hr hst
    · exact h.elim
  · rename_i t xs t' ys
    split at h
    · rename_i ht
      subst ht
      subst h
      exact ⟨Ty.Rep.stable (t := .slice _) hr.1 hst, hr.2⟩
    · exact h.elim
  · rename_i t xs u
    cases hu : isNil u with
    | false => rw [hu] at h; exact h.elim
    | true =>
      rw [hu] at h
      simp only [cond_true] at h
      subst h
      have e : v = u := hr
      rw [isNil_eq hu] at e
      exact ⟨none, 0, by rw [e]; rfl, Nat.le_refl _, fun h => absurd rfl h⟩
  · rename_i i a j a'
    cases hj : H[j]? with
    | none => rw [hj] at h; exact h.elim
    | some en =>
      rw [hj] at h
      cases en <;> try exact h.elim
      case row e t wv xs =>
        simp only at h
        cases hd : (Nat.beq (ρ i) j && Nat.beq a 0 && Nat.beq a' wv && Nat.blt i n) with
        | false => rw [hd] at h; exact h.elim
        | true =>
          simp only [Bool.and_eq_true] at hd
          have e1 := Nat.eq_of_beq_eq_true hd.1.1.1
          have e2 := Nat.eq_of_beq_eq_true hd.1.1.2
          have e3 := Nat.eq_of_beq_eq_true hd.1.2
          have e4 : i < n := Nat.le_of_ble_eq_true hd.2
          subst e1; subst e2; subst e3
          obtain ⟨h1, h2⟩ := hr
          refine ⟨h1, ?_⟩
          obtain ⟨e', q⟩ := hrow i e t _ xs e4 hj
          unfold OwnRep at h2 ⊢
          rw [hj] at h2
          rw [q]
          exact ⟨Nat.le_refl _, fun _ => by rw [hv i e4]; exact h2.2 rfl⟩
  · rename_i i a o m j a' o' m'
    cases hj : H[j]? with
    | none => rw [hj] at h; exact h.elim
    | some en =>
      rw [hj] at h
      cases en <;> try exact h.elim
      case row e t wv xs =>
        simp only at h
        cases hd : (Nat.beq (ρ i) j && Nat.beq a 0 && Nat.beq a' wv && Nat.blt i n) with
        | false => rw [hd] at h; exact h.elim
        | true =>
          rw [hd] at h
          simp only [cond_true] at h
          simp only [Bool.and_eq_true] at hd
          have e1 := Nat.eq_of_beq_eq_true hd.1.1.1
          have e2 := Nat.eq_of_beq_eq_true hd.1.1.2
          have e3 := Nat.eq_of_beq_eq_true hd.1.2
          have e4 : i < n := Nat.le_of_ble_eq_true hd.2
          subst e1; subst e2; subst e3
          obtain ⟨h, h'⟩ := h
          subst h; subst h'
          obtain ⟨h1, Q, mm, c, h2, h3, h4⟩ := hr
          refine ⟨h1, Q, mm, c, ?_, h3, h4⟩
          obtain ⟨e', q⟩ := hrow i e t _ xs e4 hj
          unfold SufRep at h2 ⊢
          rw [hj] at h2
          rw [q]
          exact ⟨Nat.le_refl _, fun _ => by rw [hv i e4]; exact h2.2 rfl⟩
  · rename_i f caps f' caps'
    cases hd : (Nat.beq f f' && natsEq (caps.map ρ) caps' && caps.all (fun i => Nat.blt i n)) with
    | false => rw [hd] at h; exact h.elim
    | true =>
      simp only [Bool.and_eq_true] at hd
      have e1 := Nat.eq_of_beq_eq_true hd.1.1
      have e2 := natsEq_eq hd.1.2
      subst e1; subst e2
      have hlt : ∀ i ∈ caps, i < n := fun i hi => Nat.le_of_ble_eq_true (List.all_eq_true.1 hd.2 i hi)
      obtain ⟨h1, h2⟩ := hr
      refine ⟨?_, fun i hi => by have := hlt i hi; omega⟩
      rw [h1, List.map_map]
      congr 2
      exact List.map_congr_left fun i hi => by simp only [Function.comp]; rw [hb i (hlt i hi)]
  · subst h; exact hr
  · rename_i i j
    cases hd : (Nat.beq (ρ i) j && Nat.blt i n) with
    | false => rw [hd] at h; exact h.elim
    | true =>
      rw [Bool.and_eq_true] at hd
      have e1 := Nat.eq_of_beq_eq_true hd.1
      have e2 : i < n := Nat.le_of_ble_eq_true hd.2
      subst e1
      exact ⟨by omega, by rw [hb i e2]; exact hr.2⟩
  · exact h.elim
theorem sameL_rep {g0 : Gh} (hsc : ∀ x y v, SC.same ρ n H x y → y.Rep w H g v → x.Rep w H0 g0 v) : {l m : List SC} → {vs : List Value} → sameL ρ n H l m → Reps w H g m vs → Reps w H0 g0 l vs
  | [], [], vs, _, hr => ⟨hr.1, fun j c v h => by simp at h⟩
  | x :: r, y :: s, [], _, hr => absurd hr.1 (by simp)
  | x :: r, y :: s, v :: vs, h, hr => by
    have ih := sameL_rep hsc h.2 (⟨by simpa using hr.1, fun j c u h1 h2 => hr.2 (j + 1) c u (by simpa using h1) (by simpa using h2)⟩ : Reps w H g s vs)
    refine ⟨by simp [ih.1], fun j c u h1 h2 => ?_⟩
    cases j with
    | zero => simp at h1 h2; subst h1; subst h2; exact hsc _ _ _ h.1 (hr.2 0 y v rfl rfl)
    | succ j => exact ih.2 j c u (by simpa using h1) (by simpa using h2)
  | [], _ :: _, _, h, _ => h.elim
  | _ :: _, [], _, h, _ => h.elim
theorem sameVs_rep {g0 : Gh} (hsc : ∀ x y v, SC.same ρ n H x y → y.Rep w H g v → x.Rep w H0 g0 v) : {l m : List SV} → {vs : List Value} → sameVs ρ n H l m → ArgsRep w H g m vs → ArgsRep w H0 g0 l vs
  | [], [], vs, _, hr => ⟨hr.1, fun j c v h => by simp at h⟩
  | x :: r, y :: s, [], _, hr => absurd hr.1 (by simp)
  | x :: r, y :: s, v :: vs, h, hr => by
    have ih := sameVs_rep hsc h.2 (⟨by simpa using hr.1, fun j c u h1 h2 => hr.2 (j + 1) c u (by simpa using h1) (by simpa using h2)⟩ : ArgsRep w H g s vs)
    refine ⟨by simp [ih.1], fun j c u h1 h2 => ?_⟩
    cases j with
    | zero =>
      simp at h1 h2; subst h1; subst h2
      have hy := hr.2 0 y v rfl rfl
      match x, y, h.1, hy with
      | .c _, .c _, h, hy => exact hsc _ _ _ h hy
      | .agg _, .agg _, h, ⟨us, e, q1, q2⟩ => exact ⟨us, e, sameL_rep hsc h q1, q2⟩
    | succ j => exact ih.2 j c u (by simpa using h1) (by simpa using h2)
  | [], _ :: _, _, h, _ => h.elim
  | _ :: _, [], _, h, _ => h.elim
theorem sameEnts_get : (l : List Ent) → (k : Nat) → sameEnts ρ n H k l → ∀ i e, l[i]? = some e → ∃ e', H[ρ (k + i)]? = some e' ∧ Ent.same ρ n H e e'
  | [], _, _, i, e, h => by simp at h
  | a :: r, k, hs, i, e, h => by
    cases i with
    | zero =>
      simp at h; subst h
      obtain ⟨h1, _⟩ := hs
      cases hq : H[ρ k]? with
      | none => rw [hq] at h1; exact h1.elim
      | some e' => rw [hq] at h1; exact ⟨e', rfl, h1⟩
    | succ i =>
      obtain ⟨e', h1, h2⟩ := sameEnts_get r (k + 1) hs.2 i e (by simpa using h)
      exact ⟨e', by rw [show k + (i + 1) = k + 1 + i by omega]; exact h1, h2⟩
theorem SC.same_congr {ρ' : Nat → Nat} (hρ : ∀ k, k < n → ρ k = ρ' k) : {x y : SC} → SC.same ρ n H x y → SC.same ρ' n H x y := by
  intro x y h
  have hb : ∀ i j c, (Nat.beq (ρ i) j && c && Nat.blt i n) = (Nat.beq (ρ' i) j && c && Nat.blt i n) := fun i j c => by
    cases hn : Nat.blt i n with
    | false => simp
    | true => rw [hρ i (Nat.le_of_ble_eq_true hn)]
  have hb1 : ∀ i j, (Nat.beq (ρ i) j && Nat.blt i n) = (Nat.beq (ρ' i) j && Nat.blt i n) := fun i j => by
    have := hb i j true
    simpa using this
  have hb3 : ∀ i j c d, (Nat.beq (ρ i) j && c && d && Nat.blt i n) = (Nat.beq (ρ' i) j && c && d && Nat.blt i n) := fun i j c d => by
    have := hb i j (c && d)
    rwa [← Bool.and_assoc, ← Bool.and_assoc] at this
  have hf : ∀ (caps caps' : List Nat) (b : Bool), (b && natsEq (caps.map ρ) caps' && caps.all (fun i => Nat.blt i n)) = (b && natsEq (caps.map ρ') caps' && caps.all (fun i => Nat.blt i n)) := fun caps caps' b => by
    cases hn : caps.all (fun i => Nat.blt i n) with
    | false => simp
    | true =>
      have e : caps.map ρ = caps.map ρ' := List.map_congr_left fun i hi => hρ i (Nat.le_of_ble_eq_true (List.all_eq_true.1 hn i hi))
      rw [e]
  unfold SC.same at h ⊢
  split at h <;> try exact h
  · rw [← hb]; exact h
  · rename_i i v j v'
    split at h
    · rw [← hb3]; exact h
    · exact h.elim
  · rename_i i v o m j v' o' m'
    split at h
    · rw [← hb3]; exact h
    · exact h.elim
  · rw [← hf]; exact h
  · rw [← hb1]; exact h
theorem sameL_congr {ρ' : Nat → Nat} (hρ : ∀ k, k < n → ρ k = ρ' k) : {l m : List SC} → sameL ρ n H l m → sameL ρ' n H l m
  | [], [], h => h
  | _ :: _, _ :: _, h => ⟨SC.same_congr hρ h.1, sameL_congr hρ h.2⟩
  | [], _ :: _, h => h.elim
  | _ :: _, [], h => h.elim
theorem sameVs_congr {ρ' : Nat → Nat} (hρ : ∀ k, k < n → ρ k = ρ' k) : (l m : List SV) → sameVs ρ n H l m → sameVs ρ' n H l m
  | [], [], h => h
  | x :: r, y :: s, h => ⟨by
      have h1 := h.1
      unfold SV.same at h1 ⊢
      split at h1
      · exact SC.same_congr hρ h1
      · exact sameL_congr hρ h1
      · exact h1.elim, sameVs_congr hρ r s h.2⟩
  | [], _ :: _, h => h.elim
  | _ :: _, [], h => h.elim
theorem Ent.same_congr {ρ' : Nat → Nat} (hρ : ∀ k, k < n → ρ k = ρ' k) {e e' : Ent} (h : Ent.same ρ n H e e') : Ent.same ρ' n H e e' := by
  unfold Ent.same at h ⊢
  split at h
  · rename_i ty cs ty' cs'
    cases hb : Nat.beq ty ty' with
    | false => rw [hb] at h; exact h.elim
    | true => rw [hb] at h; exact sameL_congr hρ h
  · exact h
  · exact h
  · exact h
  · exact h
  · rename_i ty pre t x post ty' pre' t' x' post'
    cases hb : Nat.beq ty ty' with
    | false => rw [hb] at h; exact h.elim
    | true => rw [hb] at h; exact ⟨sameL_congr hρ h.1, sameL_congr hρ h.2.1, h.2.2⟩
  · exact h
  · exact h.elim
theorem sameEnts_congr {ρ' : Nat → Nat} (hρ : ∀ k, k < n → ρ k = ρ' k) : (l : List Ent) → (k : Nat) → k + l.length ≤ n → (∀ k, k < n → ρ k = ρ' k) → sameEnts ρ n H k l → sameEnts ρ' n H k l
  | [], _, _, _, _ => trivial
  | e :: r, k, hl, h2, hs => by
    obtain ⟨h1, h3⟩ := hs
    have hkn : k < n := by simp at hl; omega
    refine ⟨?_, sameEnts_congr hρ r (k + 1) (by simp at hl; omega) h2 h3⟩
    rw [← hρ k hkn]
    cases hq : H[ρ k]? with
    | none => rw [hq] at h1; exact h1.elim
    | some e' => rw [hq] at h1; exact Ent.same_congr hρ h1
theorem Ent.same_blocks {g0 : Gh} {k b : Nat} (hb : g0.b k = g.b (ρ k)) (hv : g0.v k = g.v (ρ k)) : {e e' : Ent} → Ent.same ρ n H e e' → (e.blocks g0 k b ↔ e'.blocks g (ρ k) b)
  | .blk .., .blk .., _ => by unfold Ent.blocks; rw [hb]
  | .row .., .row .., _ => by unfold Ent.blocks; rw [hv]
  | .dead, _, h => h.elim
  | .blk .., .dead, h => h.elim
  | .blk .., .row .., h => h.elim
  | .row .., .dead, h => h.elim
  | .row .., .blk .., h => h.elim
  | .tab .., .tab .., _ => by unfold Ent.blocks; rw [hb]
  | .tab .., .dead, h => h.elim
  | .tab .., .blk .., h => h.elim
  | .tab .., .row .., h => h.elim
  | .tab .., .iter .., h => h.elim
  | .iter .., _, h => h.elim
  | .blk .., .tab .., h => h.elim
  | .row .., .tab .., h => h.elim
  | .blk .., .iter .., h => h.elim
  | .row .., .iter .., h => h.elim
  | .ext .., .ext .., _ => by unfold Ent.blocks; rw [hv]
  | .blk .., .ext .., h => h.elim
  | .row .., .ext .., h => h.elim
  | .tab .., .ext .., h => h.elim
  | .ext .., .dead, h => by have h : Ent.dead = Ent.ext .. := h; cases h
  | .ext .., .blk .., h => by have h : Ent.blk .. = Ent.ext .. := h; cases h
  | .ext .., .row .., h => by have h : Ent.row .. = Ent.ext .. := h; cases h
  | .ext .., .tab .., h => by have h : Ent.tab .. = Ent.ext .. := h; cases h
  | .ext .., .iter .., h => by have h : Ent.iter .. = Ent.ext .. := h; cases h
  | .con .., .con .., _ => Iff.rfl
  | .gl .., .gl .., _ => Iff.rfl
  | .obj .., .obj .., _ => by unfold Ent.blocks; rw [hb]
theorem frame_sound {m : Nat} (hs : Sat B X w0 H g w) (hn0 : H0.length = n) (hnn : Ho.length = m) (hnm : n ≤ m) (hinj : ∀ k k', k < m → k' < m → ρ k = ρ k' → k = k') (hnew : ∀ k, n ≤ k → k < m → H.length ≤ ρ k) (hents : sameEnts ρ n H 0 H0)
    (hV : ∀ k, k < n → V k = verAt H (ρ k)) (hlen : H.length ≤ Hn.length) (hlt : ∀ k, k < m → ρ k < Hn.length) (hget : ∀ k, k < m → Hn[ρ k]? = (Ho[k]?).map (renEnt ρ V k)) (hoth : ∀ i, (∀ k, k < m → ρ k ≠ i) → Hn[i]? = H[i]?)
    {args args0 : List SV} {vals : List Value} (hnw : noWalk H = true) (hargs : sameVs ρ n H args0 args) (ha : ArgsRep w H g args vals) {res : SV} :
    ∃ B0 X0 g0, Sat B0 X0 w H0 g0 w ∧ ArgsRep w H0 g0 args0 vals ∧
      ∀ w' g' v, Sat B0 X0 w Ho g' w' → Evo w H0 g0 w' Ho g' → res.Rep w' Ho g' v → ∃ gn, Sat B X w0 Hn gn w' ∧ Evo w H g w' Hn gn ∧ (renSV ρ V res).Rep w' Hn gn v := by
  have hg := sameEnts_get H0 0 hents
  have hent : ∀ k, k < n → ∃ e e', H0[k]? = some e ∧ H[ρ k]? = some e' ∧ Ent.same ρ n H e e' := fun k hk => by
    have h1 : H0[k]? = some H0[k] := List.getElem?_eq_getElem (by omega)
    obtain ⟨e', h2, h3⟩ := hg k _ h1
    exact ⟨_, e', h1, by rw [Nat.zero_add] at h2; exact h2, h3⟩
  have hρ : ∀ k, k < n → ρ k < H.length := fun k hk => by
    obtain ⟨_, _, _, h, _⟩ := hent k hk
    exact (List.getElem?_eq_some_iff.1 h).1
  let X0 : Nat → Prop := fun b => ∃ k e, k < n ∧ H[ρ k]? = some e ∧ e.blocks g (ρ k) b
  let ok0 : Nat → Prop := fun b => g.ok b ∧ ∀ i e, (∀ k, k < n → ρ k ≠ i) → H[i]? = some e → ¬ e.blocks g i b
  let g0 : Gh := ⟨fun k => g.b (ρ k), fun k => g.v (ρ k), ok0⟩
  have hbl : ∀ k e e' b, H0[k]? = some e → H[ρ k]? = some e' → Ent.same ρ n H e e' → (e.blocks g0 k b ↔ e'.blocks g (ρ k) b) := fun k e e' b _ _ h => Ent.same_blocks rfl rfl h
  have hown0 : ∀ b, Owned H0 g0 b → X0 b := by
    rintro b ⟨k, e, h1, h2⟩
    have hk : k < n := by rw [← hn0]; exact (List.getElem?_eq_some_iff.1 h1).1
    obtain ⟨e1, e', q1, q2, q3⟩ := hent k hk
    rw [h1] at q1; cases q1
    exact ⟨k, e', hk, q2, (hbl k e e' b h1 q2 q3).1 h2⟩
  have hX0own : ∀ b, X0 b → Owned H g b := by
    rintro b ⟨k, e, _, h1, h2⟩
    exact ⟨ρ k, e, h1, h2⟩
  have hst : ∀ b, b < w.heap.size → Stable H g b → Stable H0 g0 b := fun b _ hb =>
    ⟨⟨hb.1, fun i e _ h1 h2 => hb.2 ⟨i, e, h1, h2⟩⟩, fun h => hb.2 (hX0own b (hown0 b h))⟩
  have hrow : ∀ k e t v xs, k < n → H[ρ k]? = some (.row e t v xs) → ∃ e', H0[k]? = some (.row e' t 0 xs) := fun k e t v xs hk hh => by
    obtain ⟨e1, e2, q1, q2, q3⟩ := hent k hk
    rw [hh] at q2; cases q2
    cases e1 with
    | dead => exact q3.elim
    | blk => exact q3.elim
    | tab => exact q3.elim
    | iter => exact q3.elim
    | ext a T E o pre =>
      have q3 : Ent.row .. = Ent.ext a T E o pre := q3
      cases q3
    | mtab => exact q3.elim
    | con => exact q3.elim
    | gl => exact q3.elim
    | obj => exact q3.elim
    | row e' t' v' xs' =>
      simp only [Ent.same] at q3
      cases hb : (Nat.beq e' e && Nat.beq v' 0) with
      | false => rw [hb] at q3; exact q3.elim
      | true =>
        rw [Bool.and_eq_true] at hb
        have := Nat.eq_of_beq_eq_true hb.2
        subst this
        rw [hb.1, hb.2] at q3
        simp only [Bool.and_self, cond_true] at q3
        split at q3
        · rename_i ht
          subst ht
          subst q3
          exact ⟨e', q1⟩
        · exact q3.elim
  have hsc : ∀ (x y : SC) (v : Value), SC.same ρ n H x y → y.Rep w H g v → x.Rep w H0 g0 v := fun x y v h hr => SC.same_rep (ρ := ρ) (g := g) (g0 := g0) (fun _ _ => rfl) (fun _ _ => rfl) hn0 hrow hst h hr
  have hX0lt : ∀ b, X0 b → b < w.heap.size := by
    rintro b ⟨k, e, _, h1, h2⟩
    exact (hs.ents _ _ h1).lt b h2
  have hX0mine : ∀ b, X0 b → B ≤ b ∨ X b := by
    rintro b ⟨k, e, _, h1, h2⟩
    exact (hs.ents _ _ h1).mine b h2
  have hX0oth : ∀ b, X0 b → ∀ i e, (∀ k, k < n → ρ k ≠ i) → H[i]? = some e → ¬ e.blocks g i b := by
    rintro b ⟨k, e, hk, h1, h2⟩ i f hi hf hfb
    exact hi k hk (hs.apart _ _ _ _ b h1 hf h2 hfb)
  refine ⟨w.heap.size, X0, g0, ?_, sameVs_rep hsc hargs ha, ?_⟩
  · refine ⟨rfl, rfl, rfl, Nat.le_refl _, Nat.le_refl _, ?_, fun _ _ _ => rfl, fun k e hk => ?_, fun i j e f b hi hj hbi hbj => ?_⟩
    · rintro b (hb | hb)
      · refine ⟨hs.okB b (.inl (Nat.le_trans hs.hB hb)), fun i e _ h1 h2 => ?_⟩
        have := (hs.ents _ _ h1).lt b h2
        omega
      · exact ⟨hs.okB b (hX0mine b hb), hX0oth b hb⟩
    · have hkn : k < n := by rw [← hn0]; exact (List.getElem?_eq_some_iff.1 hk).1
      obtain ⟨e1, e', q1, q2, q3⟩ := hent k hkn
      rw [hk] at q1; cases q1
      have hX : ∀ b, e'.blocks g (ρ k) b → w.heap.size ≤ b ∨ X0 b := fun b hb => .inr ⟨k, e', hkn, q2, hb⟩
      have hO := hs.ents _ _ q2
      match e, e', q3, hO, hX with
      | .blk ty cs, .blk ty' cs', q3, ⟨vs, h1, h2, h3, h4⟩, hX =>
        simp only [Ent.same] at q3
        cases hb : Nat.beq ty ty' with
        | false => rw [hb] at q3; exact q3.elim
        | true =>
          rw [hb] at q3
          have := Nat.eq_of_beq_eq_true hb
          subst this
          exact ⟨vs, h1, sameL_rep hsc q3 h2, h3, hX _ rfl⟩
      | .row ty t v xs, .row ty' t' v' xs', q3, ⟨cells, h1, h2, h3, h4⟩, hX =>
        simp only [Ent.same] at q3
        cases hb : (Nat.beq ty ty' && Nat.beq v 0) with
        | false => rw [hb] at q3; exact q3.elim
        | true =>
          rw [hb] at q3
          rw [Bool.and_eq_true] at hb
          have := Nat.eq_of_beq_eq_true hb.1
          subst this
          simp only [cond_true] at q3
          split at q3
          · rename_i ht
            subst ht
            subst q3
            exact ⟨cells, h1, h2.mono (fun _ _ h => Ty.Rep.stable h hst) (fun _ _ h => h), h3, fun b hb => hX b hb⟩
          · exact q3.elim
      | .tab a t es, .tab a' t' es', q3, ⟨ents, clock, h1, ⟨⟨u1, u2, u3⟩, u4⟩, h4⟩, hX =>
        simp only [Ent.same] at q3
        cases hb : (a == a') with
        | false => rw [hb] at q3; exact q3.elim
        | true =>
          rw [hb] at q3
          have := (beq_iff_eq.1 hb)
          subst this
          simp only [cond_true] at q3
          split at q3
          · rename_i ht
            subst ht
            have q3 : es' = es := q3
            subst q3
            refine ⟨ents, clock, h1, ⟨⟨u1, u2, fun k p m v1 v2 => ?_⟩, u4⟩, hX _ rfl⟩
            obtain ⟨r1, r2⟩ := u3 k p m v1 v2
            refine ⟨r1, ?_⟩
            split
            · rename_i hc; rw [if_pos hc] at r2; obtain ⟨cs, e, r2⟩ := r2; exact ⟨cs, e, Ty.Rep.stable r2 hst⟩
            · rename_i hc; rw [if_neg hc] at r2; exact Ty.Rep.stable r2 hst
          · exact q3.elim
      | .obj ty pre t x post, .obj ty' pre' t' x' post', q3, ⟨v1, v2, v3, h1, h2, h3, h4, h5, h6⟩, hX =>
        simp only [Ent.same] at q3
        cases hb : Nat.beq ty ty' with
        | false => rw [hb] at q3; exact q3.elim
        | true =>
          rw [hb] at q3
          have := Nat.eq_of_beq_eq_true hb
          subst this
          simp only [cond_true] at q3
          obtain ⟨k1, k2, q3⟩ := q3
          split at q3
          · rename_i ht
            subst ht
            have q3 : x' = x := q3
            subst q3
            exact ⟨v1, v2, v3, h1, sameL_rep hsc k1 h2, Ty.Rep.stable h3 hst, sameL_rep hsc k2 h4, h5, hX _ rfl⟩
          · exact q3.elim
      | .gl b ty u, .gl b' ty' u', q3, ⟨h1, h3⟩, _ =>
        have q3 : Ent.gl b' ty' u' = Ent.gl b ty u := q3
        cases q3
        exact ⟨h1, hst _ (Array.getElem?_eq_some_iff.1 h1).1 h3⟩
      | .con ty t x, .con ty' t' x', q3, ⟨vs, h1, h2, h3⟩, _ =>
        simp only [Ent.same] at q3
        cases hb : Nat.beq ty ty' with
        | false => rw [hb] at q3; exact q3.elim
        | true =>
          rw [hb] at q3
          have := Nat.eq_of_beq_eq_true hb
          subst this
          simp only [cond_true] at q3
          split at q3
          · rename_i ht
            subst ht
            have q3 : x' = x := q3
            subst q3
            exact ⟨vs, h1, Ty.Rep.stable h2 hst, hst _ (Array.getElem?_eq_some_iff.1 h1).1 h3⟩
          · exact q3.elim
      | .ext a T E o pre, .ext a' T' E' o' pre', q3, hO, hX =>
        have q3 : Ent.ext a' T' E' o' pre' = Ent.ext a T E o pre := q3
        rw [q3] at hO hX
        obtain ⟨h1, h2⟩ := hO
        exact ⟨fun b hb => ⟨(h1 b hb).1, hX b hb⟩, E.mono _ _ _ _ _ _ _ h2 (fun _ _ => rfl) ⟨Nat.le_refl _, fun b hb hs => ⟨hst b hb hs, rfl⟩⟩⟩
    · have hin : i < n := by rw [← hn0]; exact (List.getElem?_eq_some_iff.1 hi).1
      have hjn : j < n := by rw [← hn0]; exact (List.getElem?_eq_some_iff.1 hj).1
      obtain ⟨_, e', q1, q2, q3⟩ := hent i hin
      rw [hi] at q1; cases q1
      obtain ⟨_, f', p1, p2, p3⟩ := hent j hjn
      rw [hj] at p1; cases p1
      exact hinj i j (by omega) (by omega) (hs.apart _ _ _ _ b q2 p2 ((hbl i _ _ b hi q2 q3).1 hbi) ((hbl j _ _ b hj p2 p3).1 hbj))
  · intro w' g' v hs' hev hr
    have hdec : ∀ i : Nat, (∃ k, k < m ∧ ρ k = i) ∨ ∀ k, k < m → ρ k ≠ i := fun i => by
      by_cases h : ∃ k, k < m ∧ ρ k = i
      · exact .inl h
      · exact .inr fun k hk e => h ⟨k, hk, e⟩
    let ix : Nat → Nat := fun i => if h : ∃ k, k < m ∧ ρ k = i then h.choose else m
    have hix : ∀ k, k < m → ix (ρ k) = k := fun k hk => by
      have h : ∃ k', k' < m ∧ ρ k' = ρ k := ⟨k, hk, rfl⟩
      show (if h : ∃ k', k' < m ∧ ρ k' = ρ k then h.choose else m) = k
      rw [dif_pos h]
      exact hinj _ _ h.choose_spec.1 hk h.choose_spec.2
    have hix2 : ∀ i, (∀ k, k < m → ρ k ≠ i) → ix i = m := fun i hi => dif_neg (by rintro ⟨k, hk, e⟩; exact hi k hk e)
    let gn : Gh := ⟨fun i => if ix i < m then g'.b (ix i) else g.b i, fun i => if ix i < m then g'.v (ix i) else g.v i, g.ok⟩
    have gb : ∀ k, k < m → gn.b (ρ k) = g'.b k := fun k hk => by show (if ix (ρ k) < m then _ else _) = _; rw [hix k hk, if_pos hk]
    have gv : ∀ k, k < m → gn.v (ρ k) = g'.v k := fun k hk => by show (if ix (ρ k) < m then _ else _) = _; rw [hix k hk, if_pos hk]
    have gb2 : ∀ i, (∀ k, k < m → ρ k ≠ i) → gn.b i = g.b i := fun i hi => by show (if ix i < m then _ else _) = _; rw [hix2 i hi, if_neg (Nat.lt_irrefl _)]
    have gv2 : ∀ i, (∀ k, k < m → ρ k ≠ i) → gn.v i = g.v i := fun i hi => by show (if ix i < m then _ else _) = _; rw [hix2 i hi, if_neg (Nat.lt_irrefl _)]
    have hbn : ∀ k e b, k < m → ((renEnt ρ V k e).blocks gn (ρ k) b → e.blocks g' k b) := fun k e b hk => by
      cases e with
      | dead => exact id
      | iter => exact False.elim
      | ext => unfold renEnt Ent.blocks; rw [gv k hk]; exact id
      | mtab => exact False.elim
      | con => exact False.elim
      | gl => exact False.elim
      | obj => unfold renEnt Ent.blocks; rw [gb k hk]; exact id
      | blk => unfold renEnt Ent.blocks; rw [gb k hk]; exact id
      | tab => unfold renEnt Ent.blocks; rw [gb k hk]; exact id
      | row => unfold renEnt Ent.blocks; rw [gv k hk]; exact id
    have hHn : ∀ i e, Hn[i]? = some e → (∃ k e1, k < m ∧ ρ k = i ∧ Ho[k]? = some e1 ∧ e = renEnt ρ V k e1) ∨ ((∀ k, k < m → ρ k ≠ i) ∧ H[i]? = some e) := fun i e hi => by
      rcases hdec i with ⟨k, hk, ek⟩ | h
      · subst ek
        rw [hget k hk] at hi
        cases hq : Ho[k]? with
        | none => rw [hq] at hi; simp at hi
        | some e1 => rw [hq] at hi; simp at hi; exact .inl ⟨k, e1, hk, rfl, hq, hi.symm⟩
      · exact .inr ⟨h, by rw [← hoth i h]; exact hi⟩
    have hmine' : ∀ b, Owned Ho g' b → w.heap.size ≤ b ∨ X0 b := by
      rintro b ⟨k, e, h1, h2⟩
      exact (hs'.ents _ _ h1).mine b h2
    have hold : ∀ b, b < w.heap.size → ¬ X0 b → w'.heap[b]? = w.heap[b]? := hs'.old
    have hownn : ∀ b, Owned Hn gn b → Owned Ho g' b ∨ ∃ i e, (∀ k, k < m → ρ k ≠ i) ∧ H[i]? = some e ∧ e.blocks g i b := by
      rintro b ⟨i, e, h1, h2⟩
      rcases hHn i e h1 with ⟨k, e1, hk, ek, hq, ee⟩ | ⟨hi, hq⟩
      · subst ek; subst ee
        exact .inl ⟨k, e1, hq, hbn k e1 b hk h2⟩
      · exact .inr ⟨i, e, hi, hq, (Ent.blocks_congr (gb2 i hi) (gv2 i hi)).1 h2⟩
    have hev' : Evo w H g w' Hn gn := by
      refine ⟨rfl, ⟨hs'.size0, fun b hb hb2 => ⟨⟨hb2.1, fun h => ?_⟩, hold b hb fun h => hb2.2 (hX0own b h)⟩⟩, by omega, fun i hi => ?_, fun i e t ver xs hi hrr => ?_⟩
      · rcases hownn b h with h1 | ⟨i, e, _, h1, h2⟩
        · rcases hmine' b h1 with h2 | h2
          · omega
          · exact hb2.2 (hX0own b h2)
        · exact hb2.2 ⟨i, e, h1, h2⟩
      · rcases hdec i with ⟨k, hk, ek⟩ | h
        · subst ek
          have hkn : k < n := by
            rcases Nat.lt_or_ge k n with q | q
            · exact q
            · have := hnew k q hk; omega
          rw [gb k hk]
          exact hev.ptr k (by omega)
        · exact gb2 i h
      · rcases hHn i _ hrr with ⟨k, e1, hk, ek, hq, ee⟩ | ⟨hi2, hq⟩
        · subst ek
          have hkn : k < n := by
            rcases Nat.lt_or_ge k n with q | q
            · exact q
            · have := hnew k q hk; omega
          cases e1 with
          | dead => cases ee
          | blk => cases ee
          | tab => cases ee
          | iter => cases ee
          | ext => cases ee
          | mtab => cases ee
          | con => cases ee
          | gl => cases ee
          | obj => cases ee
          | row e' t' ver' xs' =>
            simp only [renEnt, Ent.row.injEq] at ee
            obtain ⟨rfl, rfl, rfl, hxs⟩ := ee
            cases hxs
            obtain ⟨ver0, xs0, r1, r2⟩ := hev.row k _ _ _ _ (by omega) hq
            obtain ⟨e1, e2, q1, q2, q3⟩ := hent k hkn
            rw [r1] at q1; cases q1
            cases e2 <;> try exact q3.elim
            case row e2 t2 v2 xs2 =>
              simp only [Ent.same] at q3
              cases hb : (Nat.beq e e2 && Nat.beq ver0 0) with
              | false => rw [hb] at q3; exact q3.elim
              | true =>
                rw [hb] at q3
                rw [Bool.and_eq_true] at hb
                have h1 := Nat.eq_of_beq_eq_true hb.1
                have h2 := Nat.eq_of_beq_eq_true hb.2
                subst h1; subst h2
                simp only [cond_true] at q3
                split at q3
                · rename_i ht
                  subst ht
                  have hVk : V k = v2 := by rw [hV k hkn]; unfold verAt; rw [q2]
                  refine ⟨v2, xs2, q2, ?_⟩
                  rcases r2 with r2 | ⟨r2, r3, r4⟩
                  · exact .inl (by omega)
                  · exact .inr ⟨by omega, by rw [← r3, ← q3], by rw [gv k hk, r4]⟩
                · exact q3.elim
        · exact ⟨ver, xs, hq, .inr ⟨rfl, rfl, gv2 i hi2⟩⟩
    have hstn : ∀ b, b < w'.heap.size → Stable Ho g' b → Stable Hn gn b := fun b _ hb => by
      have hok : ok0 b := by have := hb.1; rw [hev.ok] at this; exact this
      refine ⟨hok.1, fun h => ?_⟩
      rcases hownn b h with h1 | ⟨i, e, hi, h1, h2⟩
      · exact hb.2 h1
      · exact hok.2 i e (fun k hk => hi k (by omega)) h1 h2
    have hscn : ∀ (x : SC) (v : Value), x.Rep w' Ho g' v → (renSC ρ V x).Rep w' Hn gn v := fun x v hr => ren_rep gb gv hnn hlt hget hstn hr
    refine ⟨gn, ⟨hs'.os.trans hs.os, hs'.tape.trans hs.tape, hs'.output.trans hs.output, Nat.le_trans hs.size0 hs'.size0, Nat.le_trans hs.hB hs'.size0, hs.okB, fun b hb hx => ?_, fun i e hi => ?_, fun i j e f b hi hj hbi hbj => ?_⟩, hev', renSV_rep hscn hstn hr⟩
    · rw [hold b (Nat.lt_of_lt_of_le hb hs.hB) fun h => ?_]
      · exact hs.old b hb hx
      · rcases hX0mine b h with h1 | h1
        · omega
        · exact hx h1
    · rcases hHn i e hi with ⟨k, e1, hk, ek, hq, ee⟩ | ⟨hi2, hq⟩
      · subst ek; subst ee
        have hO := hs'.ents k e1 hq
        have hm : ∀ b, w.heap.size ≤ b ∨ X0 b → B ≤ b ∨ X b := fun b hb => by
          rcases hb with hb | hb
          · exact .inl (Nat.le_trans hs.hB hb)
          · exact hX0mine b hb
        match e1, hO with
        | .dead, _ => trivial
        | .blk ty cs, ⟨vs, h1, h2, h3, h4⟩ =>
          refine ⟨vs, by rw [gb k hk]; exact h1, reps_map hscn h2, h3, ?_⟩
          rw [gb k hk]
          exact hm _ h4
        | .row ty t v xs, ⟨cells, h1, h2, h3, h4⟩ =>
          refine ⟨cells, by rw [gv k hk]; exact h1, h2.mono (fun _ _ h => Ty.Rep.stable h hstn) (fun _ _ h => h), h3, ?_⟩
          rw [gv k hk]
          exact fun b hb => hm b (h4 b hb)
        | .iter .., _ => trivial
        | .mtab .., _ => trivial
        | .obj ty pre t x post, ⟨v1, v2, v3, h1, h2, h3, h4, h5, h6⟩ =>
          refine ⟨v1, v2, v3, by rw [gb k hk]; exact h1, reps_map hscn h2, Ty.Rep.stable h3 hstn, reps_map hscn h4, h5, ?_⟩
          rw [gb k hk]
          exact hm _ h6
        | .gl b ty u, ⟨h1, h3⟩ => exact ⟨h1, hstn _ (Array.getElem?_eq_some_iff.1 h1).1 h3⟩
        | .con ty t x, ⟨vs, h1, h2, h3⟩ => exact ⟨vs, by rw [gb k hk]; exact h1, Ty.Rep.stable h2 hstn, by rw [gb k hk]; exact hstn _ (Array.getElem?_eq_some_iff.1 h1).1 h3⟩
        | .ext a T E o pre, ⟨h1, h2⟩ =>
          refine ⟨fun b hb => ?_, ?_⟩
          · rw [gv k hk] at hb
            exact ⟨(h1 b hb).1, hm b (h1 b hb).2⟩
          · rw [gv k hk]
            exact E.mono _ _ _ _ _ _ _ h2 (fun _ _ => rfl) ⟨Nat.le_refl _, fun b hb hs => ⟨hstn b hb hs, rfl⟩⟩
        | .tab a t es, ⟨ents, clock, h1, ⟨⟨q1, q2, q3⟩, q4⟩, h4⟩ =>
          refine ⟨ents, clock, by rw [gb k hk]; exact h1, ⟨⟨q1, q2, fun k p m u1 u2 => ?_⟩, q4⟩, ?_⟩
          · obtain ⟨r1, r2⟩ := q3 k p m u1 u2
            refine ⟨r1, ?_⟩
            split
            · rename_i hc; rw [if_pos hc] at r2; obtain ⟨cs, e, r2⟩ := r2; exact ⟨cs, e, Ty.Rep.stable r2 hstn⟩
            · rename_i hc; rw [if_neg hc] at r2; exact Ty.Rep.stable r2 hstn
          · rw [gb k hk]
            exact hm _ h4
      · exact Ent.OK.evo hev' (gb2 i hi2) (gv2 i hi2) (fun j a t l c es he _ => by subst he; exact absurd hq (noWalk_get hnw i j a t l c)) (hs.ents i e hq) fun b hb => hold b ((hs.ents i e hq).lt b hb) fun hx => hX0oth b hx i e (fun k hk => hi2 k (by omega)) hq hb
    · rcases hHn i e hi with ⟨k, e1, hk, ek, hq, ee⟩ | ⟨hi2, hq⟩ <;> rcases hHn j f hj with ⟨k', f1, hk', em, hp, ff⟩ | ⟨hj2, hp⟩
      · subst ek; subst ee; subst em; subst ff
        rw [hs'.apart k k' e1 f1 b hq hp (hbn k e1 b hk hbi) (hbn k' f1 b hk' hbj)]
      · subst ek; subst ee
        have h1 := hbn k e1 b hk hbi
        have h2 := (Ent.blocks_congr (gb2 j hj2) (gv2 j hj2)).1 hbj
        rcases hmine' b ⟨k, e1, hq, h1⟩ with h3 | h3
        · have := (hs.ents j f hp).lt b h2; omega
        · exact absurd h2 (hX0oth b h3 j f (fun k hk => hj2 k (by omega)) hp)
      · subst em; subst ff
        have h1 := hbn k' f1 b hk' hbj
        have h2 := (Ent.blocks_congr (gb2 i hi2) (gv2 i hi2)).1 hbi
        rcases hmine' b ⟨k', f1, hp, h1⟩ with h3 | h3
        · have := (hs.ents i e hq).lt b h2; omega
        · exact absurd h2 (hX0oth b h3 i e (fun k hk => hi2 k (by omega)) hq)
      · exact hs.apart i j e f b hq hp ((Ent.blocks_congr (gb2 i hi2) (gv2 i hi2)).1 hbi) ((Ent.blocks_congr (gb2 j hj2) (gv2 j hj2)).1 hbj)
end
end Go.SX

/- SX, part R: such contracts: from a body, and at a call. -/
namespace Go.SX
open Go Go.RowKit
structure HC where
  f : FuncId
  X : Type
  Hs : X → List Ent
  ags : X → List SV
  Pre : X → Prop
  res : X → SV
  out : X → List Ent
  fr : Nat → Bool
  cn : List Src := []
  mt : List (Nat × Nat × TypeId × Ty) := []
  df : FuncId → Option DSpec := fun _ => none
  dfr : Bool := false
def HeapOK (P : Program) (c : HC) : Prop :=
  (∃ fn, P.funcs[c.f]? = some fn ∧ (fn.name == "runtime.NumGoroutine") = false ∧ fn.body.isNone = false) ∧
  ∀ x, c.Pre x → ∀ B X w0 g w vals, Sat B X w0 (c.Hs x) g w → ArgsRep w (c.Hs x) g (c.ags x) vals →
    Calls P c.f vals.toArray w fun e w' => ∃ v g', e = .returned v ∧ Sat B X w0 (c.out x) g' w' ∧ Evo w (c.Hs x) g w' (c.out x) g' ∧ (c.res x).Rep w' (c.out x) g' v
def verOK (fr : Nat → Bool) : Nat → List Ent → List Ent → Prop
  | _, [], [] => True
  | k, a :: r, b :: s => (match a, b with
    | .row _ _ v _, .row _ _ v' _ => bif fr k then (bif Nat.blt v v' then True else False) else True
    | _, _ => True) ∧ verOK fr (k + 1) r s
  | _, [], _ :: _ => True
  | _, _ :: _, [] => False
def HEnd (c : HC) (x : c.X) (st : St) : Prop := SV.leR st.h (c.out x) (findT 0 st.t) (c.res x) ∧ entsLe c.fr st.h (c.out x) 0 st.h (c.out x)
def HVC (C : Ctx) (fn : Func) (c : HC) (x : c.X) : Prop :=
  bif c.dfr then runBodyD C fn c.df c.mt (c.ags x) (c.Hs x) fun sv H => HEnd c x (placeL (c.Hs x).length (c.Hs x).length c.cn ⟨1, [(0, sv)], H⟩)
  else runBodyM C fn c.mt (c.ags x) (c.Hs x) fun sv H => HEnd c x (placeL (c.Hs x).length (c.Hs x).length c.cn ⟨1, [(0, sv)], H⟩)
def HC.DOK (P : Program) (c : HC) : Prop := c.dfr = true → ∀ f s, c.df f = some s → DSpecOK P f s
abbrev Pick (X : Type) := List SV → List Ent → (X → List Nat → Prop) → Prop
def newIx : Nat → Nat → List Nat
  | _, 0 => []
  | L, k + 1 => L :: newIx (L + 1) k
def catL : List Nat → List Nat → List Nat
  | [], l => l
  | j :: r, l => j :: catL r l
def allIx (js : List Nat) (L d : Nat) : List Nat := catL js (newIx L d)
def heapEnd (c : HC) (x : c.X) (H : List Ent) (js : List Nat) (d : Nat) (K : SV → List Ent → Prop) : Prop :=
  (bif ndL js then True else False) ∧ K (renSV (atL js) (fun k => verAt H (atL js k)) (c.res x)) (updH js (renEnts (atL js) (fun k => verAt H (atL js k)) 0 (c.out x)) (growN d H))
def heapSpec (c : HC) (pick : Pick c.X) : Spec := fun args H K => pick args H fun x js =>
  (bif (js.all fun j => Nat.blt j H.length) && Nat.beq js.length (c.Hs x).length && noWalk H then True else False) ∧ sameEnts (atL js) (c.Hs x).length H 0 (c.Hs x) ∧ sameVs (atL js) (c.Hs x).length H (c.ags x) args ∧ c.Pre x ∧
    heapEnd c x H (allIx js H.length ((c.out x).length - (c.Hs x).length)) ((c.out x).length - (c.Hs x).length) K
section
variable {P : Program} {C : Ctx}
theorem verOK_len {fr : Nat → Bool} : {k : Nat} → {l m : List Ent} → verOK fr k l m → l.length ≤ m.length
  | _, [], [], _ => Nat.le_refl _
  | _, _ :: _, _ :: _, h => by have := verOK_len h.2; simp; exact this
  | _, [], _ :: _, _ => Nat.zero_le _
  | _, _ :: _, [], h => h.elim
theorem verOK_get {fr : Nat → Bool} : {k : Nat} → {l m : List Ent} → verOK fr k l m → ∀ i e t v xs e' t' v' xs', fr (k + i) = true → l[i]? = some (.row e t v xs) → m[i]? = some (.row e' t' v' xs') → v < v'
  | _, [], [], _, i, e, t, v, xs, e', t', v', xs', _, h, _ => by simp at h
  | _, [], _ :: _, _, i, e, t, v, xs, e', t', v', xs', _, h, _ => by simp at h
  | k, a :: r, b :: s, h, i, e, t, v, xs, e', t', v', xs', hf, h1, h2 => by
    cases i with
    | zero =>
      simp at h1 h2
      subst h1; subst h2
      have h := h.1
      simp only at h
      rw [Nat.add_zero] at hf
      rw [hf] at h
      cases hb : Nat.blt v v' with
      | false => rw [hb] at h; exact h.elim
      | true => exact Nat.le_of_ble_eq_true hb
    | succ i => exact verOK_get h.2 i e t v xs e' t' v' xs' (by rw [show k + 1 + i = k + (i + 1) by omega]; exact hf) (by simpa using h1) (by simpa using h2)
theorem compsLe_sound {w : World} {H H' : List Ent} {g : Gh} {fresh : Nat → Bool} {B0 : Nat} {X0 : Nat → Prop} {v0 : World} (hs : Sat B0 X0 v0 H g w) (hH : LeH fresh H H') : {l m : List (Bool × List SC)} → {vs : List Value} → compsLe H H' l m → vs.length = l.length →
    (∀ (j : Nat) (p : Bool × List SC) (u : Value), l[j]? = some p → vs[j]? = some u → CompRep w H g p u) → vs.length = m.length ∧ ∀ (j : Nat) (p : Bool × List SC) (u : Value), m[j]? = some p → vs[j]? = some u → CompRep w H' g p u
  | [], [], vs, _, hl, _ => ⟨hl, fun j p u h => by simp at h⟩
  | p :: r, q :: s, [], _, hl, _ => by simp at hl
  | p :: r, q :: s, v :: vs, h, hl, hr => by
    obtain ⟨h1, h2⟩ := h
    obtain ⟨k1, k2⟩ := compsLe_sound hs hH h2 (by simpa using hl) (fun j p u q1 q2 => hr (j + 1) p u (by simpa using q1) (by simpa using q2))
    refine ⟨by simp [k1], fun j p' u q1 q2 => ?_⟩
    cases j with
    | zero =>
      simp at q1 q2; subst q1; subst q2
      obtain ⟨us, r1, r2, r3⟩ := hr 0 p v rfl rfl
      cases hb : (p.1 == q.1) with
      | false => rw [hb] at h1; exact h1.elim
      | true =>
        rw [hb] at h1
        have e : p.1 = q.1 := by simpa using hb
        exact ⟨us, leL_sound hs hH h1 r1, r2, by rw [← e]; exact r3⟩
    | succ j => exact k2 j p' u (by simpa using q1) (by simpa using q2)
  | [], _ :: _, _, h, _, _ => h.elim
  | _ :: _, [], _, h, _, _ => h.elim
theorem leR_sound {w : World} {H H' : List Ent} {g : Gh} {fresh : Nat → Bool} {B0 : Nat} {X0 : Nat → Prop} {v0 : World} (hs : Sat B0 X0 v0 H g w) (hH : LeH fresh H H') {x y : SV} {v : Value} (h : SV.leR H H' x y) (hr : x.Rep w H g v) : y.Rep w H' g v := by
  unfold SV.leR at h
  split at h
  · obtain ⟨vs, e, h1, h2⟩ := hr
    obtain ⟨k1, k2⟩ := compsLe_sound hs hH h h1 h2
    exact ⟨vs, e, k1, k2⟩
  · exact SV.le_sound hs hH h hr
theorem hvc_calls {c : HC} {fn : Func} {x : c.X} (hC : CtxOK P C) (hf : P.funcs[c.f]? = some fn) (hD : c.DOK P) (h : HVC C fn c x) {B : Nat} {X : Nat → Prop} {w0 : World} {g : Gh} {w : World} {vals : List Value}
    (hs : Sat B X w0 (c.Hs x) g w) (ha : ArgsRep w (c.Hs x) g (c.ags x) vals) :
    Calls P c.f vals.toArray w fun e w' => ∃ v, e = .returned v ∧ Post B X w0 (fun sv H => HEnd c x (placeL (c.Hs x).length (c.Hs x).length c.cn ⟨1, [(0, sv)], H⟩)) w (c.Hs x) g v w' := by
  unfold HVC at h
  cases hd : c.dfr with
  | true => rw [hd] at h; exact body_callsD hC hf (hD hd) h hs ha
  | false => rw [hd] at h; exact body_callsM hC hf h hs ha
theorem heap_of_vc {c : HC} {fn : Func} {x : c.X} (hD : c.DOK P) (hC : CtxOK P C) (hf : P.funcs[c.f]? = some fn) (hv : verOK c.fr 0 (c.Hs x) (c.out x)) (h : HVC C fn c x) {B : Nat} {X : Nat → Prop} {w0 : World} {g : Gh} {w : World} {vals : List Value}
    (hs : Sat B X w0 (c.Hs x) g w) (ha : ArgsRep w (c.Hs x) g (c.ags x) vals) :
    Calls P c.f vals.toArray w fun e w' => ∃ v g', e = .returned v ∧ Sat B X w0 (c.out x) g' w' ∧ Evo w (c.Hs x) g w' (c.out x) g' ∧ (c.res x).Rep w' (c.out x) g' v := by
  refine (hvc_calls hC hf hD h hs ha).mono ?_
  rintro e w' ⟨v, rfl, sv, H0', g0', hk, hs0', hev0, hr0⟩
  have hat : At B X w0 w (c.Hs x) g ⟨1, [(0, sv)], H0'⟩ (fun _ => v) w' := ⟨g0', hs0', hev0, fun d => by
    show (findT d [(0, sv)]).Rep _ _ _ _
    unfold findT
    cases Nat.beq 0 d with
    | true => exact hr0
    | false => exact trivial⟩
  obtain ⟨g', hs', hev, hrr⟩ := placeL_at (Nat.le_refl _) c.cn (Nat.le_refl _) hat
  have hr := hrr 0
  generalize placeL (c.Hs x).length (c.Hs x).length c.cn ⟨1, [(0, sv)], H0'⟩ = st at hk hs' hev hr
  obtain ⟨hk1, hk2⟩ := hk
  obtain ⟨stn, stt, H'⟩ := st
  have hH : LeH c.fr H' (c.out x) := fun i e' hi => by
    obtain ⟨e, q1, q2⟩ := entsLe_sound H' (c.out x) 0 hk2 i e' hi
    rw [Nat.zero_add] at q2
    exact ⟨e, q1, q2⟩
  refine ⟨v, g', rfl, ⟨hs'.os, hs'.tape, hs'.output, hs'.size0, hs'.hB, hs'.okB, hs'.old, fun i e' hi => ?_, fun i j e' f' b hi hj hbi hbj => ?_⟩, ⟨hev.ok, hev.keeps.trans hH.keeps, verOK_len hv, fun i hi => hev.ptr i hi, fun i e t ver xs hi hr' => ?_⟩, leR_sound hs' hH hk1 hr⟩
  · obtain ⟨e, q1, q2⟩ := hH i e' hi
    exact Ent.le_OK hs' hH q1 hi q2 (hs'.ents i e q1)
  · obtain ⟨e, q1, q2⟩ := hH i e' hi
    obtain ⟨f, q3, q4⟩ := hH j f' hj
    exact hs'.apart i j e f b q1 q3 (Ent.le_blocks q2 hbi) (Ent.le_blocks q4 hbj)
  · obtain ⟨e0, q1, q2⟩ := hH i _ hr'
    cases e0 with
    | dead => exact q2.elim
    | blk => exact q2.elim
    | tab => exact q2.elim
    | iter => exact q2.elim
    | ext a T E o pre =>
      have q2 : Ent.row .. = Ent.ext a T E o pre := q2
      cases q2
    | mtab _ _ _ ho => cases ho <;> exact q2.elim
    | con => exact q2.elim
    | gl => exact q2.elim
    | obj => exact q2.elim
    | row e1 t1 ver1 xs1 =>
      simp only [Ent.le] at q2
      cases hb : (Nat.beq e1 e && (c.fr i || Nat.beq ver1 ver)) with
      | false => rw [hb] at q2; exact q2.elim
      | true =>
        rw [hb] at q2
        rw [Bool.and_eq_true] at hb
        have e1e := Nat.eq_of_beq_eq_true hb.1
        subst e1e
        simp only [cond_true] at q2
        split at q2
        · rename_i htt
          subst htt
          subst q2
          obtain ⟨ver0, xs0, r1, r2⟩ := hev.row i _ _ _ _ hi q1
          refine ⟨ver0, xs0, r1, ?_⟩
          cases hfr : c.fr i with
          | true => exact .inl (verOK_get hv i _ _ _ _ _ _ _ _ (by rw [Nat.zero_add]; exact hfr) r1 hr')
          | false =>
            rw [hfr] at hb
            have : ver1 = ver := Nat.eq_of_beq_eq_true (by simpa using hb.2)
            subst this
            exact r2
        · exact q2.elim
theorem ndL_inj : {js : List Nat} → ndL js = true → ∀ k k', k < js.length → k' < js.length → atL js k = atL js k' → k = k'
  | [], _, k, k', h, _, _ => by simp at h
  | j :: r, h, k, k', hk, hk', e => by
    simp only [ndL, Bool.and_eq_true, Bool.not_eq_true', List.any_eq_false] at h
    have hno : ∀ m, m < r.length → atL r m ≠ j := fun m hm e' => by
      have := h.1 (atL r m) (mem r m hm)
      rw [e'] at this
      exact this (by simp)
    cases k with
    | zero =>
      cases k' with
      | zero => rfl
      | succ k' => exact absurd e.symm (hno k' (by simpa using hk'))
    | succ k =>
      cases k' with
      | zero => exact absurd e (hno k (by simpa using hk))
      | succ k' => rw [ndL_inj h.2 k k' (by simpa using hk) (by simpa using hk') e]
where
  mem : (r : List Nat) → (m : Nat) → m < r.length → atL r m ∈ r
    | [], m, h => by simp at h
    | j :: r, 0, _ => List.mem_cons_self
    | j :: r, m + 1, h => List.mem_cons_of_mem _ (mem r m (by simpa using h))
theorem updH_len : (js : List Nat) → (es H : List Ent) → (updH js es H).length = H.length
  | [], es, H => by unfold updH; cases es <;> rfl
  | j :: js, [], H => rfl
  | j :: js, e :: es, H => by unfold updH; rw [updH_len js es]; simp
theorem updH_oth : (js : List Nat) → (es H : List Ent) → (i : Nat) → (∀ k, k < js.length → atL js k ≠ i) → (updH js es H)[i]? = H[i]?
  | [], es, H, i, _ => by unfold updH; cases es <;> rfl
  | j :: js, [], H, i, _ => rfl
  | j :: js, e :: es, H, i, h => by
    unfold updH
    rw [updH_oth js es _ i fun k hk => h (k + 1) (by simpa using hk), List.getElem?_set_ne (show j ≠ i from h 0 (by simp))]
theorem updH_get : (js : List Nat) → (es H : List Ent) → (∀ k k', k < js.length → k' < js.length → atL js k = atL js k' → k = k') → (∀ k, k < js.length → atL js k < H.length) → es.length = js.length → ∀ k, k < js.length → (updH js es H)[atL js k]? = es[k]?
  | [], es, H, _, _, _, k, hk => by simp at hk
  | j :: js, [], H, _, _, hl, _, _ => by simp at hl
  | j :: js, e :: es, H, hinj, hlt, hl, k, hk => by
    unfold updH
    cases k with
    | zero =>
      rw [show atL (j :: js) 0 = j from rfl, updH_oth js es _ j fun m hm e' => by
        have := hinj (m + 1) 0 (by simpa using hm) (by simp) e'
        omega]
      rw [List.getElem?_set_self (show j < H.length from hlt 0 (by simp))]
      rfl
    | succ k =>
      rw [show atL (j :: js) (k + 1) = atL js k from rfl, updH_get js es (H.set j e) (fun k k' hk hk' e => by
        have := hinj (k + 1) (k' + 1) (by simpa using hk) (by simpa using hk') e
        omega) (fun k hk => by rw [List.length_set]; exact hlt (k + 1) (by simpa using hk)) (by simpa using hl) k (by simpa using hk)]
      simp
theorem renEnts_get (ρ V : Nat → Nat) : (l : List Ent) → (m k : Nat) → (renEnts ρ V m l)[k]? = (l[k]?).map (renEnt ρ V (m + k))
  | [], m, k => by simp [renEnts]
  | e :: r, m, k => by
    cases k with
    | zero => simp [renEnts]
    | succ k => rw [show m + (k + 1) = m + 1 + k by omega]; simpa [renEnts] using renEnts_get ρ V r (m + 1) k
theorem renEnts_len (ρ V : Nat → Nat) : (l : List Ent) → (m : Nat) → (renEnts ρ V m l).length = l.length
  | [], m => rfl
  | e :: r, m => by simp [renEnts, renEnts_len ρ V r (m + 1)]
theorem newIx_len : (L k : Nat) → (newIx L k).length = k
  | _, 0 => rfl
  | L, k + 1 => by simp [newIx, newIx_len (L + 1) k]
theorem newIx_at : (L d k : Nat) → k < d → atL (newIx L d) k = L + k
  | _, 0, k, h => absurd h (Nat.not_lt_zero _)
  | L, d + 1, 0, _ => rfl
  | L, d + 1, k + 1, h => by
    show atL (newIx (L + 1) d) k = _
    rw [newIx_at (L + 1) d k (by omega)]; omega
theorem catL_len : (a b : List Nat) → (catL a b).length = a.length + b.length
  | [], b => by simp [catL]
  | _ :: a, b => by simp [catL, catL_len a b]; omega
theorem catL_at1 : (a b : List Nat) → (k : Nat) → k < a.length → atL (catL a b) k = atL a k
  | [], b, k, h => absurd h (Nat.not_lt_zero _)
  | _ :: a, b, 0, _ => rfl
  | _ :: a, b, k + 1, h => catL_at1 a b k (by simpa using h)
theorem catL_at2 : (a b : List Nat) → (k : Nat) → atL (catL a b) (a.length + k) = atL b k
  | [], b, k => by simp [catL]
  | _ :: a, b, k => by
    rw [show (List.length (_ :: a) + k) = (a.length + k) + 1 by simp; omega]
    exact catL_at2 a b k
theorem growN_get : (d : Nat) → (H : List Ent) → (i : Nat) → i < H.length → (growN d H)[i]? = H[i]?
  | 0, H, i, _ => rfl
  | d + 1, H, i, h => by
    unfold growN
    rw [growN_get d (H ++ [Ent.dead]) i (by simp; omega), List.getElem?_append_left h]
theorem HeapOK.spec {c : HC} (h : HeapOK P c) (hv : ∀ x, verOK c.fr 0 (c.Hs x) (c.out x)) {pick : Pick c.X} (hp : ∀ args H K, pick args H K → ∃ x js, K x js) : SpecOK P c.f (heapSpec c pick) := by
  refine ⟨h.1, fun B X w0 H g w args vals K hsp hs ha => ?_⟩
  obtain ⟨x, js, h1, h2, h3, h4, hnd, h5⟩ := hp _ _ _ hsp
  have hol := verOK_len (hv x)
  generalize hd : (c.out x).length - (c.Hs x).length = d at hnd h5
  generalize hjs : allIx js H.length d = ks at hnd h5
  cases hb : ((js.all fun j => Nat.blt j H.length) && Nat.beq js.length (c.Hs x).length && noWalk H) with
  | false => rw [hb] at h1; exact h1.elim
  | true =>
  cases hnb : ndL ks with
  | false => rw [hnb] at hnd; exact hnd.elim
  | true =>
    simp only [Bool.and_eq_true] at hb
    have e1 := Nat.eq_of_beq_eq_true hb.1.2
    have hinj := ndL_inj hnb
    have kl : ks.length = js.length + d := by rw [← hjs, allIx, catL_len, newIx_len]
    have a1 : ∀ k, k < js.length → atL ks k = atL js k := fun k hk => by rw [← hjs]; exact catL_at1 _ _ _ hk
    have a2 : ∀ k, k < d → atL ks (js.length + k) = H.length + k := fun k hk => by rw [← hjs, allIx, catL_at2, newIx_at _ _ _ hk]
    have hlt0 : ∀ k, k < js.length → atL ks k < H.length := fun k hk => by rw [a1 k hk]; exact Nat.le_of_ble_eq_true (List.all_eq_true.1 hb.1.1 _ (ndL_inj.mem js k hk))
    have hlen : (growN d H).length = H.length + d := growN_len _ _
    have hlt : ∀ k, k < ks.length → atL ks k < (growN d H).length := fun k hk => by
      rw [hlen]
      rcases Nat.lt_or_ge k js.length with q | q
      · have := hlt0 k q; omega
      · obtain ⟨r, rfl⟩ : ∃ r, k = js.length + r := ⟨k - js.length, by omega⟩
        rw [a2 r (by omega)]; omega
    have hm : (c.out x).length = ks.length := by omega
    have hse : sameEnts (atL ks) (c.Hs x).length H 0 (c.Hs x) := sameEnts_congr (fun k hk => (a1 k (by omega)).symm) (c.Hs x) 0 (by omega) (fun k hk => (a1 k (by omega)).symm) h2
    have hsv : sameVs (atL ks) (c.Hs x).length H (c.ags x) args := sameVs_congr (fun k hk => (a1 k (by omega)).symm) _ _ h3
    obtain ⟨B0, X0, g0, b1, b2, b3⟩ := frame_sound (n := (c.Hs x).length) (m := ks.length) (ρ := atL ks) (V := fun k => verAt H (atL ks k)) (Hn := updH ks (renEnts (atL ks) (fun k => verAt H (atL ks k)) 0 (c.out x)) (growN d H)) (Ho := c.out x) (res := c.res x)
      hs rfl hm (by omega) (fun k k' hk hk' e => hinj k k' hk hk' e) (fun k hk hk' => by
        obtain ⟨r, rfl⟩ : ∃ r, k = js.length + r := ⟨k - js.length, by omega⟩
        rw [a2 r (by omega)]; omega) hse (fun _ _ => rfl) (by rw [updH_len, hlen]; omega) (fun k hk => by rw [updH_len]; exact hlt k hk)
      (fun k hk => by rw [updH_get ks _ _ hinj hlt (by rw [renEnts_len]; omega) k hk, renEnts_get, Nat.zero_add]) (fun i hi => by
        rw [updH_oth ks _ _ i fun k hk => hi k hk]
        rcases Nat.lt_or_ge i H.length with q | q
        · exact growN_get d H i q
        · rcases Nat.lt_or_ge i (H.length + d) with q2 | q2
          · exact absurd (by rw [a2 (i - H.length) (by omega)]; omega) (hi (js.length + (i - H.length)) (by omega))
          · rw [List.getElem?_eq_none (by omega), List.getElem?_eq_none q]) hb.2 hsv ha
    refine (h.2 x h4 B0 X0 w g0 w vals b1 b2).mono ?_
    rintro e w' ⟨v, g', rfl, c1, c2, c3⟩
    obtain ⟨gn, d1, d2, d3⟩ := b3 w' g' v c1 c2 c3
    exact ⟨v, rfl, _, _, gn, h5, d1, d2, d3⟩
@[reducible] def HC.ci (c : HC) (pick : Pick c.X) : CI := ⟨c.f, heapSpec c pick, false, false⟩
theorem HeapOK.ci {c : HC} (h : HeapOK P c) (hv : ∀ x, verOK c.fr 0 (c.Hs x) (c.out x)) {pick : Pick c.X} (hp : ∀ args H K, pick args H K → ∃ x js, K x js) : (c.ci pick).OK P := ⟨h.spec hv hp, fun h => (by cases h)⟩
@[reducible] def HC.below (c : HC) (m : c.X → Nat) (n : Nat) : HC := ⟨c.f, c.X, c.Hs, c.ags, fun x => c.Pre x ∧ m x < n, c.res, c.out, c.fr, c.cn, c.mt, c.df, c.dfr⟩
theorem heap_flat {c : HC} {fn : Func} (hf : P.funcs[c.f]? = some fn) (hn : (fn.name == "runtime.NumGoroutine") = false) (hb : fn.body.isNone = false) (hv : ∀ x, verOK c.fr 0 (c.Hs x) (c.out x)) (C : c.X → Ctx)
    (hC : ∀ x, CtxOK P (C x)) (h : ∀ x, c.Pre x → HVC (C x) fn c x) (hD : c.DOK P := by exact fun h => nomatch h) : HeapOK P c :=
  ⟨⟨fn, hf, hn, hb⟩, fun x hx _ _ _ _ _ _ hs ha => heap_of_vc hD (hC x) hf (hv x) (h x hx) hs ha⟩
end
attribute [irreducible] HVC
end Go.SX

/- SX, part S: functions that call themselves; results that may be nil. -/
namespace Go.SX
open Go Go.RowKit
section
variable {P : Program} {C : Ctx} {B : Nat} {X : Nat → Prop} {w0 w : World} {H : List Ent} {g : Gh}
@[reducible] def PC.below (c : PC) (m : ADen c.as → Nat) (n : Nat) : PC := ⟨c.f, c.as, c.rs, fun x => c.Pre x ∧ m x < n, c.F⟩
structure NC where
  f : FuncId
  as : List ATy
  t : Ty
  Pre : ADen as → Prop
  F : ADen as → Option (List t.den)
def NilR (w : World) (ok : Nat → Prop) (t : Ty) (o : Option (List t.den)) (v : Value) : Prop :=
  match o with
  | none => v = .slice none 0 0
  | some ys => (Ty.slice t).Rep w ok ys [v]
def NilOK (P : Program) (c : NC) : Prop :=
  (∃ fn, P.funcs[c.f]? = some fn ∧ (fn.name == "runtime.NumGoroutine") = false ∧ fn.body.isNone = false) ∧
  ∀ (ok : Nat → Prop) (x : ADen c.as) (vals : List Value) (w : World), c.Pre x → ArgsR w ok c.as x vals →
    Calls P c.f vals.toArray w fun e w' => ∃ v, e = .returned v ∧ NilR w' (fun b => ok b ∨ w.heap.size ≤ b) c.t (c.F x) v ∧ Below w.heap.size w w'
def nilRes (t : Ty) (sv : SV) (H : List Ent) (o : Option (List t.den)) : Prop :=
  match sv with
  | .c (.raw u) => bif isNil u then o = none else False
  | sv => argDat false (false, .slice t) sv H fun y _ => o = some y
def NilVC (C : Ctx) (fn : Func) (c : NC) (x : ADen c.as) : Prop := runBody C fn (argSVs c.as x) [] fun sv H => nilRes c.t sv H (c.F x)
def nilSpec (c : NC) : Spec := fun args H K =>
  argsDat false c.as args H fun x H => c.Pre x ∧ (c.F x = none → K (.c (.raw (.slice none 0 0))) H) ∧ ∀ ys, c.F x = some ys → K (.c (.ro c.t ys)) H
@[reducible] def NC.ci (c : NC) : CI := ⟨c.f, nilSpec c, false, true⟩
@[reducible] def NC.below (c : NC) (m : ADen c.as → Nat) (n : Nat) : NC := ⟨c.f, c.as, c.t, fun x => c.Pre x ∧ m x < n, c.F⟩
def orSpec (p : List SV → Bool) (s1 s2 : Spec) : Spec := fun args H K => bif p args then s1 args H K else s2 args H K
theorem orSpec_ok {f : FuncId} {p : List SV → Bool} {s1 s2 : Spec} (h1 : SpecOK P f s1) (h2 : SpecOK P f s2) : SpecOK P f (orSpec p s1 s2) := by
  refine ⟨h1.1, fun B X w0 H g w args vals K hsp hs ha => ?_⟩
  unfold orSpec at hsp
  cases hp : p args with
  | true => rw [hp] at hsp; exact h1.2 B X w0 H g w args vals K hsp hs ha
  | false => rw [hp] at hsp; exact h2.2 B X w0 H g w args vals K hsp hs ha
@[reducible] def orCI (p : List SV → Bool) (c1 c2 : CI) : CI := ⟨c1.f, orSpec p c1.s c2.s, false, c1.z && c2.z⟩
theorem orCI_ok {p : List SV → Bool} {c1 c2 : CI} (h1 : c1.OK P) (h2 : c2.OK P) (hf : c1.f = c2.f) : (orCI p c1 c2).OK P := ⟨orSpec_ok h1.1 (by rw [hf]; exact h2.1), fun h => (by cases h)⟩
def nilArg : List SV → Bool
  | .c (.raw u) :: _ => isNil u
  | _ => false
def rocArg : List SV → Bool
  | .c (.roc ..) :: _ => true
  | _ => false
end
attribute [irreducible] NilVC
end Go.SX

/- SX, part T: contracts that are written down as lists of results. -/
namespace Go.SX
open Go Go.RowKit
def Ty.dec : (t : Ty) → DecidableEq t.den
  | .int _ => inferInstanceAs (DecidableEq Int)
  | .bool => inferInstanceAs (DecidableEq Bool)
  | .str => inferInstanceAs (DecidableEq ByteArray)
  | .pair a b => @instDecidableEqProd _ _ a.dec b.dec
  | .slice t => @instDecidableEqList _ t.dec
  | .arr _ t => @instDecidableEqList _ t.dec
def ADen.dec : (as : List ATy) → DecidableEq (ADen as)
  | [] => fun _ _ => isTrue rfl
  | [a] => a.2.dec
  | a :: b :: r => @instDecidableEqProd _ _ a.2.dec (ADen.dec (b :: r))
def tabHas (as rs : List ATy) : List (ADen as × ADen rs) → ADen as → Bool
  | [], _ => false
  | p :: r, x => bif @decide _ (ADen.dec as p.1 x) then true else tabHas as rs r x
def tabF (as rs : List ATy) (d : ADen rs) : List (ADen as × ADen rs) → ADen as → ADen rs
  | [], _ => d
  | p :: r, x => bif @decide _ (ADen.dec as p.1 x) then p.2 else tabF as rs d r x
@[reducible] def tabPC (f : FuncId) (as rs : List ATy) (d : ADen rs) (T : List (ADen as × ADen rs)) : PC := ⟨f, as, rs, fun x => tabHas as rs T x = true, tabF as rs d T⟩
def allVC (c : PC) (C : Ctx) (fn : Func) : List (ADen c.as × ADen c.rs) → Prop
  | [] => True
  | p :: r => c.VC C fn p.1 ∧ allVC c C fn r
instance {k : IntKind} {n : Int} : Decidable (Fits k n) := inferInstanceAs (Decidable (_ ∧ _))
instance {n : Nat} : Decidable (Small n) := inferInstanceAs (Decidable (_ ≤ _))
end Go.SX
