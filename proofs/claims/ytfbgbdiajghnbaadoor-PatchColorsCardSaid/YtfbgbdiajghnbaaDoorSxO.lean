/- SX, part O: the table of types, checked by computation; small helps. -/
import Derived.Test.YtfbgbdiajghnbaaDoorSxN
namespace Go.SX
open Go Go.RowKit

def simpleEq : Value → Value → Bool
  | .int k n, .int k' n' => decide (k = k') && decide (n = n')
  | .bool a, .bool b => a == b
  | .string a, .string b => decide (a = b)
  | .slice none n c, .slice none n' c' => Nat.beq n n' && Nat.beq c c'
  | .pointer none, .pointer none => true
  | .map none, .map none => true
  | .nilIface, .nilIface => true
  | .nilFunc, .nilFunc => true
  | _, _ => false

theorem simpleEq_eq {a b : Value} (h : simpleEq a b = true) : a = b := by
  unfold simpleEq at h
  split at h <;> simp_all

theorem simpleEq_one {a b : Value} (h : simpleEq a b = true) : a.oneCell' = true := by
  unfold simpleEq at h
  split at h <;> first | rfl | cases h

def simpleEqs : List Value → List Value → Bool
  | [], [] => true
  | a :: r, b :: s => simpleEq a b && simpleEqs r s
  | _, _ => false

theorem simpleEqs_eq : {a b : List Value} → simpleEqs a b = true → a = b ∧ ∀ u ∈ a, u.oneCell' = true
  | [], [], _ => ⟨rfl, fun u hu => by simp at hu⟩
  | x :: r, y :: s, h => by
    simp only [simpleEqs, Bool.and_eq_true] at h
    obtain ⟨e, h1⟩ := simpleEqs_eq h.2
    refine ⟨by rw [simpleEq_eq h.1, e], fun u hu => ?_⟩
    rcases List.mem_cons.1 hu with h2 | h2
    · subst h2; exact simpleEq_one h.1
    · exact h1 u h2
  | [], _ :: _, h => by simp [simpleEqs] at h
  | _ :: _, [], h => by simp [simpleEqs] at h

def fieldsEq : List Field → List (Nat × TypeId) → Bool
  | [], [] => true
  | f :: r, p :: s => Nat.beq f.offset p.1 && Nat.beq f.type p.2 && fieldsEq r s
  | _, _ => false

theorem fieldsEq_eq : {a : List Field} → {b : List (Nat × TypeId)} → fieldsEq a b = true → a.map (fun f => (f.offset, f.type)) = b
  | [], [], _ => rfl
  | f :: r, p :: s, h => by
    simp only [fieldsEq, Bool.and_eq_true] at h
    simp [Nat.eq_of_beq_eq_true h.1.1, Nat.eq_of_beq_eq_true h.1.2, fieldsEq_eq h.2]
  | [], _ :: _, h => by simp [fieldsEq] at h
  | _ :: _, [], h => by simp [fieldsEq] at h

def De.chk (u : Option TypeDesc) : De → Bool
  | .other => match u with
    | some (.struct _) | some (.array _ _) | none => false
    | some _ => true
  | .int k => match u with | some (.int k') => decide (k = k') | _ => false
  | .bool => match u with | some .bool => true | _ => false
  | .str => match u with | some .string => true | _ => false
  | .slice e => match u with | some (.slice e') => Nat.beq e e' | _ => false
  | .struct fs => match u with | some (.struct fields) => fieldsEq fields.toList fs | _ => false
  | .array n e => match u with | some (.array n' e') => Nat.beq n n' && Nat.beq e e' | _ => false
  | .ptr e => match u with | some (.pointer e') => Nat.beq e e' | _ => false
  | .map k e => match u with | some (.map k' e') => Nat.beq k k' && Nat.beq e e' | _ => false

theorem De.chk_fits {P : Program} {t : TypeId} {d : De} (h : d.chk (P.underlying t) = true) : d.Fits P t := by
  cases d <;> simp only [De.chk, De.Fits] at h ⊢
  case other =>
    generalize P.underlying t = u at h
    match u, h with
    | some .invalid, _ | some .bool, _ | some (.int _), _ | some (.float _), _ | some (.complex _), _ | some .string, _ | some .unsafePointer, _ | some (.pointer _), _ | some (.slice _), _ | some (.map _ _), _
    | some (.chan _ _), _ | some (.func _ _ _), _ | some (.interface _), _ | some (.tuple _), _ | some (.named _ _), _ => exact ⟨_, rfl, fun _ h => (by cases h), fun _ _ h => (by cases h)⟩
  case int k =>
    generalize P.underlying t = u at h ⊢
    match u, h with
    | some (.int k'), h => rw [of_decide_eq_true h]
  case bool =>
    generalize P.underlying t = u at h ⊢
    match u, h with
    | some .bool, h => rfl
  case str =>
    generalize P.underlying t = u at h ⊢
    match u, h with
    | some .string, h => rfl
  case slice e =>
    generalize P.underlying t = u at h ⊢
    match u, h with
    | some (.slice e'), h => rw [Nat.eq_of_beq_eq_true h]
  case struct fs =>
    generalize P.underlying t = u at h ⊢
    match u, h with
    | some (.struct fields), h => exact ⟨fields, rfl, fieldsEq_eq h⟩
  case array n e =>
    generalize P.underlying t = u at h ⊢
    match u, h with
    | some (.array n' e'), h =>
      simp only [Bool.and_eq_true] at h
      rw [Nat.eq_of_beq_eq_true h.1, Nat.eq_of_beq_eq_true h.2]
  case ptr e =>
    generalize P.underlying t = u at h ⊢
    match u, h with
    | some (.pointer e'), h => rw [Nat.eq_of_beq_eq_true h]
  case map k e =>
    generalize P.underlying t = u at h ⊢
    match u, h with
    | some (.map k' e'), h =>
      simp only [Bool.and_eq_true] at h
      rw [Nat.eq_of_beq_eq_true h.1, Nat.eq_of_beq_eq_true h.2]

def TI.chk (P : Program) (t : TypeId) (ti : TI) : Bool :=
  (match P.info? t with
  | some i => Nat.beq i.size ti.size && Nat.beq i.bytes ti.bytes && (match i.zero with
    | some z => simpleEqs ti.zero z.cells.toList && (match ti.desc.isAgg, z with | true, .agg _ => true | true, _ => false | false, .agg _ => false | false, _ => Nat.beq ti.size 1)
    | none => false)
  | none => false) && ti.desc.chk (P.underlying t) && Nat.beq ti.zero.length ti.size &&
  (match ti.ty with | some T => Nat.beq T.size ti.size && simpleEqs T.zeros ti.zero | none => true) &&
  (!ti.eqs || (!P.stoodInHeld t && !P.eqGuardType P.depth t && (match P.underlying t with | some (.struct fields) => fields.toList.all (fun f => !(f.name == "_")) | _ => true)))

theorem TI.chk_ok {P : Program} {t : TypeId} {ti : TI} (h : ti.chk P t = true) : TIok P t ti := by
  unfold TI.chk at h
  simp only [Bool.and_eq_true] at h
  obtain ⟨⟨⟨⟨h1, h2⟩, h3⟩, h4⟩, h5⟩ := h
  cases hi : P.info? t with
  | none => rw [hi] at h1; cases h1
  | some i =>
    rw [hi] at h1
    simp only [Bool.and_eq_true] at h1
    obtain ⟨⟨q1, q2⟩, q3⟩ := h1
    cases hz : i.zero with
    | none => rw [hz] at q3; cases q3
    | some z =>
      rw [hz] at q3
      simp only [Bool.and_eq_true] at q3
      obtain ⟨q4, q5⟩ := q3
      obtain ⟨e1, e2⟩ := simpleEqs_eq q4
      refine ⟨⟨i, hi, Nat.eq_of_beq_eq_true q1, Nat.eq_of_beq_eq_true q2, z, hz, e1.symm, fun ha => ?_⟩, De.chk_fits h2, Nat.eq_of_beq_eq_true h3, fun ha => ?_, fun ha i' z' hi' hz' => ?_, e2, fun T hT => ?_, fun he => ?_⟩
      · rw [ha] at q5
        cases z <;> first | (simp at q5; done) | skip
        rename_i cs
        simp only [Value.cells] at e1
        rw [e1]
      · rw [ha] at q5
        cases z <;> first | exact Nat.eq_of_beq_eq_true q5 | (simp at q5; done)
      · rw [hi] at hi'
        obtain rfl : i = i' := by simpa using hi'
        rw [hz] at hz'
        obtain rfl : z = z' := by simpa using hz'
        rw [e1]
        rw [ha] at q5
        cases z <;> first | rfl | (simp at q5; done)
      · rw [hT] at h4
        simp only [Bool.and_eq_true] at h4
        exact ⟨Nat.eq_of_beq_eq_true h4.1, (simpleEqs_eq h4.2).1⟩
      · rw [he] at h5
        simp only [Bool.not_true, Bool.false_or, Bool.and_eq_true, Bool.not_eq_true'] at h5
        refine ⟨h5.1.1, h5.1.2, fun fields hu f hf => ?_⟩
        rw [hu] at h5
        have := List.all_eq_true.1 h5.2 f hf
        simpa using this

def chkAll (P : Program) : List (TypeId × TI) → Bool
  | [] => true
  | p :: r => p.2.chk P p.1 && chkAll P r

theorem chkAll_ok {P : Program} : {l : List (TypeId × TI)} → chkAll P l = true → ∀ t ti, tyFind t l = some ti → TIok P t ti
  | [], _, t, ti, h => by simp [tyFind] at h
  | (k, i) :: r, h, t, ti, hf => by
    simp only [chkAll, Bool.and_eq_true] at h
    unfold tyFind at hf
    cases hk : Nat.beq k t with
    | true =>
      rw [hk] at hf
      have := Nat.eq_of_beq_eq_true hk
      subst this
      simp only [cond_true, Option.some.injEq] at hf
      subst hf
      exact TI.chk_ok h.1
    | false => rw [hk] at hf; exact chkAll_ok h.2 t ti hf

/-- The contracts at hand. -/
def SpecsOK (P : Program) : List (FuncId × Spec) → Prop
  | [] => True
  | p :: r => SpecOK P p.1 p.2 ∧ SpecsOK P r

theorem SpecsOK.find {P : Program} : {l : List (FuncId × Spec)} → SpecsOK P l → ∀ f s, specFind f l = some s → SpecOK P f s
  | [], _, f, s, h => by simp [specFind] at h
  | (k, i) :: r, h, f, s, hf => by
    unfold specFind at hf
    cases hk : Nat.beq k f with
    | true =>
      rw [hk] at hf
      have := Nat.eq_of_beq_eq_true hk
      subst this
      simp only [cond_true, Option.some.injEq] at hf
      subst hf
      exact h.1
    | false => rw [hk] at hf; exact SpecsOK.find h.2 f s hf

/-- What the executor knows of a function, and whether that leaves alone all that was there. -/
structure CI where
  f : FuncId
  s : Spec
  k : Bool
  z : Bool

def CI.OK (P : Program) (c : CI) : Prop := SpecOK P c.f c.s ∧ (c.k = true → SpecKeeps P c.f c.s)

def CsOK (P : Program) : List CI → Prop
  | [] => True
  | c :: r => c.OK P ∧ CsOK P r

def consOf : List CI → List (FuncId × Spec)
  | [] => []
  | c :: r => (c.f, c.s) :: consOf r

def keepOf : List CI → FuncId → Bool
  | [], _ => false
  | c :: r, f => bif Nat.beq c.f f then c.k else keepOf r f

def frzOf : List CI → FuncId → Bool
  | [], _ => false
  | c :: r, f => bif Nat.beq c.f f then c.z else frzOf r f

theorem cons_ok {P : Program} : (l : List CI) → CsOK P l → ∀ f s, specFind f (consOf l) = some s → SpecOK P f s ∧ (keepOf l f = true → SpecKeeps P f s)
  | [], _, f, s, h => by simp [consOf, specFind] at h
  | c :: r, hl, f, s, hf => by
    unfold consOf specFind at hf
    unfold keepOf
    cases hk : Nat.beq c.f f with
    | true =>
      rw [hk] at hf
      have := Nat.eq_of_beq_eq_true hk
      subst this
      simp only [cond_true, Option.some.injEq] at hf
      subst hf
      exact hl.1
    | false => rw [hk] at hf; exact cons_ok r hl.2 f s hf

/-- The context of a text: types, contracts, loops. -/
@[reducible] def ctxOf (tys : List (TypeId × TI)) (cs : List CI) (ann : Nat → Option (St → Ann)) : Ctx := ⟨tys, consOf cs, ann, keepOf cs, frzOf cs⟩

theorem ctx_ok {P : Program} {tys : List (TypeId × TI)} (hm : P.follows .mixedOrders = true) (h1 : ∀ t ti, tyFind t tys = some ti → TIok P t ti) {cs : List CI} (h : CsOK P cs) (ann : Nat → Option (St → Ann)) : CtxOK P (ctxOf tys cs ann) :=
  ⟨h1, fun f s hf => (cons_ok cs h f s hf).1, fun f s hk hf => (cons_ok cs h f s hf).2 hk, hm⟩

/-- A function over plain data. -/
structure PC where
  f : FuncId
  as : List ATy
  rs : List ATy
  Pre : ADen as → Prop
  F : ADen as → ADen rs

@[reducible] def PC.OK (P : Program) (c : PC) : Prop := PureOK P c.f c.as c.rs c.Pre c.F
@[reducible] def PC.ci (c : PC) : CI := ⟨c.f, pureSpec c.as c.rs c.Pre c.F, true, !(c.rs.all fun r => r.2.flat)⟩
theorem PC.OK.ci {P : Program} {c : PC} (h : c.OK P) : c.ci.OK P := ⟨PureOK.spec h, fun _ => PureOK.keeps h⟩

/-- A function that is entered at its calls. -/
@[reducible] def inl (f : FuncId) (fn : Func) (C : Ctx) : CI := ⟨f, runBody C fn, false, false⟩
theorem inl_ok {P : Program} {f : FuncId} {fn : Func} {C : Ctx} (hC : CtxOK P C) (hf : P.funcs[f]? = some fn) (hn : (fn.name == "runtime.NumGoroutine") = false) (hb : fn.body.isNone = false) : (inl f fn C).OK P :=
  ⟨runBody_spec hC hf hn hb, fun h => (by cases h)⟩

/-- What is to be shown of a function over plain data. -/
@[reducible] def PC.VC (c : PC) (C : Ctx) (fn : Func) (x : ADen c.as) : Prop := PureVC C fn c.as c.rs c.F x

theorem PC.ok {P : Program} (c : PC) {fn : Func} (C : ADen c.as → Ctx) (hC : ∀ x, CtxOK P (C x)) (hf : P.funcs[c.f]? = some fn) (hn : (fn.name == "runtime.NumGoroutine") = false) (hb : fn.body.isNone = false)
    (h : ∀ x, c.Pre x → c.VC (C x) fn x) : c.OK P := pure_of_vc C hC hf hn hb h

/-- A loop without annotation of its own data. -/
def annOf (n : Nat) : List (Nat × (St → Ann)) → Option (St → Ann)
  | [] => none
  | (k, a) :: r => bif Nat.beq k n then some a else annOf n r

theorem fits_i64 {n : Int} (h1 : -1000000000000000000 ≤ n) (h2 : n ≤ 1000000000000000000) : Fits .i64 n := by
  unfold Fits
  have e1 : IntKind.i64.min = -9223372036854775808 := by decide
  have e2 : IntKind.i64.max = 9223372036854775807 := by decide
  rw [e1, e2]
  omega

theorem PureOK.imp {P : Program} {f : FuncId} {as rs : List ATy} {Pre Pre' : ADen as → Prop} {F F' : ADen as → ADen rs} (h : PureOK P f as rs Pre F) (hp : ∀ x, Pre' x → Pre x) (hf : ∀ x, Pre' x → F x = F' x) : PureOK P f as rs Pre' F' :=
  ⟨h.1, fun ok x vals w hpre ha => by rw [← hf x hpre]; exact h.2 ok x vals w (hp x hpre) ha⟩

end Go.SX
