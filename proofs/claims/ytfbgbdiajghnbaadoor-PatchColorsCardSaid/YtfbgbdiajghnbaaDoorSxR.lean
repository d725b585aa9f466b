/- SX, part R: such contracts: from a body, and at a call. -/
import Derived.Test.YtfbgbdiajghnbaaDoorSxQ
namespace Go.SX
open Go Go.RowKit

/-- A function that is handed some rows and variables (entries) and may write them. -/
structure HC where
  f : FuncId
  X : Type
  Hs : X → List Ent
  ags : X → List SV
  Pre : X → Prop
  res : X → SV
  out : X → List Ent
  fr : Nat → Bool

def HeapOK (P : Program) (c : HC) : Prop :=
  (∃ fn, P.funcs[c.f]? = some fn ∧ (fn.name == "runtime.NumGoroutine") = false ∧ fn.body.isNone = false) ∧
  ∀ x, c.Pre x → ∀ B X w0 g w vals, Sat B X w0 (c.Hs x) g w → ArgsRep w (c.Hs x) g (c.ags x) vals →
    Calls P c.f vals.toArray w fun e w' => ∃ v g', e = .returned v ∧ Sat B X w0 (c.out x) g' w' ∧ Evo w (c.Hs x) g w' (c.out x) g' ∧ (c.res x).Rep w' (c.out x) g' v

/-- Versions of rows that may lie elsewhere afterwards. -/
def verOK (fr : Nat → Bool) : Nat → List Ent → List Ent → Prop
  | _, [], [] => True
  | k, a :: r, b :: s => (match a, b with
    | .row _ _ v _, .row _ _ v' _ => bif fr k then (bif Nat.blt v v' then True else False) else True
    | _, _ => True) ∧ verOK fr (k + 1) r s
  | _, _, _ => False

/-- What is to be shown of the body. -/
def HVC (C : Ctx) (fn : Func) (c : HC) (x : c.X) : Prop :=
  runBody C fn (c.ags x) (c.Hs x) fun sv H => SV.leR H (c.out x) sv (c.res x) ∧ entsLe c.fr H (c.out x) 0 H (c.out x)

abbrev Pick (X : Type) := List SV → List Ent → (X → List Nat → Prop) → Prop

/-- Such a contract at a call. -/
def heapSpec (c : HC) (pick : Pick c.X) : Spec := fun args H K => pick args H fun x js =>
  (bif ndL js && (js.all fun j => Nat.blt j H.length) && Nat.beq js.length (c.Hs x).length then True else False) ∧ sameEnts (atL js) (c.Hs x).length H 0 (c.Hs x) ∧ sameVs (atL js) (c.Hs x).length H (c.ags x) args ∧ c.Pre x ∧
    K (renSV (atL js) (fun k => verAt H (atL js k)) (c.res x)) (updH js (renEnts (atL js) (fun k => verAt H (atL js k)) 0 (c.out x)) H)

section
variable {P : Program} {C : Ctx}

theorem verOK_len {fr : Nat → Bool} : {k : Nat} → {l m : List Ent} → verOK fr k l m → l.length = m.length
  | _, [], [], _ => rfl
  | _, _ :: _, _ :: _, h => by simp [verOK_len h.2]
  | _, [], _ :: _, h => h.elim
  | _, _ :: _, [], h => h.elim
theorem verOK_get {fr : Nat → Bool} : {k : Nat} → {l m : List Ent} → verOK fr k l m → ∀ i e t v xs e' t' v' xs', fr (k + i) = true → l[i]? = some (.row e t v xs) → m[i]? = some (.row e' t' v' xs') → v < v'
  | _, [], [], _, i, e, t, v, xs, e', t', v', xs', _, h, _ => by simp at h
  | k, a :: r, b :: s, h, i, e, t, v, xs, e', t', v', xs', hf, h1, h2 => by
    cases i with
    | zero =>
      simp at h1 h2
      subst h1; subst h2
      have h := h.1
      simp only at h
      rw [Nat.add_zero] at hf
      rw [hf] at h
      cases hb : Nat.blt v v' with
      | false => rw [hb] at h; exact h.elim
      | true => exact Nat.le_of_ble_eq_true hb
    | succ i => exact verOK_get h.2 i e t v xs e' t' v' xs' (by rw [show k + 1 + i = k + (i + 1) by omega]; exact hf) (by simpa using h1) (by simpa using h2)

theorem compsLe_sound {w : World} {H H' : List Ent} {g : Gh} {fresh : Nat → Bool} (hH : LeH fresh H H') : {l m : List (Bool × List SC)} → {vs : List Value} → compsLe H H' l m → vs.length = l.length →
    (∀ (j : Nat) (p : Bool × List SC) (u : Value), l[j]? = some p → vs[j]? = some u → CompRep w H g p u) → vs.length = m.length ∧ ∀ (j : Nat) (p : Bool × List SC) (u : Value), m[j]? = some p → vs[j]? = some u → CompRep w H' g p u
  | [], [], vs, _, hl, _ => ⟨hl, fun j p u h => by simp at h⟩
  | p :: r, q :: s, [], _, hl, _ => by simp at hl
  | p :: r, q :: s, v :: vs, h, hl, hr => by
    obtain ⟨h1, h2⟩ := h
    obtain ⟨k1, k2⟩ := compsLe_sound hH h2 (by simpa using hl) (fun j p u q1 q2 => hr (j + 1) p u (by simpa using q1) (by simpa using q2))
    refine ⟨by simp [k1], fun j p' u q1 q2 => ?_⟩
    cases j with
    | zero =>
      simp at q1 q2; subst q1; subst q2
      obtain ⟨us, r1, r2, r3⟩ := hr 0 p v rfl rfl
      cases hb : (p.1 == q.1) with
      | false => rw [hb] at h1; exact h1.elim
      | true =>
        rw [hb] at h1
        have e : p.1 = q.1 := by simpa using hb
        exact ⟨us, leL_sound hH h1 r1, r2, by rw [← e]; exact r3⟩
    | succ j => exact k2 j p' u (by simpa using q1) (by simpa using q2)
  | [], _ :: _, _, h, _, _ => h.elim
  | _ :: _, [], _, h, _, _ => h.elim

theorem leR_sound {w : World} {H H' : List Ent} {g : Gh} {fresh : Nat → Bool} (hH : LeH fresh H H') {x y : SV} {v : Value} (h : SV.leR H H' x y) (hr : x.Rep w H g v) : y.Rep w H' g v := by
  unfold SV.leR at h
  split at h
  · obtain ⟨vs, e, h1, h2⟩ := hr
    obtain ⟨k1, k2⟩ := compsLe_sound hH h h1 h2
    exact ⟨vs, e, k1, k2⟩
  · exact SV.le_sound hH h hr

/-- A contract, from the executor's run of the body. -/
theorem heap_of_vc {c : HC} {fn : Func} {x : c.X} (hC : CtxOK P C) (hf : P.funcs[c.f]? = some fn) (hv : verOK c.fr 0 (c.Hs x) (c.out x)) (h : HVC C fn c x) {B : Nat} {X : Nat → Prop} {w0 : World} {g : Gh} {w : World} {vals : List Value}
    (hs : Sat B X w0 (c.Hs x) g w) (ha : ArgsRep w (c.Hs x) g (c.ags x) vals) :
    Calls P c.f vals.toArray w fun e w' => ∃ v g', e = .returned v ∧ Sat B X w0 (c.out x) g' w' ∧ Evo w (c.Hs x) g w' (c.out x) g' ∧ (c.res x).Rep w' (c.out x) g' v := by
  refine (body_calls hC hf h hs ha).mono ?_
  rintro e w' ⟨v, rfl, sv, H', g', ⟨hk1, hk2⟩, hs', hev, hr⟩
  have hH : LeH c.fr H' (c.out x) := fun i e' hi => by
    obtain ⟨e, q1, q2⟩ := entsLe_sound H' (c.out x) 0 hk2 i e' hi
    rw [Nat.zero_add] at q2
    exact ⟨e, q1, q2⟩
  refine ⟨v, g', rfl, ⟨hs'.os, hs'.tape, hs'.output, hs'.size0, hs'.hB, hs'.okB, hs'.old, fun i e' hi => ?_, fun i j e' f' b hi hj hbi hbj => ?_⟩, ⟨hev.ok, hev.keeps.trans hH.keeps, by rw [verOK_len hv]; exact Nat.le_refl _, fun i hi => hev.ptr i hi, fun i e t ver xs hi hr' => ?_⟩, leR_sound hH hk1 hr⟩
  · obtain ⟨e, q1, q2⟩ := hH i e' hi
    exact Ent.le_OK hH q2 (hs'.ents i e q1)
  · obtain ⟨e, q1, q2⟩ := hH i e' hi
    obtain ⟨f, q3, q4⟩ := hH j f' hj
    exact hs'.apart i j e f b q1 q3 (Ent.le_blocks q2 hbi) (Ent.le_blocks q4 hbj)
  · obtain ⟨e0, q1, q2⟩ := hH i _ hr'
    cases e0 with
    | dead => exact q2.elim
    | blk => exact q2.elim
    | tab => exact q2.elim
    | row e1 t1 ver1 xs1 =>
      simp only [Ent.le] at q2
      cases hb : (Nat.beq e1 e && (c.fr i || Nat.beq ver1 ver)) with
      | false => rw [hb] at q2; exact q2.elim
      | true =>
        rw [hb] at q2
        rw [Bool.and_eq_true] at hb
        have e1e := Nat.eq_of_beq_eq_true hb.1
        subst e1e
        simp only [cond_true] at q2
        split at q2
        · rename_i htt
          subst htt
          subst q2
          obtain ⟨ver0, xs0, r1, r2⟩ := hev.row i _ _ _ _ hi q1
          refine ⟨ver0, xs0, r1, ?_⟩
          cases hfr : c.fr i with
          | true => exact .inl (verOK_get hv i _ _ _ _ _ _ _ _ (by rw [Nat.zero_add]; exact hfr) r1 hr')
          | false =>
            rw [hfr] at hb
            have : ver1 = ver := Nat.eq_of_beq_eq_true (by simpa using hb.2)
            subst this
            exact r2
        · exact q2.elim

/-! ### At a call -/

theorem ndL_inj : {js : List Nat} → ndL js = true → ∀ k k', k < js.length → k' < js.length → atL js k = atL js k' → k = k'
  | [], _, k, k', h, _, _ => by simp at h
  | j :: r, h, k, k', hk, hk', e => by
    simp only [ndL, Bool.and_eq_true, Bool.not_eq_true', List.any_eq_false] at h
    have hno : ∀ m, m < r.length → atL r m ≠ j := fun m hm e' => by
      have := h.1 (atL r m) (mem r m hm)
      rw [e'] at this
      exact this (by simp)
    cases k with
    | zero =>
      cases k' with
      | zero => rfl
      | succ k' => exact absurd e.symm (hno k' (by simpa using hk'))
    | succ k =>
      cases k' with
      | zero => exact absurd e (hno k (by simpa using hk))
      | succ k' => rw [ndL_inj h.2 k k' (by simpa using hk) (by simpa using hk') e]
where
  mem : (r : List Nat) → (m : Nat) → m < r.length → atL r m ∈ r
    | [], m, h => by simp at h
    | j :: r, 0, _ => List.mem_cons_self
    | j :: r, m + 1, h => List.mem_cons_of_mem _ (mem r m (by simpa using h))

theorem updH_len : (js : List Nat) → (es H : List Ent) → (updH js es H).length = H.length
  | [], es, H => by unfold updH; cases es <;> rfl
  | j :: js, [], H => rfl
  | j :: js, e :: es, H => by unfold updH; rw [updH_len js es]; simp
theorem updH_oth : (js : List Nat) → (es H : List Ent) → (i : Nat) → (∀ k, k < js.length → atL js k ≠ i) → (updH js es H)[i]? = H[i]?
  | [], es, H, i, _ => by unfold updH; cases es <;> rfl
  | j :: js, [], H, i, _ => rfl
  | j :: js, e :: es, H, i, h => by
    unfold updH
    rw [updH_oth js es _ i fun k hk => h (k + 1) (by simpa using hk), List.getElem?_set_ne (show j ≠ i from h 0 (by simp))]
theorem updH_get : (js : List Nat) → (es H : List Ent) → (∀ k k', k < js.length → k' < js.length → atL js k = atL js k' → k = k') → (∀ k, k < js.length → atL js k < H.length) → es.length = js.length → ∀ k, k < js.length → (updH js es H)[atL js k]? = es[k]?
  | [], es, H, _, _, _, k, hk => by simp at hk
  | j :: js, [], H, _, _, hl, _, _ => by simp at hl
  | j :: js, e :: es, H, hinj, hlt, hl, k, hk => by
    unfold updH
    cases k with
    | zero =>
      rw [show atL (j :: js) 0 = j from rfl, updH_oth js es _ j fun m hm e' => by
        have := hinj (m + 1) 0 (by simpa using hm) (by simp) e'
        omega]
      rw [List.getElem?_set_self (show j < H.length from hlt 0 (by simp))]
      rfl
    | succ k =>
      rw [show atL (j :: js) (k + 1) = atL js k from rfl, updH_get js es (H.set j e) (fun k k' hk hk' e => by
        have := hinj (k + 1) (k' + 1) (by simpa using hk) (by simpa using hk') e
        omega) (fun k hk => by rw [List.length_set]; exact hlt (k + 1) (by simpa using hk)) (by simpa using hl) k (by simpa using hk)]
      simp
theorem renEnts_get (ρ V : Nat → Nat) : (l : List Ent) → (m k : Nat) → (renEnts ρ V m l)[k]? = (l[k]?).map (renEnt ρ V (m + k))
  | [], m, k => by simp [renEnts]
  | e :: r, m, k => by
    cases k with
    | zero => simp [renEnts]
    | succ k => rw [show m + (k + 1) = m + 1 + k by omega]; simpa [renEnts] using renEnts_get ρ V r (m + 1) k
theorem renEnts_len (ρ V : Nat → Nat) : (l : List Ent) → (m : Nat) → (renEnts ρ V m l).length = l.length
  | [], m => rfl
  | e :: r, m => by simp [renEnts, renEnts_len ρ V r (m + 1)]

/-- The contract serves the executor. -/
theorem HeapOK.spec {c : HC} (h : HeapOK P c) (hv : ∀ x, verOK c.fr 0 (c.Hs x) (c.out x)) {pick : Pick c.X} (hp : ∀ args H K, pick args H K → ∃ x js, K x js) : SpecOK P c.f (heapSpec c pick) := by
  refine ⟨h.1, fun B X w0 H g w args vals K hsp hs ha => ?_⟩
  obtain ⟨x, js, h1, h2, h3, h4, h5⟩ := hp _ _ _ hsp
  cases hb : (ndL js && (js.all fun j => Nat.blt j H.length) && Nat.beq js.length (c.Hs x).length) with
  | false => rw [hb] at h1; exact h1.elim
  | true =>
    simp only [Bool.and_eq_true] at hb
    have e1 := Nat.eq_of_beq_eq_true hb.2
    have hinj := ndL_inj hb.1.1
    have hlt : ∀ k, k < js.length → atL js k < H.length := fun k hk => Nat.le_of_ble_eq_true (List.all_eq_true.1 hb.1.2 _ (ndL_inj.mem js k hk))
    have hol := verOK_len (hv x)
    obtain ⟨B0, X0, g0, a1, a2, a3⟩ := frame_sound (n := (c.Hs x).length) (ρ := atL js) (V := fun k => verAt H (atL js k)) (Hn := updH js (renEnts (atL js) (fun k => verAt H (atL js k)) 0 (c.out x)) H) (Ho := c.out x) (res := c.res x) (C := fun _ _ => True)
      hs rfl hol.symm (fun k k' hk hk' e => hinj k k' (by omega) (by omega) e) h2 (fun _ _ => rfl) (updH_len _ _ _)
      (fun k hk => by rw [updH_get js _ H hinj hlt (by rw [renEnts_len]; omega) k (by omega), renEnts_get, Nat.zero_add]) (fun i hi => updH_oth js _ H i fun k hk => hi k (by omega)) h3 ha
    refine (h.2 x h4 B0 X0 w g0 w vals a1 a2).mono ?_
    rintro e w' ⟨v, g', rfl, b1, b2, b3⟩
    obtain ⟨gn, c1, c2, c3⟩ := a3 w' g' v b1 b2 b3
    exact ⟨v, rfl, _, _, gn, h5, c1, c2, c3⟩

@[reducible] def HC.ci (c : HC) (pick : Pick c.X) : CI := ⟨c.f, heapSpec c pick, false, false⟩
theorem HeapOK.ci {c : HC} (h : HeapOK P c) (hv : ∀ x, verOK c.fr 0 (c.Hs x) (c.out x)) {pick : Pick c.X} (hp : ∀ args H K, pick args H K → ∃ x js, K x js) : (c.ci pick).OK P := ⟨h.spec hv hp, fun h => (by cases h)⟩

/-- The same contract where a measure is below a bound. -/
@[reducible] def HC.below (c : HC) (m : c.X → Nat) (n : Nat) : HC := ⟨c.f, c.X, c.Hs, c.ags, fun x => c.Pre x ∧ m x < n, c.res, c.out, c.fr⟩

/-- A function that calls itself. -/
theorem heap_rec {c : HC} {fn : Func} (m : c.X → Nat) (hf : P.funcs[c.f]? = some fn) (hn : (fn.name == "runtime.NumGoroutine") = false) (hb : fn.body.isNone = false) (hv : ∀ x, verOK c.fr 0 (c.Hs x) (c.out x)) (C : c.X → Ctx)
    (hC : ∀ x, HeapOK P (c.below m (m x)) → CtxOK P (C x)) (h : ∀ x, c.Pre x → HVC (C x) fn c x) : HeapOK P c := by
  have key : ∀ n, HeapOK P (c.below m n) := by
    intro n
    induction n with
    | zero => exact ⟨⟨fn, hf, hn, hb⟩, fun x hx => absurd hx.2 (Nat.not_lt_zero _)⟩
    | succ n ih =>
      refine ⟨⟨fn, hf, hn, hb⟩, fun x hx B X w0 g w vals hs ha => ?_⟩
      have hlow : HeapOK P (c.below m (m x)) := ⟨ih.1, fun y hy => ih.2 y ⟨hy.1, by have := hx.2; have := hy.2; omega⟩⟩
      exact heap_of_vc (hC x hlow) hf (hv x) (h x hx.1) hs ha
  exact ⟨⟨fn, hf, hn, hb⟩, fun x hx => (key (m x + 1)).2 x ⟨hx, Nat.lt_succ_self _⟩⟩

theorem heap_flat {c : HC} {fn : Func} (hf : P.funcs[c.f]? = some fn) (hn : (fn.name == "runtime.NumGoroutine") = false) (hb : fn.body.isNone = false) (hv : ∀ x, verOK c.fr 0 (c.Hs x) (c.out x)) (C : c.X → Ctx)
    (hC : ∀ x, CtxOK P (C x)) (h : ∀ x, c.Pre x → HVC (C x) fn c x) : HeapOK P c :=
  ⟨⟨fn, hf, hn, hb⟩, fun x hx _ _ _ _ _ _ hs ha => heap_of_vc (hC x) hf (hv x) (h x hx) hs ha⟩
end
attribute [irreducible] HVC
end Go.SX
