/- SX, part L: loops; the executor over code is sound. -/
import Derived.Test.YtfbgbdiajghnbaaDoorSxKA
namespace Go.SX
open Go Go.RowKit

section
variable {P : Program} {I : Ini} {C : Ctx} {w : World} {H H' : List Ent} {g : Gh} {fresh : Nat → Bool}

/-- Each entry of the one heap stands in the other. -/
def LeH (fresh : Nat → Bool) (H H' : List Ent) : Prop := ∀ (i : Nat) (e' : Ent), H'[i]? = some e' → ∃ e, H[i]? = some e ∧ Ent.le H H' (fresh i) e e'

theorem entsLe_sound : (H0 : List Ent) → (H1 : List Ent) → (k : Nat) → entsLe fresh H H' k H0 H1 → ∀ (i : Nat) (e' : Ent), H1[i]? = some e' → ∃ e, H0[i]? = some e ∧ Ent.le H H' (fresh (k + i)) e e'
  | _, [], _, _, i, e', h => by simp at h
  | [], _ :: _, _, h, _, _, _ => h.elim
  | a :: r, b :: s, k, h, i, e', hi => by
    cases i with
    | zero => simp at hi; subst hi; exact ⟨a, rfl, h.1⟩
    | succ i =>
      obtain ⟨e, h1, h2⟩ := entsLe_sound r s (k + 1) h.2 i e' (by simpa using hi)
      exact ⟨e, by simpa using h1, by rw [show k + (i + 1) = k + 1 + i by omega]; exact h2⟩

theorem Ent.le_blocks {f : Bool} {i b : Nat} : {e e' : Ent} → Ent.le H H' f e e' → e'.blocks g i b → e.blocks g i b
  | _, .dead, _, h => h.elim
  | .blk .., .blk .., _, h => h
  | .row .., .row .., _, h => h
  | .tab .., .tab .., _, h => h
  | .dead, .blk .., h, _ => h.elim
  | .dead, .row .., h, _ => h.elim
  | .dead, .tab .., h, _ => h.elim
  | .blk .., .row .., h, _ => h.elim
  | .blk .., .tab .., h, _ => h.elim
  | .row .., .blk .., h, _ => h.elim
  | .row .., .tab .., h, _ => h.elim
  | .tab .., .blk .., h, _ => h.elim
  | .tab .., .row .., h, _ => h.elim

theorem LeH.owned (h : LeH fresh H H') {b : Nat} (ho : Owned H' g b) : Owned H g b := by
  obtain ⟨i, e', h1, h2⟩ := ho
  obtain ⟨e, h3, h4⟩ := h i e' h1
  exact ⟨i, e, h3, Ent.le_blocks h4 h2⟩

theorem LeH.keeps (h : LeH fresh H H') : Keeps w (Stable H g) w (Stable H' g) := ⟨Nat.le_refl _, fun _ _ hs => ⟨⟨hs.1, fun ho => hs.2 (h.owned ho)⟩, rfl⟩⟩

theorem decide_iff {p q : Prop} {dp : Decidable p} {dq : Decidable q} (h : p ↔ q) : @decide p dp = @decide q dq := by
  by_cases hp : p
  · have hq := h.1 hp
    simp [hp, hq]
  · have hq : ¬ q := fun hq => hp (h.2 hq)
    simp [hp, hq]

theorem bool_iff {b : Bool} {p : Prop} {d : Decidable p} (h : b = true ↔ p) : b = @decide p d := by
  cases b with
  | true => exact (decide_eq_true (h.1 rfl)).symm
  | false => exact (decide_eq_false (fun hp => by have := h.2 hp; cases this)).symm

theorem SC.le_sound (hH : LeH fresh H H') {x y : SC} {v : Value} (h : SC.le H H' x y) (hr : x.Rep w H g v) : y.Rep w H' g v := by
  cases y with
  | any => trivial
  | int k' n' =>
    cases x with
    | int k n =>
      by_cases e : k = k'
      · subst e
        have hn : n = n' := by simpa [SC.le] using h
        subst hn
        exact hr
      · simp only [SC.le, decide_eq_false e, cond_false] at h
    | _ => exact h.elim
  | prop id q dq =>
    cases x with
    | prop _ p d => have e : v = _ := hr; rw [e]; show Value.bool _ = Value.bool _; rw [decide_iff h]
    | bool _ b =>
      have e : v = .bool _ := hr
      rw [e]; show Value.bool _ = Value.bool _
      rw [bool_iff h]
    | kb b =>
      have e : v = .bool _ := hr
      rw [e]; show Value.bool _ = Value.bool _
      rw [bool_iff h]
    | _ => exact h.elim
  | bool id b' =>
    cases x with
    | prop _ p d =>
      have h' : @decide p d = b' := h
      have e : v = _ := hr
      rw [e]; show Value.bool _ = Value.bool _; rw [h']
    | bool _ b => have h' : b = b' := h; subst h'; exact hr
    | kb b => have h' : b = b' := h; subst h'; exact hr
    | _ => exact h.elim
  | kb b' =>
    cases x with
    | kb b =>
      have h' : (bif b == b' then True else False) := h
      cases hb : b == b' with
      | false => rw [hb] at h'; exact h'.elim
      | true =>
        have : b = b' := by simpa using hb
        subst this; exact hr
    | prop id p d =>
      have e : v = .bool (@decide p d) := hr
      rw [e]; show Value.bool _ = Value.bool _
      congr 1
      cases b' with
      | true => exact decide_eq_true (p := p) h
      | false => exact decide_eq_false (p := p) h
    | bool _ b =>
      have h' : b = b' := h
      have e : v = .bool _ := hr
      rw [e]; show Value.bool _ = Value.bool _
      rw [h']
    | _ => exact h.elim
  | str s' =>
    cases x with
    | str s => have h' : s = s' := h; subst h'; exact hr
    | _ => exact h.elim
  | ptr j o' =>
    cases x with
    | ptr i o =>
      have h' : (bif Nat.beq i j && Nat.beq o o' && Nat.blt j H'.length then True else False) := h
      cases hb : (Nat.beq i j && Nat.beq o o' && Nat.blt j H'.length) with
      | false => rw [hb] at h'; exact h'.elim
      | true =>
        rw [Bool.and_eq_true, Bool.and_eq_true] at hb
        have h1 := Nat.eq_of_beq_eq_true hb.1.1
        have h2 := Nat.eq_of_beq_eq_true hb.1.2
        have h3 : j < H'.length := by simpa [Nat.blt_eq] using hb.2
        subst h1; subst h2
        exact ⟨h3, hr.2⟩
    | _ => exact h.elim
  | tab j =>
    cases x with
    | tab i =>
      have h' : (bif Nat.beq i j && Nat.blt j H'.length then True else False) := h
      cases hb : (Nat.beq i j && Nat.blt j H'.length) with
      | false => rw [hb] at h'; exact h'.elim
      | true =>
        rw [Bool.and_eq_true] at hb
        have h1 := Nat.eq_of_beq_eq_true hb.1
        have h3 : j < H'.length := by simpa [Nat.blt_eq] using hb.2
        subst h1
        exact ⟨h3, hr.2⟩
    | _ => exact h.elim
  | ro t' xs' =>
    cases x with
    | ro t xs =>
      have h' : if h : t = t' then (h ▸ xs) = xs' else False := h
      split at h'
      · rename_i ht
        subst ht
        subst h'
        exact Ty.Rep.mono hH.keeps (.slice t) hr
      · exact h'.elim
    | raw u =>
      have h' : (bif isNil u then xs' = [] else False) := h
      cases hu : isNil u with
      | false => rw [hu] at h'; exact h'.elim
      | true =>
        rw [hu] at h'
        have hx : xs' = [] := h'
        subst hx
        have e : v = u := hr
        exact ⟨none, 0, by rw [e, isNil_eq hu]; rfl, Nat.le_refl _, fun h => absurd rfl h⟩
    | _ => exact h.elim
  | raw u' =>
    cases x with
    | raw u => have h' : u = u' := h; subst h'; exact hr
    | _ => exact h.elim
  | own j ver' =>
    cases x with
    | own i ver =>
      cases hb : Nat.beq i j with
      | false => simp only [SC.le, hb, cond_false] at h
      | true =>
        simp only [SC.le, hb, cond_true] at h
        have hij := Nat.eq_of_beq_eq_true hb
        subst hij
        obtain ⟨h1, hr⟩ := hr
        unfold OwnRep at hr
        cases q1 : H[i]? with
        | none => rw [q1] at hr; exact hr.elim
        | some en =>
          cases q2 : H'[i]? with
          | none => rw [q1, q2] at h; cases en <;> exact h.elim
          | some en' =>
            rw [q1, q2] at h
            cases en with
            | dead => exact h.elim
            | blk => exact h.elim
            | tab => exact h.elim
            | row e t v1 xs =>
              cases en' with
              | dead => exact h.elim
              | blk => exact h.elim
              | tab => exact h.elim
              | row e' t' v2 xs' =>
                simp only at h
                rw [q1] at hr
                cases hb2 : (Nat.beq ver v1 && Nat.beq ver' v2) with
                | false => rw [hb2] at h; exact h.elim
                | true =>
                  rw [Bool.and_eq_true] at hb2
                  have e1 := Nat.eq_of_beq_eq_true hb2.1
                  have e2 := Nat.eq_of_beq_eq_true hb2.2
                  refine ⟨h1, ?_⟩
                  unfold OwnRep
                  rw [q2]
                  exact ⟨by omega, fun _ => hr.2 e1⟩
    | _ => exact h.elim
  | fn f' cs' =>
    cases x with
    | fn f cs =>
      have h' : (bif Nat.beq f f' && natsEq cs cs' && cs.all (fun i => Nat.blt i H'.length) then True else False) := h
      cases hb : (Nat.beq f f' && natsEq cs cs' && cs.all (fun i => Nat.blt i H'.length)) with
      | false => rw [hb] at h'; exact h'.elim
      | true =>
        rw [Bool.and_eq_true, Bool.and_eq_true] at hb
        have hf := Nat.eq_of_beq_eq_true hb.1.1
        have hc : cs = cs' := natsEq_eq hb.1.2
        subst hf; subst hc
        exact ⟨hr.1, fun i hi => by have := List.all_eq_true.1 hb.2 i hi; simpa [Nat.blt_eq] using this⟩
    | _ => exact h.elim
  | roa => cases x <;> exact h.elim
  | owna => cases x <;> exact h.elim
  | pre => cases x <;> exact h.elim

theorem leL_sound (hH : LeH fresh H H') : {l m : List SC} → {vs : List Value} → leL H H' l m → Reps w H g l vs → Reps w H' g m vs
  | [], [], vs, _, hr => ⟨hr.1, fun j c v h1 _ => by simp at h1⟩
  | x :: r, y :: s, vs, h, hr => by
    match vs, hr with
    | [], hr => exact absurd hr.1 (by simp)
    | v :: vs, hr =>
      have ih := leL_sound hH (vs := vs) h.2 ⟨by simpa using hr.1, fun j c u h1 h2 => hr.2 (j + 1) c u (by simpa using h1) (by simpa using h2)⟩
      refine ⟨by simp [ih.1], fun j c u h1 h2 => ?_⟩
      cases j with
      | zero => simp at h1 h2; subst h1; subst h2; exact SC.le_sound hH h.1 (hr.2 0 x v rfl rfl)
      | succ j => exact ih.2 j c u (by simpa using h1) (by simpa using h2)
  | [], _ :: _, _, h, _ => h.elim
  | _ :: _, [], _, h, _ => h.elim

theorem SV.le_sound (hH : LeH fresh H H') {x y : SV} {v : Value} (h : SV.le H H' x y) (hr : x.Rep w H g v) : y.Rep w H' g v := by
  unfold SV.le at h
  split at h
  · trivial
  · exact SC.le_sound hH h hr
  · obtain ⟨vs, h1, h2, h3⟩ := hr; exact ⟨vs, h1, leL_sound hH h h2, h3⟩
  · exact h.elim

theorem Ent.le_OK {B : Nat} {X : Nat → Prop} (hH : LeH fresh H H') {i : Nat} {f : Bool} : {e e' : Ent} → Ent.le H H' f e e' → e.OK B X w H g i → e'.OK B X w H' g i
  | _, .dead, _, _ => trivial
  | .blk t cs, .blk t' cs', h, ⟨vs, h1, h2, h3, h4⟩ => by
    simp only [Ent.le] at h
    cases hb : Nat.beq t t' with
    | false => rw [hb] at h; exact h.elim
    | true =>
      rw [hb] at h
      have := Nat.eq_of_beq_eq_true hb
      subst this
      exact ⟨vs, h1, leL_sound hH h h2, h3, h4⟩
  | .row e t ver xs, .row e' t' ver' xs', h, ⟨cells, h1, h2, h3, h4⟩ => by
    simp only [Ent.le] at h
    cases hb : (Nat.beq e e' && (f || Nat.beq ver ver')) with
    | false => rw [hb] at h; exact h.elim
    | true =>
      rw [hb] at h
      rw [Bool.and_eq_true] at hb
      have := Nat.eq_of_beq_eq_true hb.1
      subst this
      simp only [cond_true] at h
      split at h
      · rename_i ht
        subst ht
        subst h
        exact ⟨cells, h1, h2.mono (fun _ _ h => Ty.Rep.mono hH.keeps t h) (fun _ _ h => h), h3, h4⟩
      · exact h.elim
  | .tab a t es, .tab a' t' es', h, ⟨ents, c, h1, h2, h3⟩ => by
    simp only [Ent.le] at h
    cases hb : (a == a') with
    | false => rw [hb] at h; exact h.elim
    | true =>
      rw [hb] at h
      simp only [cond_true] at h
      have : a = a' := by simpa using hb
      subst this
      split at h
      · rename_i ht
        subst ht
        subst h
        exact ⟨ents, c, h1, h2.mono hH.keeps, h3⟩
      · exact h.elim
  | .dead, .blk .., h, _ => h.elim
  | .dead, .row .., h, _ => h.elim
  | .dead, .tab .., h, _ => h.elim
  | .blk .., .row .., h, _ => h.elim
  | .blk .., .tab .., h, _ => h.elim
  | .row .., .blk .., h, _ => h.elim
  | .row .., .tab .., h, _ => h.elim
  | .tab .., .blk .., h, _ => h.elim
  | .tab .., .row .., h, _ => h.elim

theorem slotsLe_sound (hH : LeH fresh H H') {t : List (Nat × SV)} {get : Nat → Value} (ht : ∀ d, (findT d t).Rep w H g (get d)) : (l : List (Nat × SV)) → slotsLe t H H' l → ∀ d, (findT d l).Rep w H' g (get d)
  | [], _, d => trivial
  | (k, v) :: r, h, d => by
    unfold findT
    cases hk : Nat.beq k d with
    | true =>
      have := Nat.eq_of_beq_eq_true hk
      subst this
      exact SV.le_sound hH h.1 (ht k)
    | false => exact slotsLe_sound hH ht r h.2 d

theorem St.le_sound {st inv : St} {a : Act} (hn : st.n = inv.n) (h : St.le fresh st inv) (hlen : I.Hi.length ≤ inv.h.length)
    (hver : ∀ i e t ver xs, i < I.Hi.length → fresh i = true → inv.h[i]? = some (.row e t ver xs) → ∀ ver0 xs0, I.Hi[i]? = some (.row e t ver0 xs0) → ver0 < ver)
    (hh : Holds I st a w) : Holds I inv a w := by
  obtain ⟨h1, h2, hn0, g, hs, hev, ht⟩ := hh
  have hH : LeH fresh st.h inv.h := fun i e' hi => by
    obtain ⟨e, q1, q2⟩ := entsLe_sound st.h inv.h 0 h.1 i e' hi
    rw [Nat.zero_add] at q2
    exact ⟨e, q1, q2⟩
  refine ⟨h1, h2.trans hn, hn.symm.trans hn0, g, ⟨hs.os, hs.tape, hs.output, hs.size0, hs.hB, hs.okB, hs.old, fun i e' hi => ?_, fun i j e' f' b hi hj hbi hbj => ?_⟩, ⟨hev.ok, hev.keeps.trans hH.keeps, hlen, fun i hi => hev.ptr i hi, fun i e t ver xs hi hr => ?_⟩, slotsLe_sound hH ht inv.t h.2⟩
  · obtain ⟨e, q1, q2⟩ := hH i e' hi
    exact Ent.le_OK hH q2 (hs.ents i e q1)
  · obtain ⟨e, q1, q2⟩ := hH i e' hi
    obtain ⟨f, q3, q4⟩ := hH j f' hj
    exact hs.apart i j e f b q1 q3 (Ent.le_blocks q2 hbi) (Ent.le_blocks q4 hbj)
  · obtain ⟨e0, q1, q2⟩ := hH i _ hr
    cases e0 with
    | dead => exact q2.elim
    | blk => exact q2.elim
    | tab => exact q2.elim
    | row e1 t1 ver1 xs1 =>
      simp only [Ent.le] at q2
      cases hb : (Nat.beq e1 e && (fresh i || Nat.beq ver1 ver)) with
      | false => rw [hb] at q2; exact q2.elim
      | true =>
        rw [hb] at q2
        rw [Bool.and_eq_true] at hb
        have e1e := Nat.eq_of_beq_eq_true hb.1
        subst e1e
        simp only [cond_true] at q2
        split at q2
        · rename_i htt
          subst htt
          subst q2
          obtain ⟨ver0, xs0, r1, r2⟩ := hev.row i _ _ _ _ hi q1
          refine ⟨ver0, xs0, r1, ?_⟩
          cases hf : fresh i with
          | true => exact .inl (hver i _ _ _ _ hi hf hr ver0 xs0 r1)
          | false =>
            rw [hf] at hb
            have : ver1 = ver := Nat.eq_of_beq_eq_true (by simpa using hb.2)
            subst this
            exact r2
        · exact q2.elim

theorem setEnts_length (H0 : List Ent) : (l : List (Nat × Ent)) → (H : List Ent) → (setEnts H0 l H).length = H.length
  | [], _ => rfl
  | (i, e) :: r, H => by
    unfold setEnts
    split
    · rw [setEnts_length]; simp
    · exact setEnts_length H0 r H

theorem setEnts_get (H0 : List Ent) : (l : List (Nat × Ent)) → (H : List Ent) → ∀ (i : Nat) (e' : Ent), (setEnts H0 l H)[i]? = some e' → H[i]? = some e' ∨ ∃ old e, H0[i]? = some old ∧ e' = bumpE old e
  | [], H, i, e', h => .inl h
  | (k, e) :: r, H, i, e', h => by
    unfold setEnts at h
    split at h
    · rename_i old hold
      rcases setEnts_get H0 r _ i e' h with h1 | h1
      · rw [List.getElem?_set] at h1
        split at h1
        · rename_i hk
          subst hk
          split at h1
          · cases h1; exact .inr ⟨old, e, hold, rfl⟩
          · cases h1
        · exact .inl h1
      · exact .inr h1
    · exact setEnts_get H0 r H i e' h

theorem setEnts_old (H0 : List Ent) : (l : List (Nat × Ent)) → (H : List Ent) → (i : Nat) → (∀ p ∈ l, p.1 ≠ i) → (setEnts H0 l H)[i]? = H[i]?
  | [], _, _, _ => rfl
  | (k, e) :: r, H, i, h => by
    unfold setEnts
    have hk : k ≠ i := h (k, e) (by simp)
    split
    · rw [setEnts_old H0 r _ i (fun p hp => h p (by simp [hp])), List.getElem?_set_ne hk]
    · exact setEnts_old H0 r H i (fun p hp => h p (by simp [hp]))

theorem setEnts_new (H0 : List Ent) : (l : List (Nat × Ent)) → (H : List Ent) → H.length = H0.length → (i : Nat) → i < H0.length → (∃ p ∈ l, p.1 = i) → ∃ old e, (i, e) ∈ l ∧ H0[i]? = some old ∧ (setEnts H0 l H)[i]? = some (bumpE old e)
  | [], _, _, _, _, h => by obtain ⟨p, hp, _⟩ := h; simp at hp
  | (k, e) :: r, H, hl, i, hi, h => by
    by_cases hr : ∃ p ∈ r, p.1 = i
    · unfold setEnts
      split
      · obtain ⟨o, e', q1, q2⟩ := setEnts_new H0 r (H.set k (bumpE _ e)) (by simp [hl]) i hi hr
        exact ⟨o, e', List.mem_cons_of_mem _ q1, q2⟩
      · obtain ⟨o, e', q1, q2⟩ := setEnts_new H0 r H hl i hi hr
        exact ⟨o, e', List.mem_cons_of_mem _ q1, q2⟩
    · have hki : k = i := by
        obtain ⟨p, hp, hpi⟩ := h
        rcases List.mem_cons.1 hp with h | h
        · rw [h] at hpi; exact hpi
        · exact absurd ⟨p, h, hpi⟩ hr
      subst hki
      have hold : H0[k]? = some H0[k] := List.getElem?_eq_getElem hi
      unfold setEnts
      rw [hold]
      refine ⟨H0[k], e, List.mem_cons_self, rfl, ?_⟩
      simp only
      rw [setEnts_old H0 r _ k (fun p hp hpk => hr ⟨p, hp, hpk⟩), List.getElem?_set_self (by omega)]

/-- At the head of a loop the versions are as they must be. -/
theorem head_ver {an : Ann} {st : St} {a : Act} (hh : Holds I st a w) (x : an.τ) : ∀ i e t ver xs, i < I.Hi.length → an.fresh x i = true → (an.head st x).h[i]? = some (.row e t ver xs) → ∀ ver0 xs0, I.Hi[i]? = some (.row e t ver0 xs0) → ver0 < ver := by
  intro i e t ver xs hi hf hr ver0 xs0 h0
  obtain ⟨_, _, _, g, hs, hev, _⟩ := hh
  have hlen : i < st.h.length := Nat.lt_of_lt_of_le hi hev.len
  unfold Ann.fresh at hf
  rw [Bool.and_eq_true, Bool.not_eq_true', List.any_eq_true, List.any_eq_false] at hf
  have hmem : ∃ p ∈ an.ents x, p.1 = i := by
    obtain ⟨p, hp, hpi⟩ := hf.1
    exact ⟨p, hp, Nat.eq_of_beq_eq_true hpi⟩
  obtain ⟨old, e1, q0, q1, q2⟩ := setEnts_new st.h (an.ents x) st.h rfl i hlen hmem
  have hk0 : keepE e1 = false := by
    have := hf.2 _ q0
    simpa using this
  have hr' : (setEnts st.h (an.ents x) st.h)[i]? = some (.row e t ver xs) := hr
  rw [q2] at hr'
  have hb := Option.some.inj hr'
  cases old with
  | dead => cases e1 <;> simp [bumpE] at hb
  | blk => cases e1 <;> simp [bumpE] at hb
  | tab => cases e1 <;> simp [bumpE] at hb
  | row e2 t2 ver2 xs2 =>
    obtain ⟨v0, x0, r1, r2⟩ := hev.row i _ _ _ _ hi q1
    rw [h0] at r1
    have r1' := Option.some.inj r1
    cases e1 with
    | dead => simp [bumpE] at hb
    | blk => simp [bumpE] at hb
    | tab => simp [bumpE] at hb
    | row e3 t3 ver3 xs3 =>
      simp only [bumpE, Ent.row.injEq] at hb r1'
      have hv0 : ver0 = v0 := r1'.2.2.1
      have hk1 : Nat.beq ver3 0 = true := by simpa [keepE] using hk0
      have hv : ver2 + 1 = ver := by have := hb.2.2.1; rw [hk1] at this; exact this
      rcases r2 with r2 | ⟨r2, _⟩ <;> omega

theorem head_len (an : Ann) (st : St) (x : an.τ) : (an.head st x).h.length = st.h.length := setEnts_length _ _ _

theorem matSlots_sound : (l : List (Nat × TypeId × Ty)) → {st : St} → {a : Act} → Holds I st a w → Holds I (matSlots l st) a w
  | [], st, a, h => h
  | (d, e, t) :: r, st, a, h => by
    unfold matSlots
    split
    · rename_i u heq
      cases hb : (isNil u && Nat.blt d st.n) with
      | false => exact matSlots_sound r h
      | true =>
        refine matSlots_sound r ?_
        rw [Bool.and_eq_true] at hb
        obtain ⟨h1, h2, hn, g, hs, hev, ht⟩ := h
        have hd := ht d
        rw [heq] at hd
        have hv : a.tmps.getD d undef = .slice none 0 0 := by
          have : a.tmps.getD d undef = u := hd
          rw [this, isNil_eq hb.1]
        obtain ⟨g', b1, b2, b3⟩ := new_row hs e t (xs := []) (w1 := w) (World.grownBy.refl w none) (v := .slice none 0 0) (cells := []) (World.ownsRow_nil w 0 e t.size) (fun b hb => by simp [Value.ownBlock] at hb)
          (fun i x hx => by simp at hx) (fun u hu => by simp at hu)
        refine ⟨h1, h2, hn, g', b1, hev.trans b2, fun k => ?_⟩
        unfold findT
        cases hk : Nat.beq d k with
        | true =>
          have := Nat.eq_of_beq_eq_true hk
          subst this
          rw [hv]
          exact own_rep (w := w) (e := e) (T := t) (xs := []) (by simp) b3 rfl
        | false => exact (ht k).evo b2
    · exact matSlots_sound r h

theorem matCells_sound : (l : List (Nat × Nat × TypeId × Ty)) → {st : St} → {a : Act} → Holds I st a w → Holds I (matCells l st) a w
  | [], st, a, h => h
  | (i, o, e, t) :: r, st, a, h => by
    unfold matCells
    split
    · rename_i ty cs heq
      split
      · rename_i u hcell
        cases hb : isNil u with
        | false => exact matCells_sound r h
        | true =>
          refine matCells_sound r ?_
          obtain ⟨h1, h2, hn, g, hs, hev, ht⟩ := h
          obtain ⟨g', b1, b2, b3⟩ := new_row hs e t (xs := []) (w1 := w) (World.grownBy.refl w none) (v := .slice none 0 0) (cells := []) (World.ownsRow_nil w 0 e t.size) (fun b hb => by simp [Value.ownBlock] at hb)
            (fun i x hx => by simp at hx) (fun u hu => by simp at hu)
          have hi : i < st.h.length := (List.getElem?_eq_some_iff.1 heq).1
          have heq' : (st.h ++ [Ent.row e t 0 []])[i]? = some (.blk ty cs) := by rw [List.getElem?_append_left hi]; exact heq
          obtain ⟨c1, c2⟩ := Sat.upd (g1 := g') (w1 := w) b1 i _ (.blk ty (cs.set o (.own st.h.length 0))) heq' rfl (fun _ => rfl) (fun _ _ => rfl) rfl rfl rfl (Nat.le_refl _) (fun _ _ _ => rfl) (fun _ h => .inl h) (fun _ _ _ _ h => by cases h) (fun hev' => by
            obtain ⟨vs, k1, k2, k3, k4⟩ := b1.ents i _ heq'
            refine ⟨vs, k1, ?_, k3, k4⟩
            have hr := k2.evo hev'
            refine ⟨by simp [hr.1], fun j c v q1 q2 => ?_⟩
            rw [List.getElem?_set] at q1
            split at q1
            · rename_i hoj
              subst hoj
              split at q1
              · cases q1
                have hu := k2.2 o _ v hcell q2
                have hvn : v = .slice none 0 0 := by have : v = u := hu; rw [this, isNil_eq hb]
                subst hvn
                refine own_rep (w := w) (e := e) (T := t) (xs := []) ?_ b3 rfl
                rw [List.getElem?_set_ne (by omega)]
                simp
              · cases q1
            · exact hr.2 j c v q1 q2)
          exact ⟨h1, h2, hn, g', c1, (hev.trans b2).trans c2, fun k => ((ht k).evo b2).evo c2⟩
      · exact matCells_sound r h
    · exact matCells_sound r h

theorem matSlots_n : (l : List (Nat × TypeId × Ty)) → (st : St) → (matSlots l st).n = st.n
  | [], _ => rfl
  | (d, e, t) :: r, st => by
    unfold matSlots
    split
    · rename_i u _
      cases isNil u && Nat.blt d st.n <;> exact matSlots_n r _
    · exact matSlots_n r st

theorem matCells_n : (l : List (Nat × Nat × TypeId × Ty)) → (st : St) → (matCells l st).n = st.n
  | [], _ => rfl
  | (i, o, e, t) :: r, st => by
    unfold matCells
    split
    · split
      · rename_i u _
        cases isNil u <;> exact matCells_n r _
      · exact matCells_n r st
    · exact matCells_n r st

/-- The executor keeps the size of the frame. -/
theorem exec_sound (hC : CtxOK P C) : (c : Code) → {n : Nat} → {st : St} → {Q : Ex → St → Prop} → {a : Act} → {w : World} → exec C c n st Q → Holds I st a w → c.wp P (QR I Q) a w
  | .skip, n, st, Q, a, w, h, hh => wp_skip ⟨.normal, st, rfl, h, hh⟩
  | .region _ ops draw, n, st, Q, a, w, h, hh => by
    unfold exec at h
    cases draw with
    | true =>
      exact execDraw_sound hC (by rintro c a w ⟨x, st, e, _⟩; cases x <;> cases e) (fun st a w hq hh => ⟨.normal, st, rfl, hq, hh⟩) h hh
    | false =>
      exact wp_region_list (execOps_sound hC (QR I Q) ops.toList (fun st a w hq hh => ⟨.normal, st, rfl, hq, hh⟩) h hh)
  | .seq x y, n, st, Q, a, w, h, hh => by
    unfold exec at h
    refine wp_seq (wp_mono (exec_sound hC x h hh) ?_)
    rintro e a' w' ⟨ex, st', rfl, hq, hh'⟩
    cases ex with
    | normal => exact exec_sound hC y hq hh'
    | exit id => exact ⟨.exit id, st', rfl, hq, hh'⟩
    | ret => exact ⟨.ret, st', rfl, hq, hh'⟩
  | .cond c x y, n, st, Q, a, w, h, hh => by
    unfold exec at h
    obtain ⟨b, hv, hA, hB⟩ := condS_sound hh (fun g _ ht => ev_rep ht c) h
    refine wp_cond hv ?_
    cases b with
    | true => obtain ⟨st', k1, k2, _⟩ := hA rfl; exact exec_sound hC x k1 k2
    | false => obtain ⟨st', k1, k2, _⟩ := hB rfl; exact exec_sound hC y k1 k2
  | .block id c, n, st, Q, a, w, h, hh => by
    unfold exec at h
    refine wp_block (wp_mono (exec_sound hC c h hh) ?_)
    rintro e a' w' ⟨ex, st', rfl, hq, hh'⟩
    cases ex with
    | normal => exact ⟨.normal, st', rfl, hq, hh'⟩
    | exit j =>
      show if j = id then QR I Q .normal a' w' else QR I Q (.exit j) a' w'
      cases hj : Nat.beq j id with
      | true =>
        rw [if_pos (Nat.eq_of_beq_eq_true hj)]
        simp only [hj, cond_true] at hq
        exact ⟨.normal, st', rfl, hq, hh'⟩
      | false =>
        rw [if_neg (Nat.ne_of_beq_eq_false hj)]
        simp only [hj, cond_false] at hq
        exact ⟨.exit j, st', rfl, hq, hh'⟩
    | ret => exact ⟨.ret, st', rfl, hq, hh'⟩
  | .loop c, n, st, Q, a, w, h, hh => by
    unfold exec at h
    cases han : C.ann n with
    | none => rw [han] at h; exact h.elim
    | some f =>
      rw [han] at h
      simp only at h
      generalize f st = an at h
      obtain ⟨⟨x0, hx0, hle⟩, hround⟩ := h
      generalize hst : matCells an.preC (matSlots an.pre st) = st1 at hle hround
      have hh1 : Holds I st1 a w := by rw [← hst]; exact matCells_sound _ (matSlots_sound _ hh)
      have hlen : ∀ x, I.Hi.length ≤ (an.head st1 x).h.length := fun x => by
        rw [head_len]; obtain ⟨_, _, _, g, _, hev, _⟩ := hh1; exact hev.len
      have hver := fun x => head_ver (an := an) hh1 x
      refine wp_loop_ghost (fun k a w => ∃ x, an.ok x ∧ an.m x = k ∧ Holds I (an.head st1 x) a w) (an.m x0) ⟨x0, hx0, rfl, St.le_sound (st := st1) rfl hle (hlen x0) (hver x0) hh1⟩ ?_
      rintro k a' w' ⟨x, hx, rfl, hhx⟩
      refine wp_mono (exec_sound hC c (hround x hx) hhx) ?_
      rintro e a2 w2 ⟨ex, st2, rfl, hq, hh2⟩
      cases ex with
      | normal =>
        obtain ⟨x', hx', hlt, hle'⟩ := hq
        exact ⟨an.m x', hlt, x', hx', rfl, St.le_sound (hh2.n.trans hh1.n.symm) hle' (hlen x') (hver x') hh2⟩
      | exit id => exact ⟨.exit id, st2, rfl, hq, hh2⟩
      | ret => exact ⟨.ret, st2, rfl, hq, hh2⟩
  | .exit id, n, st, Q, a, w, h, hh => wp_exit ⟨.exit id, st, rfl, h, hh⟩
  | .ret, n, st, Q, a, w, h, hh => wp_ret ⟨.ret, st, rfl, h, hh⟩
  | .label l, n, st, Q, a, w, h, hh => wp_label ⟨.normal, st, rfl, h, hh⟩
  | .goto _, _, _, _, _, _, h, _ => h.elim
  | .rangeFunc .., _, _, _, _, _, h, _ => h.elim
  | .scope _, _, _, _, _, _, h, _ => h.elim
  | .refuse _, _, _, _, _, _, h, _ => h.elim

end
end Go.SX
