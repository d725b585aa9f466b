/- SX, part K: the executor over code is sound. -/
import Derived.Test.YtfbgbdiajghnbaaDoorSxJ
namespace Go.SX
open Go Go.RowKit

/-- The start of a call: its world, its symbolic heap. -/
structure Ini where
  n : Nat
  B : Nat
  X : Nat → Prop
  w0 : World
  wi : World
  Hi : List Ent
  gi : Gh

structure Holds (I : Ini) (st : St) (a : Act) (w : World) : Prop where
  defers : a.defers = []
  size : a.tmps.size = st.n
  n : st.n = I.n
  sat : ∃ g, Sat I.B I.X I.w0 st.h g w ∧ Evo I.wi I.Hi I.gi w st.h g ∧ ∀ d, (findT d st.t).Rep w st.h g (a.tmps.getD d undef)

def Ex.toExit : Ex → Exit
  | .normal => .normal
  | .exit id => .exit id
  | .ret => .ret

def QR (I : Ini) (Q : Ex → St → Prop) : Exit → Act → World → Prop := fun e a w => ∃ x st, x.toExit = e ∧ Q x st ∧ Holds I st a w

section
variable {P : Program} {I : Ini} {C : Ctx}

theorem ev_rep {st : St} {a : Act} {w : World} {g : Gh} (ht : ∀ d, (findT d st.t).Rep w st.h g (a.tmps.getD d undef)) (x : Operand) : (st.ev x).Rep w st.h g (a.eval x) := by
  cases x with
  | tmp d => exact ht d
  | const v => exact rep_constSV v
  | global g => exact rfl
  | func f => exact ⟨rfl, fun i hi => by simp at hi⟩

theorem put_defers (a : Act) (d : Option Tmp) (v : Value) : (a.put d v).defers = a.defers := by cases d <;> rfl
theorem put_size (a : Act) (d : Option Tmp) (v : Value) : (a.put d v).tmps.size = a.tmps.size := by cases d <;> simp [Act.put]

theorem SV.tag_rep {w : World} {H : List Ent} {g : Gh} {d : Nat} {x : SV} {v : Value} (h : x.Rep w H g v) : (x.tag d).Rep w H g v := by
  unfold SV.tag
  split <;> exact h

theorem Holds.put {st : St} {a : Act} {w w' : World} {g g' : Gh} {H' : List Ent} (h1 : a.defers = []) (h2 : a.tmps.size = st.n) (hn : st.n = I.n) (hev0 : Evo I.wi I.Hi I.gi w st.h g) (ht : ∀ d, (findT d st.t).Rep w st.h g (a.tmps.getD d undef))
    (hs : Sat I.B I.X I.w0 H' g' w') (hev : Evo w st.h g w' H' g') {sv : SV} {v : Value} (hr : sv.Rep w' H' g' v) (dst : Option Tmp) : Holds I (st.put dst sv H') (a.put dst v) w' := by
  have hold : ∀ d, (findT d st.t).Rep w' H' g' (a.tmps.getD d undef) := fun d => (ht d).evo hev
  cases dst with
  | none => exact ⟨h1, h2, hn, g', hs, hev0.trans hev, hold⟩
  | some d =>
    refine ⟨by rw [put_defers]; exact h1, ?_, ?_, g', ?_, ?_, fun k => ?_⟩
    · rw [put_size, h2]; simp only [St.put]; cases Nat.blt d st.n <;> rfl
    · simp only [St.put]; cases Nat.blt d st.n <;> exact hn
    · simp only [St.put]; cases Nat.blt d st.n <;> exact hs
    · simp only [St.put]; cases Nat.blt d st.n <;> exact hev0.trans hev
    · have hget : (a.put (some d) v).tmps.getD k undef = if d = k ∧ d < a.tmps.size then v else a.tmps.getD k undef := by
        simp only [Act.put, Array.getD_eq_getD_getElem?, Array.getElem?_setIfInBounds]
        by_cases hdk : d = k
        · subst hdk
          by_cases hd : d < a.tmps.size
          · simp [hd]
          · simp [hd]
        · simp [hdk]
      rw [hget]
      simp only [St.put]
      cases hb : Nat.blt d st.n with
      | false =>
        have hge : ¬ d < a.tmps.size := by
          rw [h2]; intro hlt
          have : Nat.blt d st.n = true := by simpa [Nat.blt_eq] using hlt
          rw [hb] at this; cases this
        rw [if_neg (fun h => hge h.2)]
        exact hold k
      | true =>
        have hlt : d < a.tmps.size := by rw [h2]; simpa [Nat.blt_eq] using hb
        simp only [cond_true, findT]
        cases hdk : Nat.beq d k with
        | true =>
          have := Nat.eq_of_beq_eq_true hdk
          rw [if_pos ⟨this, hlt⟩]
          exact SV.tag_rep hr
        | false =>
          have : ¬ d = k := Nat.ne_of_beq_eq_false hdk
          rw [if_neg (fun h => this h.1)]
          exact hold k

theorem assumeT_sound {w : World} {H : List Ent} {g : Gh} (id : Nat) (b : Bool) : (t : List (Nat × SV)) → {K : List (Nat × SV) → Prop} → assumeT id b t K → ∃ t', K t' ∧ ∀ (d : Nat) (v : Value), (findT d t).Rep w H g v → (findT d t').Rep w H g v
  | [], K, h => ⟨[], h, fun _ _ h => h⟩
  | (k, sv) :: r, K, h => by
    have keep : ∀ sv', (∀ v, sv.Rep w H g v → sv'.Rep w H g v) → assumeT id b r (fun r => K ((k, sv') :: r)) → ∃ t', K t' ∧ ∀ (d : Nat) (v : Value), (findT d ((k, sv) :: r)).Rep w H g v → (findT d t').Rep w H g v := by
      intro sv' hsv h
      obtain ⟨t', h1, h2⟩ := assumeT_sound id b r h
      refine ⟨(k, sv') :: t', h1, fun d v hv => ?_⟩
      unfold findT at hv ⊢
      cases hk : Nat.beq k d with
      | true => rw [hk] at hv; exact hsv v hv
      | false => rw [hk] at hv; exact h2 d v hv
    unfold assumeT at h
    split at h
    · rename_i i p dp
      cases hi : Nat.beq i id with
      | false => rw [hi] at h; exact keep _ (fun _ h => h) h
      | true =>
        rw [hi] at h
        obtain ⟨hp, h⟩ := h
        refine keep (.c (.kb b)) (fun v hv => ?_) h
        have e : v = .bool (@decide p dp) := hv
        rw [e]
        show Value.bool _ = Value.bool _
        congr 1
        cases b with
        | true => exact decide_eq_true (p := p) hp
        | false => exact decide_eq_false (p := p) hp
    · rename_i i x
      cases hi : Nat.beq i id with
      | false => rw [hi] at h; exact keep _ (fun _ h => h) h
      | true =>
        rw [hi] at h
        obtain ⟨hp, h⟩ := h
        refine keep (.c (.kb b)) (fun v hv => ?_) h
        have e : v = .bool x := hv
        rw [e, hp]; rfl
    · exact keep _ (fun _ h => h) h

theorem assumeS_sound {st : St} {a : Act} {w : World} (hh : Holds I st a w) (id : Nat) (b : Bool) {K : St → Prop} (h : assumeS id b st K) : ∃ st', K st' ∧ Holds I st' a w ∧ st'.n = st.n := by
  unfold assumeS at h
  split at h
  · exact ⟨st, h, hh, rfl⟩
  · obtain ⟨h1, h2, hn, g, hs, hev, ht⟩ := hh
    obtain ⟨t', k1, k2⟩ := assumeT_sound (w := w) (H := st.h) (g := g) _ b st.t h
    exact ⟨_, k1, ⟨h1, h2, hn, g, hs, hev, fun d => k2 d _ (ht d)⟩, rfl⟩

theorem condS_sound {st : St} {a : Act} {w : World} (hh : Holds I st a w) {sv : SV} {v : Value} (hr : ∀ g, Sat I.B I.X I.w0 st.h g w → (∀ d, (findT d st.t).Rep w st.h g (a.tmps.getD d undef)) → sv.Rep w st.h g v) {A B : St → Prop} (h : sv.condS st A B) :
    ∃ b, v = .bool b ∧ (b = true → ∃ st', A st' ∧ Holds I st' a w ∧ st'.n = st.n) ∧ (b = false → ∃ st', B st' ∧ Holds I st' a w ∧ st'.n = st.n) := by
  have hh0 := hh
  obtain ⟨_, _, _, g, hs, _, ht⟩ := hh
  replace hr := hr g hs ht
  unfold SV.condS at h
  split at h
  · rename_i id p d
    exact ⟨_, hr, fun hb => assumeS_sound hh0 _ _ (h.1 (of_decide_eq_true hb)), fun hb => assumeS_sound hh0 _ _ (h.2 (of_decide_eq_false hb))⟩
  · rename_i id b
    exact ⟨b, hr, fun hb => assumeS_sound hh0 _ _ (h.1 hb), fun hb => assumeS_sound hh0 _ _ (h.2 hb)⟩
  · rename_i b
    cases b with
    | true => exact ⟨true, hr, fun _ => ⟨st, h, hh0, rfl⟩, fun h => (by cases h)⟩
    | false => exact ⟨false, hr, fun h => (by cases h), fun _ => ⟨st, h, hh0, rfl⟩⟩
  · exact h.elim

theorem frz_one {g : Gh} {H : List Ent} {w : World} {i ver : Nat} {e : TypeId} {T : Ty} {xs : List T.den} (hs : Sat I.B I.X I.w0 H g w) (he : H[i]? = some (.row e T ver xs)) {v : Value} (hr : (SC.own i ver).Rep w H g v) :
    Sat I.B I.X I.w0 (H.set i .dead) g w ∧ Evo w H g w (H.set i .dead) g ∧ (SC.ro T xs).Rep w (H.set i .dead) g v := by
  have hx : Reps w H g [.own i ver] [v] := ⟨rfl, fun j c u h1 h2 => by
    cases j with
    | zero => simp at h1 h2; subst h1; subst h2; exact hr
    | succ j => simp at h1⟩
  obtain ⟨y, cs, r, vr, H', a1, a2, a3, _, _, _, a6, a7, a8⟩ := dat_sound (ok := fun _ => True) false (.slice T) hs hx (K := fun y r H' => y = xs ∧ r = [] ∧ H' = H.set i .dead) (by
    simp only [Ty.dat, he, Nat.beq_refl, cond_true]
    simp) (fun h => by cases h)
  obtain ⟨rfl, rfl, rfl⟩ := a8
  have hvr : vr = [] := List.eq_nil_of_length_eq_zero a7.1
  subst hvr
  rw [List.append_nil] at a1
  subst a1
  exact ⟨a2, a3, a6 rfl⟩

theorem frzT_find (i ver : Nat) (T : Ty) (xs : List T.den) (d : Nat) : (t : List (Nat × SV)) → findT d (frzT i ver T xs t) = frzV i ver T xs (findT d t)
  | [] => rfl
  | (k, v) :: r => by
    unfold frzT findT
    cases Nat.beq k d with
    | true => rfl
    | false => exact frzT_find i ver T xs d r

theorem frzA_sound {a : Act} {w : World} : (l : List Operand) → {st : St} → Holds I st a w → Holds I (frzA l st) a w
  | [], st, h => h
  | x :: r, st, h => by
    unfold frzA
    split
    · rename_i i ver heq
      split
      · rename_i e T ver' xs he
        cases hb : Nat.beq ver ver' with
        | false => exact frzA_sound r h
        | true =>
          have hv := Nat.eq_of_beq_eq_true hb
          subst hv
          refine frzA_sound r ?_
          obtain ⟨h1, h2, hn, g, hs, hev, ht⟩ := h
          have hx := ev_rep ht x
          rw [heq] at hx
          obtain ⟨b1, b2, _⟩ := frz_one hs he hx
          refine ⟨h1, h2, hn, g, b1, hev.trans b2, fun d => ?_⟩
          show SV.Rep w (st.h.set i .dead) g (findT d (frzT i ver T xs st.t)) _
          rw [frzT_find]
          have hd := ht d
          unfold frzV
          split
          · rename_i j wv heq2
            rw [heq2] at hd
            cases hb2 : (Nat.beq j i && Nat.beq wv ver) with
            | false => exact SV.Rep.evo (x := .c (.own j wv)) b2 hd
            | true =>
              rw [Bool.and_eq_true] at hb2
              have e1 := Nat.eq_of_beq_eq_true hb2.1
              have e2 := Nat.eq_of_beq_eq_true hb2.2
              subst e1; subst e2
              exact (frz_one hs he hd).2.2
          · exact hd.evo b2
      · exact frzA_sound r h
    · exact frzA_sound r h

theorem frzOp_sound {a : Act} {w : World} (C : Ctx) (o : Op) {st : St} (h : Holds I st a w) : Holds I (frzOp C o st) a w := by
  unfold frzOp
  split
  · split
    · rename_i f _
      cases C.frz f with
      | false => exact h
      | true => exact frzA_sound _ h
    · exact h
  · exact h

theorem skipped_wanted {o : Oper} {all : Array Oper} {a : Act} {w : World} {H : List Ent} {g : Gh} {j d : Nat} {want : Bool} (hg : o.guard = some (j, want)) (hd : (all[j]?).bind (·.dst) = some d) {sv : SV} (hs : sv.skipped = true)
    (hr : sv.Rep w H g (a.tmps.getD d undef)) : Region.wanted o (yielded all a.tmps) = false := by
  unfold SV.skipped at hs
  split at hs
  · cases hs
  · rename_i u hnb
    have e : a.tmps.getD d undef = u := hr
    have hne : ∀ b, a.tmps[d]? ≠ some (Value.bool b) := fun b hb => by
      rw [Array.getD_eq_getD_getElem?, hb] at e
      exact hnb b e.symm
    simp only [Region.wanted, hg, yielded, hd, Option.bind_some]
    cases hq : a.tmps[d]? with
    | none => rfl
    | some v => cases v <;> first | rfl | exact absurd hq (hne _)
  · cases hs

theorem execOps_sound (hC : CtxOK P C) {all : Array Oper} (Q : Exit → Act → World → Prop) : (l : List Oper) → {st : St} → {R : St → Prop} → {a : Act} → {w : World} → (∀ st a w, R st → Holds I st a w → Q .normal a w) →
    execOps C all l st R → Holds I st a w → wpList P all Q l a w
  | [], st, R, a, w, hQ, h, hh => wpList_nil (hQ st a w h hh)
  | o :: r, st, R, a, w, hQ, h, hh => by
    unfold execOps at h
    have hrun : ∀ {st : St}, Holds I st a w → ∀ (K : Act → World → Prop), (∀ a w, wpList P all Q r a w → K a w) → (runOp C o st fun st => execOps C all r st R) → o.wp P a w K Q := by
      intro st hh0 K hK h
      obtain ⟨h1, h2, hn, g, hs, hev, ht⟩ := frzOp_sound C o.op hh0
      unfold runOp at h
      refine opStep_sound hC hs (ev_rep ht) h K Q ?_
      rintro v w' ⟨sv, H', g', q1, q2, q3, q4⟩
      exact hK _ _ (execOps_sound hC Q r hQ q1 (Holds.put h1 h2 hn hev ht q2 q3 q4 o.dst))
    have hskip : ∀ {st : St}, Holds I st a w → ∀ (K : Act → World → Prop), (∀ a w, wpList P all Q r a w → K a w) → execOps C all r (st.put o.dst (.c (.raw undef)) st.h) R → K (a.put o.dst undef) w := by
      rintro st ⟨h1, h2, hn, g, hs, hev, ht⟩ K hK h
      exact hK _ _ (execOps_sound hC Q r hQ h (Holds.put h1 h2 hn hev ht hs (Evo.refl _ _ _) (sv := .c (.raw undef)) rfl o.dst))
    cases hg : o.guard with
    | none =>
      rw [hg] at h
      exact wpList_plain hg fun K hK => hrun hh K hK h
    | some p =>
      obtain ⟨j, want⟩ := p
      rw [hg] at h
      simp only at h
      cases hd : (all[j]?).bind (·.dst) with
      | none => rw [hd] at h; exact h.elim
      | some d =>
        rw [hd] at h
        simp only at h
        cases hb : Nat.blt d st.n with
        | false => rw [hb] at h; exact h.elim
        | true =>
          rw [hb] at h
          simp only [cond_true] at h
          have hlt : d < a.tmps.size := by rw [hh.size]; simpa [Nat.blt_eq] using hb
          have hw : ∀ b, a.tmps.getD d undef = .bool b → Region.wanted o (yielded all a.tmps) = (b == want) := by
            intro b hv
            have hq : a.tmps[d]? = some (.bool b) := by
              rw [Array.getD_eq_getD_getElem?, Array.getElem?_eq_getElem hlt] at hv
              rw [Array.getElem?_eq_getElem hlt]
              simpa using hv
            simp [Region.wanted, hg, yielded, hd, hq]
          refine wpList_step fun K hK => ?_
          cases hsk : (findT d st.t).skipped with
          | true =>
            rw [hsk] at h
            have hw0 : Region.wanted o (yielded all a.tmps) = false := by
              obtain ⟨_, _, _, g, _, _, ht⟩ := hh
              exact skipped_wanted hg hd hsk (ht d)
            rw [hw0]
            exact hskip hh K hK h
          | false =>
          rw [hsk] at h
          simp only [cond_false] at h
          cases want with
          | true =>
            simp only [cond_true] at h
            obtain ⟨b, hv, hA, hB⟩ := condS_sound hh (fun g _ ht => ht d) h
            rw [hw b hv]
            cases b with
            | true => obtain ⟨st', k1, k2, _⟩ := hA rfl; exact hrun k2 K hK k1
            | false => obtain ⟨st', k1, k2, _⟩ := hB rfl; exact hskip k2 K hK k1
          | false =>
            simp only [cond_false] at h
            obtain ⟨b, hv, hA, hB⟩ := condS_sound hh (fun g _ ht => ht d) h
            rw [hw b hv]
            cases b with
            | true => obtain ⟨st', k1, k2, _⟩ := hA rfl; exact hskip k2 K hK k1
            | false => obtain ⟨st', k1, k2, _⟩ := hB rfl; exact hrun k2 K hK k1

end
end Go.SX
