/- Parts of the proof, one after the other: SxK SxKA SxL SxM SxN SxO SxP SxQ SxR SxS. -/
import Derived.Test.YtfbgbdiajghnbaaDoorM1
import Derived.Deep.Slices
import Derived.OpenShut
import Derived.ChangeOld
import Derived.Carry
/- SX, part K: the executor over code is sound. -/
namespace Go.SX
open Go Go.RowKit

/-- The start of a call: its world, its symbolic heap. -/
structure Ini where
  n : Nat
  B : Nat
  X : Nat → Prop
  w0 : World
  wi : World
  Hi : List Ent
  gi : Gh

structure Holds (I : Ini) (st : St) (a : Act) (w : World) : Prop where
  defers : a.defers = []
  size : a.tmps.size = st.n
  n : st.n = I.n
  sat : ∃ g, Sat I.B I.X I.w0 st.h g w ∧ Evo I.wi I.Hi I.gi w st.h g ∧ ∀ d, (findT d st.t).Rep w st.h g (a.tmps.getD d undef)

def Ex.toExit : Ex → Exit
  | .normal => .normal
  | .exit id => .exit id
  | .ret => .ret

def QR (I : Ini) (Q : Ex → St → Prop) : Exit → Act → World → Prop := fun e a w => ∃ x st, x.toExit = e ∧ Q x st ∧ Holds I st a w

section
variable {P : Program} {I : Ini} {C : Ctx}

theorem ev_rep {st : St} {a : Act} {w : World} {g : Gh} (ht : ∀ d, (findT d st.t).Rep w st.h g (a.tmps.getD d undef)) (x : Operand) : (st.ev x).Rep w st.h g (a.eval x) := by
  cases x with
  | tmp d => exact ht d
  | const v => exact rep_constSV v
  | global g => exact rfl
  | func f => exact ⟨rfl, fun i hi => by simp at hi⟩

theorem put_defers (a : Act) (d : Option Tmp) (v : Value) : (a.put d v).defers = a.defers := by cases d <;> rfl
theorem put_size (a : Act) (d : Option Tmp) (v : Value) : (a.put d v).tmps.size = a.tmps.size := by cases d <;> simp [Act.put]

theorem SV.tag_rep {w : World} {H : List Ent} {g : Gh} {d : Nat} {x : SV} {v : Value} (h : x.Rep w H g v) : (x.tag d).Rep w H g v := by
  unfold SV.tag
  split <;> exact h

theorem Holds.put {st : St} {a : Act} {w w' : World} {g g' : Gh} {H' : List Ent} (h1 : a.defers = []) (h2 : a.tmps.size = st.n) (hn : st.n = I.n) (hev0 : Evo I.wi I.Hi I.gi w st.h g) (ht : ∀ d, (findT d st.t).Rep w st.h g (a.tmps.getD d undef))
    (hs : Sat I.B I.X I.w0 H' g' w') (hev : Evo w st.h g w' H' g') {sv : SV} {v : Value} (hr : sv.Rep w' H' g' v) (dst : Option Tmp) : Holds I (st.put dst sv H') (a.put dst v) w' := by
  have hold : ∀ d, (findT d st.t).Rep w' H' g' (a.tmps.getD d undef) := fun d => (ht d).evo hev
  cases dst with
  | none => exact ⟨h1, h2, hn, g', hs, hev0.trans hev, hold⟩
  | some d =>
    refine ⟨by rw [put_defers]; exact h1, ?_, ?_, g', ?_, ?_, fun k => ?_⟩
    · rw [put_size, h2]; simp only [St.put]; cases Nat.blt d st.n <;> rfl
    · simp only [St.put]; cases Nat.blt d st.n <;> exact hn
    · simp only [St.put]; cases Nat.blt d st.n <;> exact hs
    · simp only [St.put]; cases Nat.blt d st.n <;> exact hev0.trans hev
    · have hget : (a.put (some d) v).tmps.getD k undef = if d = k ∧ d < a.tmps.size then v else a.tmps.getD k undef := by
        simp only [Act.put, Array.getD_eq_getD_getElem?, Array.getElem?_setIfInBounds]
        by_cases hdk : d = k
        · subst hdk
          by_cases hd : d < a.tmps.size
          · simp [hd]
          · simp [hd]
        · simp [hdk]
      rw [hget]
      simp only [St.put]
      cases hb : Nat.blt d st.n with
      | false =>
        have hge : ¬ d < a.tmps.size := by
          rw [h2]; intro hlt
          have : Nat.blt d st.n = true := by simpa [Nat.blt_eq] using hlt
          rw [hb] at this; cases this
        rw [if_neg (fun h => hge h.2)]
        exact hold k
      | true =>
        have hlt : d < a.tmps.size := by rw [h2]; simpa [Nat.blt_eq] using hb
        simp only [cond_true, findT]
        cases hdk : Nat.beq d k with
        | true =>
          have := Nat.eq_of_beq_eq_true hdk
          rw [if_pos ⟨this, hlt⟩]
          exact SV.tag_rep hr
        | false =>
          have : ¬ d = k := Nat.ne_of_beq_eq_false hdk
          rw [if_neg (fun h => this h.1)]
          exact hold k

theorem assumeT_sound {w : World} {H : List Ent} {g : Gh} (id : Nat) (b : Bool) : (t : List (Nat × SV)) → {K : List (Nat × SV) → Prop} → assumeT id b t K → ∃ t', K t' ∧ ∀ (d : Nat) (v : Value), (findT d t).Rep w H g v → (findT d t').Rep w H g v
  | [], K, h => ⟨[], h, fun _ _ h => h⟩
  | (k, sv) :: r, K, h => by
    have keep : ∀ sv', (∀ v, sv.Rep w H g v → sv'.Rep w H g v) → assumeT id b r (fun r => K ((k, sv') :: r)) → ∃ t', K t' ∧ ∀ (d : Nat) (v : Value), (findT d ((k, sv) :: r)).Rep w H g v → (findT d t').Rep w H g v := by
      intro sv' hsv h
      obtain ⟨t', h1, h2⟩ := assumeT_sound id b r h
      refine ⟨(k, sv') :: t', h1, fun d v hv => ?_⟩
      unfold findT at hv ⊢
      cases hk : Nat.beq k d with
      | true => rw [hk] at hv; exact hsv v hv
      | false => rw [hk] at hv; exact h2 d v hv
    unfold assumeT at h
    split at h
    · rename_i i p dp
      cases hi : Nat.beq i id with
      | false => rw [hi] at h; exact keep _ (fun _ h => h) h
      | true =>
        rw [hi] at h
        obtain ⟨hp, h⟩ := h
        refine keep (.c (.kb b)) (fun v hv => ?_) h
        have e : v = .bool (@decide p dp) := hv
        rw [e]
        show Value.bool _ = Value.bool _
        congr 1
        cases b with
        | true => exact decide_eq_true (p := p) hp
        | false => exact decide_eq_false (p := p) hp
    · rename_i i x
      cases hi : Nat.beq i id with
      | false => rw [hi] at h; exact keep _ (fun _ h => h) h
      | true =>
        rw [hi] at h
        obtain ⟨hp, h⟩ := h
        refine keep (.c (.kb b)) (fun v hv => ?_) h
        have e : v = .bool x := hv
        rw [e, hp]; rfl
    · exact keep _ (fun _ h => h) h

theorem assumeS_sound {st : St} {a : Act} {w : World} (hh : Holds I st a w) (id : Nat) (b : Bool) {K : St → Prop} (h : assumeS id b st K) : ∃ st', K st' ∧ Holds I st' a w ∧ st'.n = st.n := by
  unfold assumeS at h
  split at h
  · exact ⟨st, h, hh, rfl⟩
  · obtain ⟨h1, h2, hn, g, hs, hev, ht⟩ := hh
    obtain ⟨t', k1, k2⟩ := assumeT_sound (w := w) (H := st.h) (g := g) _ b st.t h
    exact ⟨_, k1, ⟨h1, h2, hn, g, hs, hev, fun d => k2 d _ (ht d)⟩, rfl⟩

theorem condS_sound {st : St} {a : Act} {w : World} (hh : Holds I st a w) {sv : SV} {v : Value} (hr : ∀ g, Sat I.B I.X I.w0 st.h g w → (∀ d, (findT d st.t).Rep w st.h g (a.tmps.getD d undef)) → sv.Rep w st.h g v) {A B : St → Prop} (h : sv.condS st A B) :
    ∃ b, v = .bool b ∧ (b = true → ∃ st', A st' ∧ Holds I st' a w ∧ st'.n = st.n) ∧ (b = false → ∃ st', B st' ∧ Holds I st' a w ∧ st'.n = st.n) := by
  have hh0 := hh
  obtain ⟨_, _, _, g, hs, _, ht⟩ := hh
  replace hr := hr g hs ht
  unfold SV.condS at h
  split at h
  · rename_i id p d
    exact ⟨_, hr, fun hb => assumeS_sound hh0 _ _ (h.1 (of_decide_eq_true hb)), fun hb => assumeS_sound hh0 _ _ (h.2 (of_decide_eq_false hb))⟩
  · rename_i id b
    exact ⟨b, hr, fun hb => assumeS_sound hh0 _ _ (h.1 hb), fun hb => assumeS_sound hh0 _ _ (h.2 hb)⟩
  · rename_i b
    cases b with
    | true => exact ⟨true, hr, fun _ => ⟨st, h, hh0, rfl⟩, fun h => (by cases h)⟩
    | false => exact ⟨false, hr, fun h => (by cases h), fun _ => ⟨st, h, hh0, rfl⟩⟩
  · exact h.elim

theorem frz_one {g : Gh} {H : List Ent} {w : World} {i ver : Nat} {e : TypeId} {T : Ty} {xs : List T.den} (hs : Sat I.B I.X I.w0 H g w) (he : H[i]? = some (.row e T ver xs)) {v : Value} (hr : (SC.own i ver).Rep w H g v) :
    Sat I.B I.X I.w0 (H.set i .dead) g w ∧ Evo w H g w (H.set i .dead) g ∧ (SC.ro T xs).Rep w (H.set i .dead) g v := by
  have hx : Reps w H g [.own i ver] [v] := ⟨rfl, fun j c u h1 h2 => by
    cases j with
    | zero => simp at h1 h2; subst h1; subst h2; exact hr
    | succ j => simp at h1⟩
  obtain ⟨y, cs, r, vr, H', a1, a2, a3, _, _, _, a6, a7, a8⟩ := dat_sound (ok := fun _ => True) false (.slice T) hs hx (K := fun y r H' => y = xs ∧ r = [] ∧ H' = H.set i .dead) (by
    simp only [Ty.dat, he, Nat.beq_refl, cond_true]
    simp) (fun h => by cases h)
  obtain ⟨rfl, rfl, rfl⟩ := a8
  have hvr : vr = [] := List.eq_nil_of_length_eq_zero a7.1
  subst hvr
  rw [List.append_nil] at a1
  subst a1
  exact ⟨a2, a3, a6 rfl⟩

theorem frzT_find (i ver : Nat) (T : Ty) (xs : List T.den) (d : Nat) : (t : List (Nat × SV)) → findT d (frzT i ver T xs t) = frzV i ver T xs (findT d t)
  | [] => rfl
  | (k, v) :: r => by
    unfold frzT findT
    cases Nat.beq k d with
    | true => rfl
    | false => exact frzT_find i ver T xs d r

theorem frzA_sound {a : Act} {w : World} : (l : List Operand) → {st : St} → Holds I st a w → Holds I (frzA l st) a w
  | [], st, h => h
  | x :: r, st, h => by
    unfold frzA
    split
    · rename_i i ver heq
      split
      · rename_i e T ver' xs he
        cases hb : Nat.beq ver ver' with
        | false => exact frzA_sound r h
        | true =>
          have hv := Nat.eq_of_beq_eq_true hb
          subst hv
          refine frzA_sound r ?_
          obtain ⟨h1, h2, hn, g, hs, hev, ht⟩ := h
          have hx := ev_rep ht x
          rw [heq] at hx
          obtain ⟨b1, b2, _⟩ := frz_one hs he hx
          refine ⟨h1, h2, hn, g, b1, hev.trans b2, fun d => ?_⟩
          show SV.Rep w (st.h.set i .dead) g (findT d (frzT i ver T xs st.t)) _
          rw [frzT_find]
          have hd := ht d
          unfold frzV
          split
          · rename_i j wv heq2
            rw [heq2] at hd
            cases hb2 : (Nat.beq j i && Nat.beq wv ver) with
            | false => exact SV.Rep.evo (x := .c (.own j wv)) b2 hd
            | true =>
              rw [Bool.and_eq_true] at hb2
              have e1 := Nat.eq_of_beq_eq_true hb2.1
              have e2 := Nat.eq_of_beq_eq_true hb2.2
              subst e1; subst e2
              exact (frz_one hs he hd).2.2
          · exact hd.evo b2
      · exact frzA_sound r h
    · exact frzA_sound r h

theorem frzOp_sound {a : Act} {w : World} (C : Ctx) (o : Op) {st : St} (h : Holds I st a w) : Holds I (frzOp C o st) a w := by
  unfold frzOp
  split
  · split
    · rename_i f _
      cases C.frz f with
      | false => exact h
      | true => exact frzA_sound _ h
    · exact h
  · exact h

theorem skipped_wanted {o : Oper} {all : Array Oper} {a : Act} {w : World} {H : List Ent} {g : Gh} {j d : Nat} {want : Bool} (hg : o.guard = some (j, want)) (hd : (all[j]?).bind (·.dst) = some d) {sv : SV} (hs : sv.skipped = true)
    (hr : sv.Rep w H g (a.tmps.getD d undef)) : Region.wanted o (yielded all a.tmps) = false := by
  unfold SV.skipped at hs
  split at hs
  · cases hs
  · rename_i u hnb
    have e : a.tmps.getD d undef = u := hr
    have hne : ∀ b, a.tmps[d]? ≠ some (Value.bool b) := fun b hb => by
      rw [Array.getD_eq_getD_getElem?, hb] at e
      exact hnb b e.symm
    simp only [Region.wanted, hg, yielded, hd, Option.bind_some]
    cases hq : a.tmps[d]? with
    | none => rfl
    | some v => cases v <;> first | rfl | exact absurd hq (hne _)
  · cases hs

theorem execOps_sound (hC : CtxOK P C) {all : Array Oper} (Q : Exit → Act → World → Prop) : (l : List Oper) → {st : St} → {R : St → Prop} → {a : Act} → {w : World} → (∀ st a w, R st → Holds I st a w → Q .normal a w) →
    execOps C all l st R → Holds I st a w → wpList P all Q l a w
  | [], st, R, a, w, hQ, h, hh => wpList_nil (hQ st a w h hh)
  | o :: r, st, R, a, w, hQ, h, hh => by
    unfold execOps at h
    have hrun : ∀ {st : St}, Holds I st a w → ∀ (K : Act → World → Prop), (∀ a w, wpList P all Q r a w → K a w) → (runOp C o st fun st => execOps C all r st R) → o.wp P a w K Q := by
      intro st hh0 K hK h
      obtain ⟨h1, h2, hn, g, hs, hev, ht⟩ := frzOp_sound C o.op hh0
      unfold runOp at h
      refine opStep_sound hC hs (ev_rep ht) h K Q ?_
      rintro v w' ⟨sv, H', g', q1, q2, q3, q4⟩
      exact hK _ _ (execOps_sound hC Q r hQ q1 (Holds.put h1 h2 hn hev ht q2 q3 q4 o.dst))
    have hskip : ∀ {st : St}, Holds I st a w → ∀ (K : Act → World → Prop), (∀ a w, wpList P all Q r a w → K a w) → execOps C all r (st.put o.dst (.c (.raw undef)) st.h) R → K (a.put o.dst undef) w := by
      rintro st ⟨h1, h2, hn, g, hs, hev, ht⟩ K hK h
      exact hK _ _ (execOps_sound hC Q r hQ h (Holds.put h1 h2 hn hev ht hs (Evo.refl _ _ _) (sv := .c (.raw undef)) rfl o.dst))
    cases hg : o.guard with
    | none =>
      rw [hg] at h
      exact wpList_plain hg fun K hK => hrun hh K hK h
    | some p =>
      obtain ⟨j, want⟩ := p
      rw [hg] at h
      simp only at h
      cases hd : (all[j]?).bind (·.dst) with
      | none => rw [hd] at h; exact h.elim
      | some d =>
        rw [hd] at h
        simp only at h
        cases hb : Nat.blt d st.n with
        | false => rw [hb] at h; exact h.elim
        | true =>
          rw [hb] at h
          simp only [cond_true] at h
          have hlt : d < a.tmps.size := by rw [hh.size]; simpa [Nat.blt_eq] using hb
          have hw : ∀ b, a.tmps.getD d undef = .bool b → Region.wanted o (yielded all a.tmps) = (b == want) := by
            intro b hv
            have hq : a.tmps[d]? = some (.bool b) := by
              rw [Array.getD_eq_getD_getElem?, Array.getElem?_eq_getElem hlt] at hv
              rw [Array.getElem?_eq_getElem hlt]
              simpa using hv
            simp [Region.wanted, hg, yielded, hd, hq]
          refine wpList_step fun K hK => ?_
          cases hsk : (findT d st.t).skipped with
          | true =>
            rw [hsk] at h
            have hw0 : Region.wanted o (yielded all a.tmps) = false := by
              obtain ⟨_, _, _, g, _, _, ht⟩ := hh
              exact skipped_wanted hg hd hsk (ht d)
            rw [hw0]
            exact hskip hh K hK h
          | false =>
          rw [hsk] at h
          simp only [cond_false] at h
          cases want with
          | true =>
            simp only [cond_true] at h
            obtain ⟨b, hv, hA, hB⟩ := condS_sound hh (fun g _ ht => ht d) h
            rw [hw b hv]
            cases b with
            | true => obtain ⟨st', k1, k2, _⟩ := hA rfl; exact hrun k2 K hK k1
            | false => obtain ⟨st', k1, k2, _⟩ := hB rfl; exact hskip k2 K hK k1
          | false =>
            simp only [cond_false] at h
            obtain ⟨b, hv, hA, hB⟩ := condS_sound hh (fun g _ ht => ht d) h
            rw [hw b hv]
            cases b with
            | true => obtain ⟨st', k1, k2, _⟩ := hA rfl; exact hskip k2 K hK k1
            | false => obtain ⟨st', k1, k2, _⟩ := hB rfl; exact hrun k2 K hK k1

end
end Go.SX

/- SX, part KA: regions whose order is drawn. -/
namespace Go.SX
open Go Go.RowKit

section
variable {P : Program} {ops : Array Oper} {Q : Exit → Act → World → Prop} {D : Nat → Prop}

/-- Whatever order is picked; behind each operation that is not of D all that was there is as it was. -/
def wpR (P : Program) (ops : Array Oper) (Q : Exit → Act → World → Prop) (D : Nat → Prop) : Nat → Array Bool → Act → World → Prop
  | 0, listed, a, w => Region.ready .any ops listed = [] ∧ Q .normal a w
  | fuel + 1, listed, a, w =>
    (Region.ready .any ops listed = [] → Q .normal a w) ∧
    ∀ i ∈ Region.ready .any ops listed, wpOp P ops Q i (fun a' w' => (¬ D i → Later w w') ∧ wpR P ops Q D fuel (listed.setIfInBounds i true) a' w') a w

theorem wpAny_of_R : ∀ (fuel : Nat) (listed : Array Bool) (a : Act) (w : World), wpR P ops Q D fuel listed a w → wpAny P .any ops Q fuel listed a w
  | 0, _, _, _, h => h
  | fuel + 1, _, _, _, h => ⟨h.1, fun i hi => wpOp_mono (fun a' w' h' => wpAny_of_R fuel _ a' w' h'.2) (h.2 i hi)⟩

def Closed (ops : Array Oper) (listed : Array Bool) : Prop :=
  ∀ j oj, ops[j]? = some oj → listed.getD j false = true → ∀ e ∈ oj.after, Region.binds .any e = true → listed.getD e.on false = true

theorem Closed.set {listed : Array Bool} {i : Nat} (h : Closed ops listed) (hi : i ∈ Region.ready .any ops listed) : Closed ops (listed.setIfInBounds i true) := by
  obtain ⟨_, oi, hoi, hall⟩ := mem_ready.1 hi
  intro j oj hj hl e he hb
  by_cases hij : i = j
  · subst hij
    have : oj = oi := Option.some.inj (hj.symm.trans hoi)
    subst this
    exact getD_set_true (hall e he hb)
  · rw [getD_set_ne false hij] at hl
    exact getD_set_true (h j oj hj hl e he hb)

/-- d does not come up before i. -/
def Waits (ops : Array Oper) (i d : Nat) : Prop := ∀ listed : Array Bool, Closed ops listed → listed.size = ops.size → listed.getD i true = false → d ∉ Region.ready .any ops listed

theorem wpR_first {pu : Bool} {i : Nat} {oi : Oper} {v : Value} (hi : ops[i]? = some oi) (hsel : ∀ (j : Nat) (o : Oper) cs b, ops[j]? = some o → o.op ≠ .select cs b)
    (hQ : ∀ c a w, Q (.panic c) (a.put oi.dst v) w → Q (.panic c) a w) :
    ∀ (fuel : Nat) (listed : Array Bool) (a : Act) (w : World), listed.size = ops.size →
      (∀ j oj, ops[j]? = some oj → j ≠ i → listed.getD j true = false → (∀ e ∈ oj.after, Region.binds .any e = true → e.on ≠ i) → oi.apart ops oj = true) →
      Closed ops listed → (pu = false → ∀ d, D d → listed.getD d true = false → Waits ops i d) →
      i ∈ Region.ready .any ops listed → YieldsIf P ops (fun w' => pu = true ∨ Later w w') oi v a →
      wpR P ops Q D fuel (listed.setIfInBounds i true) (a.put oi.dst v) w → wpR P ops Q D (fuel + 1) listed a w := by
  intro fuel
  induction fuel with
  | zero =>
    intro listed a w _ _ _ _ hr hy H
    refine ⟨fun h => (by rw [h] at hr; cases hr), fun j hj => ?_⟩
    by_cases hji : j = i
    · subst hji; exact hy.wpOp hi (.inr (Later.refl w)) ⟨fun _ => Later.refl w, H⟩
    · have := ready_mono hj hji
      rw [H.1] at this
      cases this
  | succ fuel ih =>
    intro listed a w hsz hfree hc hd hr hy H
    refine ⟨fun h => (by rw [h] at hr; cases hr), fun j hj => ?_⟩
    by_cases hji : j = i
    · subst hji; exact hy.wpOp hi (.inr (Later.refl w)) ⟨fun _ => Later.refl w, H⟩
    · have h1 := H.2 j (ready_mono hj hji)
      obtain ⟨hjun, oj, hoj, hall⟩ := mem_ready.1 hj
      have hiun := (mem_ready.1 hr).1
      have hnot : ∀ e ∈ oj.after, Region.binds .any e = true → e.on ≠ i := fun e he hb heq => by
        have h1 := hall e he hb
        rw [heq] at h1
        rcases Nat.lt_or_ge i listed.size with h' | h'
        · simp [h'] at hiun h1; rw [hiun] at h1; cases h1
        · simp [Array.getElem?_eq_none h'] at h1
      have hjd : pu = false → ¬ D j := fun hp hm => hd hp j hm hjun listed hc hsz hiun hj
      have h2 := wpOp_putIf hoj (hfree j oj hoj hji hjun hnot) (fun cs b => hsel i oi cs b hi) (fun cs b => hsel j oj cs b hoj) hQ hy h1
      have hfree' : ∀ k ok, ops[k]? = some ok → k ≠ i → (listed.setIfInBounds j true).getD k true = false →
          (∀ e ∈ ok.after, Region.binds .any e = true → e.on ≠ i) → oi.apart ops ok = true := fun k ok hk hki hun hno => by
        refine hfree k ok hk hki ?_ hno
        by_cases hjk : j = k
        · subst hjk; exact hjun
        · rw [getD_set_ne true hjk] at hun; exact hun
      have hd' : pu = false → ∀ d, D d → (listed.setIfInBounds j true).getD d true = false → Waits ops i d := fun hp d hm hun => by
        refine hd hp d hm ?_
        by_cases hjk : j = d
        · subst hjk; exact hjun
        · rw [getD_set_ne true hjk] at hun; exact hun
      refine wpOp_mono (fun a' w' h3 => ⟨h3.2.1, ih (listed.setIfInBounds j true) a' w' (by simpa using hsz) hfree' (hc.set hj) hd' (ready_mono hr (Ne.symm hji))
        (h3.1.imp (fun ⟨q1, q2⟩ => ⟨q1, fun w'' hw'' => q2 w'' (by
          rcases hw'' with hp | hl
          · exact .inl hp
          · cases hpu : pu with
            | true => exact .inl rfl
            | false => exact .inr ((h3.2.1 (hjd hpu)).trans hl))⟩) id) ?_⟩) h2
      rw [Array.setIfInBounds_comm _ _ hji]
      exact h3.2.2

theorem wpR_all {fuel : Nat} {listed : Array Bool} {a : Act} {w : World} (hne : Region.ready .any ops listed ≠ [])
    (h : ∀ i ∈ Region.ready .any ops listed, wpOp P ops Q i (fun a' w' => (¬ D i → Later w w') ∧ wpR P ops Q D fuel (listed.setIfInBounds i true) a' w') a w) : wpR P ops Q D (fuel + 1) listed a w :=
  ⟨fun h0 => absurd h0 hne, h⟩

theorem wpR_done {listed : Array Bool} {a : Act} {w : World} (hr : Region.ready .any ops listed = []) (h : Q .normal a w) : ∀ fuel, wpR P ops Q D fuel listed a w
  | 0 => ⟨hr, h⟩
  | _ + 1 => ⟨fun _ => h, by rw [hr]; simp⟩

/-! ### Masks -/

theorem tb_eq (m i : Nat) : tb m i = m.testBit i := by
  unfold tb
  rw [Nat.testBit_eq_decide_div_mod_eq]
  show Nat.beq (1 &&& (m >>> i)) 1 = _
  rw [Nat.and_comm, Nat.and_one_is_mod, Nat.shiftRight_eq_div_pow]
  by_cases h : m / 2 ^ i % 2 = 1
  · rw [h]; simp
  · have : m / 2 ^ i % 2 = 0 := by omega
    rw [this]; rfl

theorem subM_iff {d m : Nat} : subM d m = true ↔ ∀ j, d.testBit j = true → m.testBit j = true := by
  unfold subM
  constructor
  · intro h j hj
    have e : d &&& m = d := Nat.eq_of_beq_eq_true h
    have := congrArg (fun x => x.testBit j) e
    simp only [Nat.testBit_and, hj, Bool.true_and] at this
    exact this
  · intro h
    have : d &&& m = d := by
      apply Nat.eq_of_testBit_eq
      intro j
      rw [Nat.testBit_and]
      cases hj : d.testBit j with
      | false => simp
      | true => rw [h j hj]; simp
    show Nat.beq (d &&& m) d = true
    rw [this]; simp

theorem bit_or (m i j : Nat) : (Nat.lor m (Nat.shiftLeft 1 i)).testBit j = (m.testBit j || decide (i = j)) := by
  show (m ||| (1 <<< i)).testBit j = _
  rw [Nat.testBit_or, Nat.one_shiftLeft, Nat.testBit_two_pow]

theorem depE_bit : (l : List Edge) → (j : Nat) → ((depE l).testBit j = true ↔ ∃ e ∈ l, Region.binds .any e = true ∧ e.on = j)
  | [], j => by simp [depE]
  | e :: r, j => by
    have ih := depE_bit r j
    unfold depE
    cases hb : Region.binds .any e with
    | false =>
      simp only [cond_false, ih, List.mem_cons]
      constructor
      · rintro ⟨x, h1, h2⟩; exact ⟨x, .inr h1, h2⟩
      · rintro ⟨x, h1 | h1, h2, h3⟩
        · subst h1; rw [hb] at h2; cases h2
        · exact ⟨x, h1, h2, h3⟩
    | true =>
      simp only [cond_true]
      rw [show Nat.lor (Nat.shiftLeft 1 e.on) (depE r) = Nat.lor (depE r) (Nat.shiftLeft 1 e.on) from Nat.or_comm _ _, bit_or, Bool.or_eq_true, ih]
      constructor
      · rintro (⟨x, h1, h2⟩ | h)
        · exact ⟨x, List.mem_cons_of_mem _ h1, h2⟩
        · exact ⟨e, List.mem_cons_self, hb, of_decide_eq_true h⟩
      · rintro ⟨x, h1, h2, h3⟩
        rcases List.mem_cons.1 h1 with h | h
        · subst h; right; exact decide_eq_true h3
        · left; exact ⟨x, h, h2, h3⟩

theorem depsOf_get : (l : List Oper) → (j : Nat) → (depsOf l)[j]? = (l[j]?).map fun o => depE o.after.toList
  | [], j => by simp [depsOf]
  | o :: r, 0 => by simp [depsOf]
  | o :: r, j + 1 => by simpa [depsOf] using depsOf_get r j

/-- The array that a mask stands for. -/
structure MaskOf (ops : Array Oper) (m : Nat) (l : Array Bool) : Prop where
  size : l.size = ops.size
  bit : ∀ i, i < ops.size → l[i]? = some (m.testBit i)
  out : ∀ i, ops.size ≤ i → m.testBit i = false

theorem MaskOf.zero (ops : Array Oper) : MaskOf ops 0 (Array.replicate ops.size false) :=
  ⟨by simp, fun i hi => by simp [hi], fun i _ => by simp⟩

theorem MaskOf.set {m : Nat} {l : Array Bool} (h : MaskOf ops m l) {i : Nat} (hi : i < ops.size) : MaskOf ops (Nat.lor m (Nat.shiftLeft 1 i)) (l.setIfInBounds i true) := by
  refine ⟨by simpa using h.size, fun j hj => ?_, fun j hj => ?_⟩
  · rw [bit_or, Array.getElem?_setIfInBounds]
    by_cases hij : i = j
    · subst hij; simp [h.size, hi]
    · simp [hij, h.bit j hj]
  · rw [bit_or, h.out j hj]
    have : ¬ i = j := by omega
    simp [this]

theorem MaskOf.getF {m : Nat} {l : Array Bool} (h : MaskOf ops m l) (i : Nat) : l.getD i false = m.testBit i := by
  rcases Nat.lt_or_ge i ops.size with hi | hi
  · rw [Array.getD_eq_getD_getElem?, h.bit i hi]; rfl
  · rw [Array.getD_eq_getD_getElem?, Array.getElem?_eq_none (by rw [h.size]; exact hi), h.out i hi]; rfl

theorem MaskOf.getT {m : Nat} {l : Array Bool} (h : MaskOf ops m l) {i : Nat} (hi : i < ops.size) : l.getD i true = m.testBit i := by
  rw [Array.getD_eq_getD_getElem?, h.bit i hi]; rfl

theorem readyL_mem {m : Nat} : (l : List Nat) → (k i : Nat) → (i ∈ readyL m l k ↔ ∃ d, k ≤ i ∧ l[i - k]? = some d ∧ m.testBit i = false ∧ subM d m = true)
  | [], k, i => by simp [readyL]
  | d :: r, k, i => by
    have ih := readyL_mem (m := m) r (k + 1) i
    have tail : (i ∈ readyL m r (k + 1)) ↔ ∃ x, k + 1 ≤ i ∧ (d :: r)[i - k]? = some x ∧ m.testBit i = false ∧ subM x m = true := by
      rw [ih]
      constructor
      · rintro ⟨x, h1, h2, h3⟩
        refine ⟨x, h1, ?_, h3⟩
        rw [show i - k = (i - (k + 1)) + 1 by omega]
        simpa using h2
      · rintro ⟨x, h1, h2, h3⟩
        refine ⟨x, h1, ?_, h3⟩
        rw [show i - k = (i - (k + 1)) + 1 by omega] at h2
        simpa using h2
    unfold readyL
    cases hb : (!(tb m k) && subM d m) with
    | true =>
      simp only [cond_true, List.mem_cons, tail]
      rw [Bool.and_eq_true, Bool.not_eq_true', tb_eq] at hb
      constructor
      · rintro (h | ⟨x, h1, h2⟩)
        · subst h; exact ⟨d, Nat.le_refl _, by simp, hb.1, hb.2⟩
        · exact ⟨x, by omega, h2⟩
      · rintro ⟨x, h1, h2⟩
        rcases Nat.lt_or_ge k i with h | h
        · right; exact ⟨x, h, h2⟩
        · left; omega
    | false =>
      simp only [cond_false, tail]
      constructor
      · rintro ⟨x, h1, h2⟩; exact ⟨x, by omega, h2⟩
      · rintro ⟨x, h1, h2, h3, h4⟩
        refine ⟨x, ?_, h2, h3, h4⟩
        rcases Nat.lt_or_ge k i with h | h
        · exact h
        · have e : i = k := by omega
          subst e
          simp at h2
          subst h2
          rw [tb_eq, h3, h4] at hb
          simp at hb

theorem ready_iff {m : Nat} {l : Array Bool} (h : MaskOf ops m l) (i : Nat) : i ∈ readyL m (depsOf ops.toList) 0 ↔ i ∈ Region.ready .any ops l := by
  rw [readyL_mem, mem_ready]
  simp only [Nat.zero_le, true_and, Nat.sub_zero, depsOf_get]
  constructor
  · rintro ⟨d, h1, h2, h3⟩
    cases ho : ops[i]? with
    | none => simp [ho] at h1
    | some o =>
      have hi : i < ops.size := (Array.getElem?_eq_some_iff.1 ho).1
      refine ⟨by rw [h.getT hi, h2], o, rfl, fun e he hb => ?_⟩
      simp [ho] at h1
      subst h1
      rw [h.getF]
      exact subM_iff.1 h3 _ ((depE_bit _ _).2 ⟨e, by simpa using he, hb, rfl⟩)
  · rintro ⟨h1, o, ho, h2⟩
    have hi : i < ops.size := (Array.getElem?_eq_some_iff.1 ho).1
    refine ⟨depE o.after.toList, by simp [ho], by rw [← h.getT hi, h1], subM_iff.2 fun j hj => ?_⟩
    obtain ⟨e, he, hb, rfl⟩ := (depE_bit _ _).1 hj
    rw [← h.getF]
    exact h2 e (by simpa using he) hb

theorem readyL_nil {m : Nat} {l : Array Bool} (h : MaskOf ops m l) (hr : readyL m (depsOf ops.toList) 0 = []) : Region.ready .any ops l = [] := by
  cases hq : Region.ready .any ops l with
  | nil => rfl
  | cons i r =>
    have := (ready_iff h i).2 (by rw [hq]; exact List.mem_cons_self)
    rw [hr] at this
    cases this

/-! ### What waits -/

theorem orAll_bit (dep : Nat) : (l : List Nat) → (k j : Nat) → ((orAll dep l k).testBit j = true ↔ ∃ i t, l[i]? = some t ∧ dep.testBit (k + i) = true ∧ t.testBit j = true)
  | [], k, j => by simp [orAll]
  | t :: r, k, j => by
    have ih := orAll_bit dep r (k + 1) j
    have tail : (orAll dep r (k + 1)).testBit j = true ↔ ∃ i u, (t :: r)[i + 1]? = some u ∧ dep.testBit (k + (i + 1)) = true ∧ u.testBit j = true := by
      rw [ih]
      constructor
      · rintro ⟨i, u, h1, h2, h3⟩; exact ⟨i, u, by simpa using h1, by rw [show k + (i + 1) = k + 1 + i by omega]; exact h2, h3⟩
      · rintro ⟨i, u, h1, h2, h3⟩; exact ⟨i, u, by simpa using h1, by rw [show k + 1 + i = k + (i + 1) by omega]; exact h2, h3⟩
    unfold orAll
    cases hb : tb dep k with
    | true =>
      rw [tb_eq] at hb
      simp only [cond_true]
      rw [show Nat.lor t (orAll dep r (k + 1)) = t ||| orAll dep r (k + 1) from rfl, Nat.testBit_or, Bool.or_eq_true, tail]
      constructor
      · rintro (h | ⟨i, u, h1, h2, h3⟩)
        · exact ⟨0, t, by simp, by simpa using hb, h⟩
        · exact ⟨i + 1, u, h1, h2, h3⟩
      · rintro ⟨i, u, h1, h2, h3⟩
        cases i with
        | zero => left; simp at h1; subst h1; exact h3
        | succ i => right; exact ⟨i, u, h1, h2, h3⟩
    | false =>
      rw [tb_eq] at hb
      simp only [cond_false, tail]
      constructor
      · rintro ⟨i, u, h⟩; exact ⟨i + 1, u, h⟩
      · rintro ⟨i, u, h1, h2, h3⟩
        cases i with
        | zero => simp at h2; rw [hb] at h2; cases h2
        | succ i => exact ⟨i, u, h1, h2, h3⟩

/-- A set that is closed under the direct waits (by masks). -/
def ClosedM (deps : List Nat) (S : Nat → Prop) : Prop := ∀ (j d : Nat), S j → deps[j]? = some d → ∀ k, d.testBit k = true → S k

theorem tcGo_ok {deps : List Nat} {S : Nat → Prop} (hS : ClosedM deps S) : (l acc : List Nat) → (∀ (j : Nat) (d : Nat), l[j]? = some d → deps[acc.length + j]? = some d) →
    (∀ (j t d : Nat), acc[j]? = some t → deps[j]? = some d → (∀ k, d.testBit k = true → S k) → ∀ k, t.testBit k = true → S k) →
    ∀ (j t d : Nat), (tcGo l acc)[j]? = some t → deps[j]? = some d → (∀ k, d.testBit k = true → S k) → ∀ k, t.testBit k = true → S k
  | [], acc, _, ha => ha
  | d0 :: r, acc, hl, ha => by
    unfold tcGo
    have h0 : deps[acc.length]? = some d0 := by simpa using hl 0 d0 rfl
    refine tcGo_ok hS r _ (fun j d hj => ?_) ?_
    · have := hl (j + 1) d (by simpa using hj)
      rw [List.length_append, List.length_singleton, show acc.length + 1 + j = acc.length + (j + 1) by omega]
      exact this
    · intro j t d hj hd hsub k hk
      rcases Nat.lt_or_ge j acc.length with hlt | hge
      · rw [List.getElem?_append_left hlt] at hj
        exact ha j t d hj hd hsub k hk
      · rw [List.getElem?_append_right hge] at hj
        have e : j - acc.length = 0 := by
          rcases Nat.eq_zero_or_pos (j - acc.length) with h | h
          · exact h
          · rw [List.getElem?_eq_none (by simp; omega)] at hj; cases hj
        have e' : j = acc.length := by omega
        subst e'
        rw [e] at hj
        simp at hj
        subst hj
        have hdd : d = d0 := Option.some.inj (hd.symm.trans h0)
        subst hdd
        rw [Nat.testBit_or, Bool.or_eq_true] at hk
        rcases hk with hk | hk
        · exact hsub k hk
        · obtain ⟨i, u, h1, h2, h3⟩ := (orAll_bit d acc 0 k).1 hk
          rw [Nat.zero_add] at h2
          have hi := hsub i h2
          have hil : i < acc.length := (List.getElem?_eq_some_iff.1 h1).1
          cases hdi : deps[i]? with
          | none =>
            have h5 := List.getElem?_eq_none_iff.1 hdi
            have h6 := (List.getElem?_eq_some_iff.1 h0).1
            omega
          | some di => exact ha i u di h1 hdi (fun k hk => hS i di hi hdi k hk) k h3

theorem waits_of_tc {i d t : Nat} (ht : (tcGo (depsOf ops.toList) [])[d]? = some t) (hb : t.testBit i = true) : Waits ops i d := by
  intro listed hc hsz hun hd
  obtain ⟨_, od, hod, hall⟩ := mem_ready.1 hd
  have hS : ClosedM (depsOf ops.toList) (fun j => listed.getD j false = true) := by
    intro j dj hj hdj k hk
    rw [depsOf_get] at hdj
    cases ho : ops.toList[j]? with
    | none => simp [ho] at hdj
    | some o =>
      simp [ho] at hdj
      subst hdj
      obtain ⟨e, he, hbb, rfl⟩ := (depE_bit _ _).1 hk
      exact hc j o (by simpa using ho) hj e (by simpa using he) hbb
  have := tcGo_ok hS (depsOf ops.toList) [] (fun j d h => by simpa using h) (fun j t d h => by simp at h) d t (depE od.after.toList) ht (by rw [depsOf_get]; simp [hod]) (fun k hk => by
    obtain ⟨e, he, hbb, rfl⟩ := (depE_bit _ _).1 hk
    exact hall e (by simpa using he) hbb) i hb
  rcases Nat.lt_or_ge i listed.size with h | h
  · simp [h] at this hun
    rw [this] at hun; cases hun
  · simp [Array.getElem?_eq_none h] at this

end

section
variable {P : Program} {I : Ini} {C : Ctx} {ops : Array Oper}

def LastD (C : Ctx) (ops : Array Oper) (d : Nat) : Prop := ∃ o, ops[d]? = some o ∧ lightOp o.op = false ∧ keepOp C o.op = false

theorem lastL_ok {m i : Nat} : (l : List Oper) → (ts : List Nat) → (k : Nat) → lastL C m i l ts k = true →
    ∀ (j : Nat) (o : Oper), l[j]? = some o → lightOp o.op = false → keepOp C o.op = false → m.testBit (k + j) = true ∨ ∃ t, ts[j]? = some t ∧ t.testBit i = true
  | [], _, _, _, j, o, h => by simp at h
  | x :: l, [], _, h, _, _, _ => by simp [lastL] at h
  | x :: l, t :: r, k, h, j, o, hj => by
    simp only [lastL, Bool.and_eq_true, Bool.or_eq_true, tb_eq] at h
    intro h1 h2
    cases j with
    | zero =>
      simp at hj
      subst hj
      rcases h.1 with ((h3 | h3) | h3) | h3
      · rw [h1] at h3; cases h3
      · rw [h2] at h3; cases h3
      · exact .inl h3
      · exact .inr ⟨t, rfl, h3⟩
    | succ j =>
      have := lastL_ok l r (k + 1) h.2 j o (by simpa using hj) h1 h2
      rw [show k + 1 + j = k + (j + 1) by omega] at this
      simpa using this

theorem freeL_ok {x : Oper} {m i : Nat} : (l : List Oper) → (ds : List Nat) → (k : Nat) → freeL ops x m i l ds k = true →
    ∀ (j : Nat) (y : Oper), l[j]? = some y → m.testBit (k + j) = true ∨ k + j = i ∨ (∃ d, ds[j]? = some d ∧ d.testBit i = true) ∨ x.apart ops y = true
  | [], _, _, _, j, o, h => by simp at h
  | _ :: l, [], _, h, _, _, _ => by simp [freeL] at h
  | z :: l, d :: r, k, h, j, y, hj => by
    simp only [freeL, Bool.and_eq_true, Bool.or_eq_true, tb_eq] at h
    cases j with
    | zero =>
      simp at hj
      subst hj
      rcases h.1 with ((h3 | h3) | h3) | h3
      · exact .inl h3
      · exact .inr (.inl (Nat.eq_of_beq_eq_true h3))
      · exact .inr (.inr (.inl ⟨d, rfl, h3⟩))
      · exact .inr (.inr (.inr h3))
    | succ j =>
      have := freeL_ok l r (k + 1) h.2 j y (by simpa using hj)
      rw [show k + 1 + j = k + (j + 1) by omega] at this
      simpa using this

theorem allL_mem {p : Nat → Prop} : (l : List Nat) → allL l p → ∀ i ∈ l, p i
  | [], _, i, h => by cases h
  | [x], h, i, hi => by simp at hi; subst hi; exact h
  | x :: y :: r, h, i, hi => by
    rcases List.mem_cons.1 hi with h' | h'
    · subst h'; exact h.1
    · exact allL_mem (y :: r) h.2 i h'

theorem pickL_spec {deps tcs : List Nat} {m : Nat} : (l : List Nat) → {i : Nat} → pickL C ops deps tcs m l = some i → i ∈ l ∧ pickOK C ops deps tcs m i = true
  | [], i, h => by cases h
  | x :: r, i, h => by
    unfold pickL at h
    cases hb : pickOK C ops deps tcs m x with
    | true => rw [hb] at h; simp at h; subst h; exact ⟨List.mem_cons_self, hb⟩
    | false =>
      rw [hb] at h
      obtain ⟨h1, h2⟩ := pickL_spec r h
      exact ⟨List.mem_cons_of_mem _ h1, h2⟩

/-- The guard's two ways. -/
theorem guard_sound (_hC : CtxOK P C) {o : Oper} {st : St} {R : St → Prop} {a : Act} {w : World} (h : execOps C ops [o] st R) (hh : Holds I st a w) :
    (∃ st', Holds I st' a w ∧ Region.wanted o (yielded ops a.tmps) = true ∧ opStep C o.op st'.ev st'.h fun v H => R (st'.put o.dst v H)) ∨
    (∃ st', Holds I st' (a.put o.dst undef) w ∧ Region.wanted o (yielded ops a.tmps) = false ∧ R st') := by
  have hskip : ∀ {st : St}, Holds I st a w → Holds I (st.put o.dst (.c (.raw undef)) st.h) (a.put o.dst undef) w := by
    rintro st ⟨h1, h2, hn, g, hs, hev, ht⟩
    exact Holds.put h1 h2 hn hev ht hs (Evo.refl _ _ _) (sv := .c (.raw undef)) rfl o.dst
  have hrun : ∀ {st : St}, Holds I st a w → Region.wanted o (yielded ops a.tmps) = true → (runOp C o st fun st => execOps C ops [] st R) → ∃ st', Holds I st' a w ∧ Region.wanted o (yielded ops a.tmps) = true ∧ opStep C o.op st'.ev st'.h fun v H => R (st'.put o.dst v H) :=
    fun h0 hw h => ⟨_, frzOp_sound C o.op h0, hw, h⟩
  unfold execOps at h
  cases hg : o.guard with
  | none =>
    rw [hg] at h
    exact .inl (hrun hh (by simp [Region.wanted, hg]) h)
  | some p =>
    obtain ⟨j, want⟩ := p
    rw [hg] at h
    simp only at h
    cases hd : (ops[j]?).bind (·.dst) with
    | none => rw [hd] at h; exact h.elim
    | some d =>
      rw [hd] at h
      simp only at h
      cases hb : Nat.blt d st.n with
      | false => rw [hb] at h; exact h.elim
      | true =>
        rw [hb] at h
        simp only [cond_true] at h
        have hlt : d < a.tmps.size := by rw [hh.size]; simpa [Nat.blt_eq] using hb
        have hw : ∀ b, a.tmps.getD d undef = .bool b → Region.wanted o (yielded ops a.tmps) = (b == want) := by
          intro b hv
          have hq : a.tmps[d]? = some (.bool b) := by
            rw [Array.getD_eq_getD_getElem?, Array.getElem?_eq_getElem hlt] at hv
            rw [Array.getElem?_eq_getElem hlt]
            simpa using hv
          simp [Region.wanted, hg, yielded, hd, hq]
        cases hsk : (findT d st.t).skipped with
        | true =>
          rw [hsk] at h
          have hw0 : Region.wanted o (yielded ops a.tmps) = false := by
            obtain ⟨_, _, _, g, _, _, ht⟩ := hh
            exact skipped_wanted hg hd hsk (ht d)
          exact .inr ⟨_, hskip hh, hw0, h⟩
        | false =>
        rw [hsk] at h
        simp only [cond_false] at h
        cases want with
        | true =>
          simp only [cond_true] at h
          obtain ⟨b, hv, hA, hB⟩ := condS_sound hh (fun g _ ht => ht d) h
          cases b with
          | true => obtain ⟨st', k1, k2, _⟩ := hA rfl; exact .inl (hrun k2 (by rw [hw _ hv]; rfl) k1)
          | false => obtain ⟨st', k1, k2, _⟩ := hB rfl; exact .inr ⟨_, hskip k2, by rw [hw _ hv]; rfl, k1⟩
        | false =>
          simp only [cond_false] at h
          obtain ⟨b, hv, hA, hB⟩ := condS_sound hh (fun g _ ht => ht d) h
          cases b with
          | true => obtain ⟨st', k1, k2, _⟩ := hA rfl; exact .inr ⟨_, hskip k2, by rw [hw _ hv]; rfl, k1⟩
          | false => obtain ⟨st', k1, k2, _⟩ := hB rfl; exact .inl (hrun k2 (by rw [hw _ hv]; rfl) k1)

theorem light_step (hC : CtxOK P C) {o : Oper} {st : St} {R : St → Prop} {a : Act} {w : World} (hl : lightOp o.op = true) (h : execOps C ops [o] st R) (hh : Holds I st a w) :
    ∃ v st', YieldsIf P ops (fun w' => pureOp o.op = true ∨ Later w w') o v a ∧ Holds I st' (a.put o.dst v) w ∧ R st' := by
  rcases guard_sound hC h hh with ⟨st', k1, k2, k3⟩ | ⟨st', k1, k2, k3⟩
  · obtain ⟨h1, h2, hn, g, hs, hev, ht⟩ := k1
    obtain ⟨v, sv, r1, r2, r3⟩ := opStep_light hC hs (ev_rep ht) hl k3
    exact ⟨v, _, .inl ⟨k2, r1⟩, Holds.put h1 h2 hn hev ht hs (Evo.refl _ _ _) r2 o.dst, r3⟩
  · exact ⟨undef, st', .inr ⟨k2, rfl⟩, k1, k3⟩

theorem op_step (hC : CtxOK P C) {Q : Exit → Act → World → Prop} {i : Nat} {o : Oper} {st : St} {R : St → Prop} {a : Act} {w : World} (ho : ops[i]? = some o) (h : execOps C ops [o] st R) (hh : Holds I st a w)
    {K : Act → World → Prop} (hK : ∀ st' a' w', R st' → Holds I st' a' w' → (¬ LastD C ops i → Later w w') → K a' w') : wpOp P ops Q i K a w := by
  unfold wpOp
  simp only [ho]
  rcases guard_sound hC h hh with ⟨st', k1, k2, k3⟩ | ⟨st', k1, k2, k3⟩
  · rw [if_pos k2]
    refine .inl ?_
    obtain ⟨h1, h2, hn, g, hs, hev, ht⟩ := k1
    cases hl : lightOp o.op with
    | true =>
      obtain ⟨v, sv, r1, r2, r3⟩ := opStep_light hC hs (ev_rep ht) hl k3
      refine Runs.value (R := fun v' w' => v' = v ∧ w' = w) (r1 w (.inr (Later.refl w))) ⟨rfl, rfl⟩ K Q ?_
      rintro v' w' ⟨rfl, rfl⟩
      exact hK _ _ _ r3 (Holds.put h1 h2 hn hev ht hs (Evo.refl _ _ _) r2 o.dst) fun _ => Later.refl _
    | false =>
      cases hk : keepOp C o.op with
      | true =>
        refine opStep_keep hC hs (ev_rep ht) hk k3 K Q ?_
        rintro v w' ⟨⟨sv, H', g', q1, q2, q3, q4⟩, hlat⟩
        exact hK _ _ _ q1 (Holds.put h1 h2 hn hev ht q2 q3 q4 o.dst) fun _ => hlat
      | false =>
        refine opStep_sound hC hs (ev_rep ht) k3 K Q ?_
        rintro v w' ⟨sv, H', g', q1, q2, q3, q4⟩
        exact hK _ _ _ q1 (Holds.put h1 h2 hn hev ht q2 q3 q4 o.dst) fun hn => absurd ⟨o, ho, hl, hk⟩ hn
  · rw [if_neg (by rw [k2]; simp)]
    exact hK _ _ _ k3 k1 fun _ => Later.refl _

theorem execAny_sound (hC : CtxOK P C) {Q : Exit → Act → World → Prop} (hQ : ∀ c a w, ¬ Q (.panic c) a w) {R : St → Prop} (hR : ∀ st a w, R st → Holds I st a w → Q .normal a w) (hsel : Region.noSelect ops = true) :
    (f : Nat) → {m : Nat} → {l : Array Bool} → {st : St} → {a : Act} → {w : World} → execAny C ops (depsOf ops.toList) (tcGo (depsOf ops.toList) []) f m st R → MaskOf ops m l → Closed ops l → Holds I st a w →
    wpR P ops Q (LastD C ops) f l a w
  | 0, m, l, st, a, w, h, hm, hc, hh => by
    unfold execAny at h
    split at h
    · rename_i heq; exact wpR_done (readyL_nil hm heq) (hR _ _ _ h hh) 0
    · exact h.elim
  | f + 1, m, l, st, a, w, h, hm, hc, hh => by
    unfold execAny at h
    split at h
    · rename_i heq; exact wpR_done (readyL_nil hm heq) (hR _ _ _ h hh) _
    · rename_i i0 r0 heq
      have hne : Region.ready .any ops l ≠ [] := fun e => by
        have := (ready_iff hm i0).1 (by rw [heq]; exact List.mem_cons_self)
        rw [e] at this; cases this
      split at h
      · rename_i i hp
        obtain ⟨p1, p2⟩ := pickL_spec _ hp
        have hri : i ∈ Region.ready .any ops l := (ready_iff hm i).1 (by rw [heq]; exact p1)
        cases ho : ops[i]? with
        | none => rw [ho] at h; exact h.elim
        | some o =>
          have hil : i < ops.size := (Array.getElem?_eq_some_iff.1 ho).1
          rw [ho] at h
          simp only at h
          unfold pickOK at p2
          rw [ho] at p2
          simp only [Bool.and_eq_true] at p2
          obtain ⟨⟨q1, q2⟩, q3⟩ := p2
          obtain ⟨v, st', y1, y2, y3⟩ := light_step hC q1 h hh
          refine wpR_first ho (Region.noSelect_spec hsel) (fun c a w hq => absurd hq (hQ c _ w)) f l a w hm.size ?_ hc ?_ hri y1 (execAny_sound hC hQ hR hsel f y3 (hm.set hil) (hc.set hri) y2)
          · intro j oj hj hji hun hno
            have hjl : j < ops.size := (Array.getElem?_eq_some_iff.1 hj).1
            have := freeL_ok ops.toList _ 0 q3 j oj (by simpa using hj)
            rw [Nat.zero_add] at this
            rcases this with h1 | h1 | ⟨d, h1, h2⟩ | h1
            · rw [hm.getT hjl, h1] at hun; cases hun
            · exact absurd h1 hji
            · rw [depsOf_get] at h1
              simp [hj] at h1
              subst h1
              obtain ⟨e, he, hb, hon⟩ := (depE_bit _ _).1 h2
              exact absurd hon (hno e (by simpa using he) hb)
            · exact h1
          · rintro hpu d ⟨od, hod, hd1, hd2⟩ hun
            have hdl : d < ops.size := (Array.getElem?_eq_some_iff.1 hod).1
            rw [Bool.or_eq_true, hpu] at q2
            rcases lastL_ok ops.toList _ 0 (q2.resolve_left Bool.false_ne_true) d od (by simpa using hod) hd1 hd2 with h1 | ⟨t, h1, h2⟩
            · rw [Nat.zero_add] at h1; rw [hm.getT hdl, h1] at hun; cases hun
            · exact waits_of_tc h1 h2
      · rename_i hp
        refine wpR_all hne fun i hi => ?_
        have hi' := (ready_iff hm i).2 hi
        rw [heq] at hi'
        have h1 := allL_mem _ h i hi'
        cases ho : ops[i]? with
        | none => rw [ho] at h1; exact h1.elim
        | some o =>
          have hil : i < ops.size := (Array.getElem?_eq_some_iff.1 ho).1
          rw [ho] at h1
          simp only at h1
          exact op_step hC ho h1 hh fun st' a' w' k1 k2 k3 => ⟨k3, execAny_sound hC hQ hR hsel f k1 (hm.set hil) (hc.set hi) k2⟩

theorem execDraw_sound (hC : CtxOK P C) {Q : Exit → Act → World → Prop} (hQ : ∀ c a w, ¬ Q (.panic c) a w) {R : St → Prop} (hR : ∀ st a w, R st → Holds I st a w → Q .normal a w) {id : Nat} {st : St} {a : Act} {w : World}
    (h : execDraw C ops st R) (hh : Holds I st a w) : (Code.region id ops true).wp P Q a w := by
  unfold execDraw at h
  cases hs : Region.noSelect ops with
  | false => rw [hs] at h; exact h.elim
  | true =>
    rw [hs] at h
    simp only [cond_true] at h
    refine wp_region_any hC.mixed (wpAny_of_R (D := LastD C ops) _ _ _ _ (execAny_sound hC hQ hR hs _ h (MaskOf.zero ops) (fun j oj _ hl => ?_) ?_))
    · rw [(MaskOf.zero ops).getF] at hl; simp at hl
    · obtain ⟨h1, h2, hn, g, hsat, hev, ht⟩ := hh
      obtain ⟨b1, b2⟩ := Sat.same (w1 := { w with drawn := w.drawn + 1 }) hsat rfl rfl rfl (Nat.le_refl _) (fun _ _ => rfl)
      exact ⟨h1, h2, hn, g, b1, hev.trans b2, fun d => (ht d).evo b2⟩

end
end Go.SX

/- SX, part L: loops; the executor over code is sound. -/
namespace Go.SX
open Go Go.RowKit

section
variable {P : Program} {I : Ini} {C : Ctx} {w : World} {H H' : List Ent} {g : Gh} {fresh : Nat → Bool} {B0 : Nat} {X0 : Nat → Prop} {v0 : World}

/-- Each entry of the one heap stands in the other. -/
def LeH (fresh : Nat → Bool) (H H' : List Ent) : Prop := ∀ (i : Nat) (e' : Ent), H'[i]? = some e' → ∃ e, H[i]? = some e ∧ Ent.le H H' (fresh i) e e'

theorem entsLe_sound : (H0 : List Ent) → (H1 : List Ent) → (k : Nat) → entsLe fresh H H' k H0 H1 → ∀ (i : Nat) (e' : Ent), H1[i]? = some e' → ∃ e, H0[i]? = some e ∧ Ent.le H H' (fresh (k + i)) e e'
  | _, [], _, _, i, e', h => by simp at h
  | [], _ :: _, _, h, _, _, _ => h.elim
  | a :: r, b :: s, k, h, i, e', hi => by
    cases i with
    | zero => simp at hi; subst hi; exact ⟨a, rfl, h.1⟩
    | succ i =>
      obtain ⟨e, h1, h2⟩ := entsLe_sound r s (k + 1) h.2 i e' (by simpa using hi)
      exact ⟨e, by simpa using h1, by rw [show k + (i + 1) = k + 1 + i by omega]; exact h2⟩

theorem Ent.le_blocks {f : Bool} {i b : Nat} : {e e' : Ent} → Ent.le H H' f e e' → e'.blocks g i b → e.blocks g i b
  | _, .dead, _, h => h.elim
  | .blk .., .blk .., _, h => h
  | .row .., .row .., _, h => h
  | .tab .., .tab .., _, h => h
  | .dead, .blk .., h, _ => h.elim
  | .dead, .row .., h, _ => h.elim
  | .dead, .tab .., h, _ => h.elim
  | .blk .., .row .., h, _ => h.elim
  | .blk .., .tab .., h, _ => h.elim
  | .row .., .blk .., h, _ => h.elim
  | .row .., .tab .., h, _ => h.elim
  | .tab .., .blk .., h, _ => h.elim
  | .tab .., .row .., h, _ => h.elim

theorem LeH.owned (h : LeH fresh H H') {b : Nat} (ho : Owned H' g b) : Owned H g b := by
  obtain ⟨i, e', h1, h2⟩ := ho
  obtain ⟨e, h3, h4⟩ := h i e' h1
  exact ⟨i, e, h3, Ent.le_blocks h4 h2⟩

theorem LeH.keeps (h : LeH fresh H H') : Keeps w (Stable H g) w (Stable H' g) := ⟨Nat.le_refl _, fun _ _ hs => ⟨⟨hs.1, fun ho => hs.2 (h.owned ho)⟩, rfl⟩⟩

theorem decide_iff {p q : Prop} {dp : Decidable p} {dq : Decidable q} (h : p ↔ q) : @decide p dp = @decide q dq := by
  by_cases hp : p
  · have hq := h.1 hp
    simp [hp, hq]
  · have hq : ¬ q := fun hq => hp (h.2 hq)
    simp [hp, hq]

theorem bool_iff {b : Bool} {p : Prop} {d : Decidable p} (h : b = true ↔ p) : b = @decide p d := by
  cases b with
  | true => exact (decide_eq_true (h.1 rfl)).symm
  | false => exact (decide_eq_false (fun hp => by have := h.2 hp; cases this)).symm

theorem SC.le_sound (hs : Sat B0 X0 v0 H g w) (hH : LeH fresh H H') {x y : SC} {v : Value} (h : SC.le H H' x y) (hr : x.Rep w H g v) : y.Rep w H' g v := by
  cases y with
  | any => trivial
  | int k' n' =>
    cases x with
    | int k n =>
      by_cases e : k = k'
      · subst e
        have hn : n = n' := by simpa [SC.le] using h
        subst hn
        exact hr
      · simp only [SC.le, decide_eq_false e, cond_false] at h
    | _ => exact h.elim
  | prop id q dq =>
    cases x with
    | prop _ p d => have e : v = _ := hr; rw [e]; show Value.bool _ = Value.bool _; rw [decide_iff h]
    | bool _ b =>
      have e : v = .bool _ := hr
      rw [e]; show Value.bool _ = Value.bool _
      rw [bool_iff h]
    | kb b =>
      have e : v = .bool _ := hr
      rw [e]; show Value.bool _ = Value.bool _
      rw [bool_iff h]
    | _ => exact h.elim
  | bool id b' =>
    cases x with
    | prop _ p d =>
      have h' : @decide p d = b' := h
      have e : v = _ := hr
      rw [e]; show Value.bool _ = Value.bool _; rw [h']
    | bool _ b => have h' : b = b' := h; subst h'; exact hr
    | kb b => have h' : b = b' := h; subst h'; exact hr
    | _ => exact h.elim
  | kb b' =>
    cases x with
    | kb b =>
      have h' : (bif b == b' then True else False) := h
      cases hb : b == b' with
      | false => rw [hb] at h'; exact h'.elim
      | true =>
        have : b = b' := by simpa using hb
        subst this; exact hr
    | prop id p d =>
      have e : v = .bool (@decide p d) := hr
      rw [e]; show Value.bool _ = Value.bool _
      congr 1
      cases b' with
      | true => exact decide_eq_true (p := p) h
      | false => exact decide_eq_false (p := p) h
    | bool _ b =>
      have h' : b = b' := h
      have e : v = .bool _ := hr
      rw [e]; show Value.bool _ = Value.bool _
      rw [h']
    | _ => exact h.elim
  | str s' =>
    cases x with
    | str s => have h' : s = s' := h; subst h'; exact hr
    | _ => exact h.elim
  | ptr j o' =>
    cases x with
    | ptr i o =>
      have h' : (bif Nat.beq i j && Nat.beq o o' && Nat.blt j H'.length then True else False) := h
      cases hb : (Nat.beq i j && Nat.beq o o' && Nat.blt j H'.length) with
      | false => rw [hb] at h'; exact h'.elim
      | true =>
        rw [Bool.and_eq_true, Bool.and_eq_true] at hb
        have h1 := Nat.eq_of_beq_eq_true hb.1.1
        have h2 := Nat.eq_of_beq_eq_true hb.1.2
        have h3 : j < H'.length := by simpa [Nat.blt_eq] using hb.2
        subst h1; subst h2
        exact ⟨h3, hr.2⟩
    | _ => exact h.elim
  | tab j =>
    cases x with
    | tab i =>
      have h' : (bif Nat.beq i j && Nat.blt j H'.length then True else False) := h
      cases hb : (Nat.beq i j && Nat.blt j H'.length) with
      | false => rw [hb] at h'; exact h'.elim
      | true =>
        rw [Bool.and_eq_true] at hb
        have h1 := Nat.eq_of_beq_eq_true hb.1
        have h3 : j < H'.length := by simpa [Nat.blt_eq] using hb.2
        subst h1
        exact ⟨h3, hr.2⟩
    | _ => exact h.elim
  | ro t' xs' =>
    cases x with
    | ro t xs =>
      have h' : if h : t = t' then (h ▸ xs) = xs' else False := h
      split at h'
      · rename_i ht
        subst ht
        subst h'
        exact Ty.Rep.mono hH.keeps (.slice t) hr
      · exact h'.elim
    | raw u =>
      have h' : (bif isNil u then xs' = [] else False) := h
      cases hu : isNil u with
      | false => rw [hu] at h'; exact h'.elim
      | true =>
        rw [hu] at h'
        have hx : xs' = [] := h'
        subst hx
        have e : v = u := hr
        exact ⟨none, 0, by rw [e, isNil_eq hu]; rfl, Nat.le_refl _, fun h => absurd rfl h⟩
    | own i ver =>
      have h' : (match H[i]? with
        | some (.row _ t ver1 xs) => bif Nat.beq ver ver1 && goneE H'[i]? then (if h : t = t' then (h ▸ xs) = xs' else False) else False
        | _ => False) := h
      cases he : H[i]? with
      | none => rw [he] at h'; exact h'.elim
      | some en =>
        rw [he] at h'
        cases en with
        | dead => exact h'.elim
        | blk => exact h'.elim
        | tab => exact h'.elim
        | row e t ver1 xs =>
          simp only at h'
          cases hb : (Nat.beq ver ver1 && goneE H'[i]?) with
          | false => rw [hb] at h'; exact h'.elim
          | true =>
            rw [hb] at h'
            simp only [cond_true] at h'
            rw [Bool.and_eq_true] at hb
            split at h'
            · rename_i ht
              subst ht
              subst h'
              have hx : Reps w H g [.own i ver] [v] := ⟨rfl, fun j c u h1 h2 => by
                cases j with
                | zero => simp at h1 h2; subst h1; subst h2; exact hr
                | succ j => simp at h1⟩
              obtain ⟨y, cs, r, vr, H1, a1, a2, a3, _, _, _, a6, _, a8⟩ := dat_sound (ok := fun _ => True) false (.slice t) hs hx (K := fun y r H1 => y = xs ∧ r = [] ∧ H1 = H.set i .dead) (by
                simp only [Ty.dat, he, hb.1, cond_true, cond_false]
                rw [dif_pos trivial]
                simp) (fun h => by cases h)
              obtain ⟨e1, e2, e3⟩ := a8
              subst e1
              subst e2
              subst e3
              have hcs := a6 rfl
              have hl := Ty.Rep.len _ hcs
              have e4 : cs = [v] := by
                cases cs with
                | nil => simp [Ty.size] at hl
                | cons c cr =>
                  have : cr = [] := by
                    have h3 : (c :: cr).length = 1 := hl
                    exact List.eq_nil_of_length_eq_zero (by simpa using h3)
                  subst this
                  simp at a1
                  rw [a1.1]
              rw [e4] at hcs
              refine Ty.Rep.mono ⟨Nat.le_refl _, fun b _ hst => ⟨⟨hst.1, ?_⟩, rfl⟩⟩ (.slice t) hcs
              rintro ⟨j, f, hj, hbj⟩
              obtain ⟨f0, k1, k2⟩ := hH j f hj
              have hji : j ≠ i := by
                rintro rfl
                rw [hj] at hb
                cases f with
                | dead => exact hbj
                | blk => exact absurd hb.2 (by simp [goneE])
                | row => exact absurd hb.2 (by simp [goneE])
                | tab => exact absurd hb.2 (by simp [goneE])
              exact hst.2 ⟨j, f0, by rw [List.getElem?_set_ne (Ne.symm hji)]; exact k1, Ent.le_blocks k2 hbj⟩
            · exact h'.elim
    | _ => exact h.elim
  | raw u' =>
    cases x with
    | raw u => have h' : u = u' := h; subst h'; exact hr
    | _ => exact h.elim
  | own j ver' =>
    cases x with
    | own i ver =>
      cases hb : Nat.beq i j with
      | false => simp only [SC.le, hb, cond_false] at h
      | true =>
        simp only [SC.le, hb, cond_true] at h
        have hij := Nat.eq_of_beq_eq_true hb
        subst hij
        obtain ⟨h1, hr⟩ := hr
        unfold OwnRep at hr
        cases q1 : H[i]? with
        | none => rw [q1] at hr; exact hr.elim
        | some en =>
          cases q2 : H'[i]? with
          | none => rw [q1, q2] at h; cases en <;> exact h.elim
          | some en' =>
            rw [q1, q2] at h
            cases en with
            | dead => exact h.elim
            | blk => exact h.elim
            | tab => exact h.elim
            | row e t v1 xs =>
              cases en' with
              | dead => exact h.elim
              | blk => exact h.elim
              | tab => exact h.elim
              | row e' t' v2 xs' =>
                simp only at h
                rw [q1] at hr
                cases hb2 : (Nat.beq ver v1 && Nat.beq ver' v2) with
                | false => rw [hb2] at h; exact h.elim
                | true =>
                  rw [Bool.and_eq_true] at hb2
                  have e1 := Nat.eq_of_beq_eq_true hb2.1
                  have e2 := Nat.eq_of_beq_eq_true hb2.2
                  refine ⟨h1, ?_⟩
                  unfold OwnRep
                  rw [q2]
                  exact ⟨by omega, fun _ => hr.2 e1⟩
    | _ => exact h.elim
  | fn f' cs' =>
    cases x with
    | fn f cs =>
      have h' : (bif Nat.beq f f' && natsEq cs cs' && cs.all (fun i => Nat.blt i H'.length) then True else False) := h
      cases hb : (Nat.beq f f' && natsEq cs cs' && cs.all (fun i => Nat.blt i H'.length)) with
      | false => rw [hb] at h'; exact h'.elim
      | true =>
        rw [Bool.and_eq_true, Bool.and_eq_true] at hb
        have hf := Nat.eq_of_beq_eq_true hb.1.1
        have hc : cs = cs' := natsEq_eq hb.1.2
        subst hf; subst hc
        exact ⟨hr.1, fun i hi => by have := List.all_eq_true.1 hb.2 i hi; simpa [Nat.blt_eq] using this⟩
    | _ => exact h.elim
  | roa => cases x <;> exact h.elim
  | owna => cases x <;> exact h.elim
  | pre => cases x <;> exact h.elim

theorem leL_sound (hs : Sat B0 X0 v0 H g w) (hH : LeH fresh H H') : {l m : List SC} → {vs : List Value} → leL H H' l m → Reps w H g l vs → Reps w H' g m vs
  | [], [], vs, _, hr => ⟨hr.1, fun j c v h1 _ => by simp at h1⟩
  | x :: r, y :: s, vs, h, hr => by
    match vs, hr with
    | [], hr => exact absurd hr.1 (by simp)
    | v :: vs, hr =>
      have ih := leL_sound hs hH (vs := vs) h.2 ⟨by simpa using hr.1, fun j c u h1 h2 => hr.2 (j + 1) c u (by simpa using h1) (by simpa using h2)⟩
      refine ⟨by simp [ih.1], fun j c u h1 h2 => ?_⟩
      cases j with
      | zero => simp at h1 h2; subst h1; subst h2; exact SC.le_sound hs hH h.1 (hr.2 0 x v rfl rfl)
      | succ j => exact ih.2 j c u (by simpa using h1) (by simpa using h2)
  | [], _ :: _, _, h, _ => h.elim
  | _ :: _, [], _, h, _ => h.elim

theorem SV.le_sound (hs : Sat B0 X0 v0 H g w) (hH : LeH fresh H H') {x y : SV} {v : Value} (h : SV.le H H' x y) (hr : x.Rep w H g v) : y.Rep w H' g v := by
  unfold SV.le at h
  split at h
  · trivial
  · exact SC.le_sound hs hH h hr
  · obtain ⟨vs, h1, h2, h3⟩ := hr; exact ⟨vs, h1, leL_sound hs hH h h2, h3⟩
  · exact h.elim

theorem Ent.le_OK {B : Nat} {X : Nat → Prop} (hs : Sat B0 X0 v0 H g w) (hH : LeH fresh H H') {i : Nat} {f : Bool} : {e e' : Ent} → Ent.le H H' f e e' → e.OK B X w H g i → e'.OK B X w H' g i
  | _, .dead, _, _ => trivial
  | .blk t cs, .blk t' cs', h, ⟨vs, h1, h2, h3, h4⟩ => by
    simp only [Ent.le] at h
    cases hb : Nat.beq t t' with
    | false => rw [hb] at h; exact h.elim
    | true =>
      rw [hb] at h
      have := Nat.eq_of_beq_eq_true hb
      subst this
      exact ⟨vs, h1, leL_sound hs hH h h2, h3, h4⟩
  | .row e t ver xs, .row e' t' ver' xs', h, ⟨cells, h1, h2, h3, h4⟩ => by
    simp only [Ent.le] at h
    cases hb : (Nat.beq e e' && (f || Nat.beq ver ver')) with
    | false => rw [hb] at h; exact h.elim
    | true =>
      rw [hb] at h
      rw [Bool.and_eq_true] at hb
      have := Nat.eq_of_beq_eq_true hb.1
      subst this
      simp only [cond_true] at h
      split at h
      · rename_i ht
        subst ht
        subst h
        exact ⟨cells, h1, h2.mono (fun _ _ h => Ty.Rep.mono hH.keeps t h) (fun _ _ h => h), h3, h4⟩
      · exact h.elim
  | .tab a t es, .tab a' t' es', h, ⟨ents, c, h1, h2, h3⟩ => by
    simp only [Ent.le] at h
    cases hb : (a == a') with
    | false => rw [hb] at h; exact h.elim
    | true =>
      rw [hb] at h
      simp only [cond_true] at h
      have : a = a' := by simpa using hb
      subst this
      split at h
      · rename_i ht
        subst ht
        subst h
        exact ⟨ents, c, h1, h2.mono hH.keeps, h3⟩
      · exact h.elim
  | .dead, .blk .., h, _ => h.elim
  | .dead, .row .., h, _ => h.elim
  | .dead, .tab .., h, _ => h.elim
  | .blk .., .row .., h, _ => h.elim
  | .blk .., .tab .., h, _ => h.elim
  | .row .., .blk .., h, _ => h.elim
  | .row .., .tab .., h, _ => h.elim
  | .tab .., .blk .., h, _ => h.elim
  | .tab .., .row .., h, _ => h.elim

theorem slotsLe_sound (hs : Sat B0 X0 v0 H g w) (hH : LeH fresh H H') {t : List (Nat × SV)} {get : Nat → Value} (ht : ∀ d, (findT d t).Rep w H g (get d)) : (l : List (Nat × SV)) → slotsLe t H H' l → ∀ d, (findT d l).Rep w H' g (get d)
  | [], _, d => trivial
  | (k, v) :: r, h, d => by
    unfold findT
    cases hk : Nat.beq k d with
    | true =>
      have := Nat.eq_of_beq_eq_true hk
      subst this
      exact SV.le_sound hs hH h.1 (ht k)
    | false => exact slotsLe_sound hs hH ht r h.2 d

theorem St.le_sound {st inv : St} {a : Act} (hn : st.n = inv.n) (h : St.le fresh st inv) (hlen : I.Hi.length ≤ inv.h.length)
    (hver : ∀ i e t ver xs, i < I.Hi.length → fresh i = true → inv.h[i]? = some (.row e t ver xs) → ∀ ver0 xs0, I.Hi[i]? = some (.row e t ver0 xs0) → ver0 < ver)
    (hh : Holds I st a w) : Holds I inv a w := by
  obtain ⟨h1, h2, hn0, g, hs, hev, ht⟩ := hh
  have hH : LeH fresh st.h inv.h := fun i e' hi => by
    obtain ⟨e, q1, q2⟩ := entsLe_sound st.h inv.h 0 h.1 i e' hi
    rw [Nat.zero_add] at q2
    exact ⟨e, q1, q2⟩
  refine ⟨h1, h2.trans hn, hn.symm.trans hn0, g, ⟨hs.os, hs.tape, hs.output, hs.size0, hs.hB, hs.okB, hs.old, fun i e' hi => ?_, fun i j e' f' b hi hj hbi hbj => ?_⟩, ⟨hev.ok, hev.keeps.trans hH.keeps, hlen, fun i hi => hev.ptr i hi, fun i e t ver xs hi hr => ?_⟩, slotsLe_sound hs hH ht inv.t h.2⟩
  · obtain ⟨e, q1, q2⟩ := hH i e' hi
    exact Ent.le_OK hs hH q2 (hs.ents i e q1)
  · obtain ⟨e, q1, q2⟩ := hH i e' hi
    obtain ⟨f, q3, q4⟩ := hH j f' hj
    exact hs.apart i j e f b q1 q3 (Ent.le_blocks q2 hbi) (Ent.le_blocks q4 hbj)
  · obtain ⟨e0, q1, q2⟩ := hH i _ hr
    cases e0 with
    | dead => exact q2.elim
    | blk => exact q2.elim
    | tab => exact q2.elim
    | row e1 t1 ver1 xs1 =>
      simp only [Ent.le] at q2
      cases hb : (Nat.beq e1 e && (fresh i || Nat.beq ver1 ver)) with
      | false => rw [hb] at q2; exact q2.elim
      | true =>
        rw [hb] at q2
        rw [Bool.and_eq_true] at hb
        have e1e := Nat.eq_of_beq_eq_true hb.1
        subst e1e
        simp only [cond_true] at q2
        split at q2
        · rename_i htt
          subst htt
          subst q2
          obtain ⟨ver0, xs0, r1, r2⟩ := hev.row i _ _ _ _ hi q1
          refine ⟨ver0, xs0, r1, ?_⟩
          cases hf : fresh i with
          | true => exact .inl (hver i _ _ _ _ hi hf hr ver0 xs0 r1)
          | false =>
            rw [hf] at hb
            have : ver1 = ver := Nat.eq_of_beq_eq_true (by simpa using hb.2)
            subst this
            exact r2
        · exact q2.elim

theorem setEnts_length (H0 : List Ent) : (l : List (Nat × Ent)) → (H : List Ent) → (setEnts H0 l H).length = H.length
  | [], _ => rfl
  | (i, e) :: r, H => by
    unfold setEnts
    split
    · rw [setEnts_length]; simp
    · exact setEnts_length H0 r H

theorem setEnts_get (H0 : List Ent) : (l : List (Nat × Ent)) → (H : List Ent) → ∀ (i : Nat) (e' : Ent), (setEnts H0 l H)[i]? = some e' → H[i]? = some e' ∨ ∃ old e, H0[i]? = some old ∧ e' = bumpE old e
  | [], H, i, e', h => .inl h
  | (k, e) :: r, H, i, e', h => by
    unfold setEnts at h
    split at h
    · rename_i old hold
      rcases setEnts_get H0 r _ i e' h with h1 | h1
      · rw [List.getElem?_set] at h1
        split at h1
        · rename_i hk
          subst hk
          split at h1
          · cases h1; exact .inr ⟨old, e, hold, rfl⟩
          · cases h1
        · exact .inl h1
      · exact .inr h1
    · exact setEnts_get H0 r H i e' h

theorem setEnts_old (H0 : List Ent) : (l : List (Nat × Ent)) → (H : List Ent) → (i : Nat) → (∀ p ∈ l, p.1 ≠ i) → (setEnts H0 l H)[i]? = H[i]?
  | [], _, _, _ => rfl
  | (k, e) :: r, H, i, h => by
    unfold setEnts
    have hk : k ≠ i := h (k, e) (by simp)
    split
    · rw [setEnts_old H0 r _ i (fun p hp => h p (by simp [hp])), List.getElem?_set_ne hk]
    · exact setEnts_old H0 r H i (fun p hp => h p (by simp [hp]))

theorem setEnts_new (H0 : List Ent) : (l : List (Nat × Ent)) → (H : List Ent) → H.length = H0.length → (i : Nat) → i < H0.length → (∃ p ∈ l, p.1 = i) → ∃ old e, (i, e) ∈ l ∧ H0[i]? = some old ∧ (setEnts H0 l H)[i]? = some (bumpE old e)
  | [], _, _, _, _, h => by obtain ⟨p, hp, _⟩ := h; simp at hp
  | (k, e) :: r, H, hl, i, hi, h => by
    by_cases hr : ∃ p ∈ r, p.1 = i
    · unfold setEnts
      split
      · obtain ⟨o, e', q1, q2⟩ := setEnts_new H0 r (H.set k (bumpE _ e)) (by simp [hl]) i hi hr
        exact ⟨o, e', List.mem_cons_of_mem _ q1, q2⟩
      · obtain ⟨o, e', q1, q2⟩ := setEnts_new H0 r H hl i hi hr
        exact ⟨o, e', List.mem_cons_of_mem _ q1, q2⟩
    · have hki : k = i := by
        obtain ⟨p, hp, hpi⟩ := h
        rcases List.mem_cons.1 hp with h | h
        · rw [h] at hpi; exact hpi
        · exact absurd ⟨p, h, hpi⟩ hr
      subst hki
      have hold : H0[k]? = some H0[k] := List.getElem?_eq_getElem hi
      unfold setEnts
      rw [hold]
      refine ⟨H0[k], e, List.mem_cons_self, rfl, ?_⟩
      simp only
      rw [setEnts_old H0 r _ k (fun p hp hpk => hr ⟨p, hp, hpk⟩), List.getElem?_set_self (by omega)]

/-- At the head of a loop the versions are as they must be. -/
theorem head_ver {an : Ann} {st : St} {a : Act} (hh : Holds I st a w) (x : an.τ) : ∀ i e t ver xs, i < I.Hi.length → an.fresh x i = true → (an.head st x).h[i]? = some (.row e t ver xs) → ∀ ver0 xs0, I.Hi[i]? = some (.row e t ver0 xs0) → ver0 < ver := by
  intro i e t ver xs hi hf hr ver0 xs0 h0
  obtain ⟨_, _, _, g, hs, hev, _⟩ := hh
  have hlen : i < st.h.length := Nat.lt_of_lt_of_le hi hev.len
  unfold Ann.fresh at hf
  rw [Bool.and_eq_true, Bool.not_eq_true', List.any_eq_true, List.any_eq_false] at hf
  have hmem : ∃ p ∈ an.ents x, p.1 = i := by
    obtain ⟨p, hp, hpi⟩ := hf.1
    exact ⟨p, hp, Nat.eq_of_beq_eq_true hpi⟩
  obtain ⟨old, e1, q0, q1, q2⟩ := setEnts_new st.h (an.ents x) st.h rfl i hlen hmem
  have hk0 : keepE e1 = false := by
    have := hf.2 _ q0
    simpa using this
  have hr' : (setEnts st.h (an.ents x) st.h)[i]? = some (.row e t ver xs) := hr
  rw [q2] at hr'
  have hb := Option.some.inj hr'
  cases old with
  | dead => cases e1 <;> simp [bumpE] at hb
  | blk => cases e1 <;> simp [bumpE] at hb
  | tab => cases e1 <;> simp [bumpE] at hb
  | row e2 t2 ver2 xs2 =>
    obtain ⟨v0, x0, r1, r2⟩ := hev.row i _ _ _ _ hi q1
    rw [h0] at r1
    have r1' := Option.some.inj r1
    cases e1 with
    | dead => simp [bumpE] at hb
    | blk => simp [bumpE] at hb
    | tab => simp [bumpE] at hb
    | row e3 t3 ver3 xs3 =>
      simp only [bumpE, Ent.row.injEq] at hb r1'
      have hv0 : ver0 = v0 := r1'.2.2.1
      have hk1 : Nat.beq ver3 0 = true := by simpa [keepE] using hk0
      have hv : ver2 + 1 = ver := by have := hb.2.2.1; rw [hk1] at this; exact this
      rcases r2 with r2 | ⟨r2, _⟩ <;> omega

theorem head_len (an : Ann) (st : St) (x : an.τ) : (an.head st x).h.length = st.h.length := setEnts_length _ _ _

theorem matSlots_sound : (l : List (Nat × TypeId × Ty)) → {st : St} → {a : Act} → Holds I st a w → Holds I (matSlots l st) a w
  | [], st, a, h => h
  | (d, e, t) :: r, st, a, h => by
    unfold matSlots
    split
    · rename_i u heq
      cases hb : (isNil u && Nat.blt d st.n) with
      | false => exact matSlots_sound r h
      | true =>
        refine matSlots_sound r ?_
        rw [Bool.and_eq_true] at hb
        obtain ⟨h1, h2, hn, g, hs, hev, ht⟩ := h
        have hd := ht d
        rw [heq] at hd
        have hv : a.tmps.getD d undef = .slice none 0 0 := by
          have : a.tmps.getD d undef = u := hd
          rw [this, isNil_eq hb.1]
        obtain ⟨g', b1, b2, b3⟩ := new_row hs e t (xs := []) (w1 := w) (World.grownBy.refl w none) (v := .slice none 0 0) (cells := []) (World.ownsRow_nil w 0 e t.size) (fun b hb => by simp [Value.ownBlock] at hb)
          (fun i x hx => by simp at hx) (fun u hu => by simp at hu)
        refine ⟨h1, h2, hn, g', b1, hev.trans b2, fun k => ?_⟩
        unfold findT
        cases hk : Nat.beq d k with
        | true =>
          have := Nat.eq_of_beq_eq_true hk
          subst this
          rw [hv]
          exact own_rep (w := w) (e := e) (T := t) (xs := []) (by simp) b3 rfl
        | false => exact (ht k).evo b2
    · exact matSlots_sound r h

theorem matCells_sound : (l : List (Nat × Nat × TypeId × Ty)) → {st : St} → {a : Act} → Holds I st a w → Holds I (matCells l st) a w
  | [], st, a, h => h
  | (i, o, e, t) :: r, st, a, h => by
    unfold matCells
    split
    · rename_i ty cs heq
      split
      · rename_i u hcell
        cases hb : isNil u with
        | false => exact matCells_sound r h
        | true =>
          refine matCells_sound r ?_
          obtain ⟨h1, h2, hn, g, hs, hev, ht⟩ := h
          obtain ⟨g', b1, b2, b3⟩ := new_row hs e t (xs := []) (w1 := w) (World.grownBy.refl w none) (v := .slice none 0 0) (cells := []) (World.ownsRow_nil w 0 e t.size) (fun b hb => by simp [Value.ownBlock] at hb)
            (fun i x hx => by simp at hx) (fun u hu => by simp at hu)
          have hi : i < st.h.length := (List.getElem?_eq_some_iff.1 heq).1
          have heq' : (st.h ++ [Ent.row e t 0 []])[i]? = some (.blk ty cs) := by rw [List.getElem?_append_left hi]; exact heq
          obtain ⟨c1, c2⟩ := Sat.upd (g1 := g') (w1 := w) b1 i _ (.blk ty (cs.set o (.own st.h.length 0))) heq' rfl (fun _ => rfl) (fun _ _ => rfl) rfl rfl rfl (Nat.le_refl _) (fun _ _ _ => rfl) (fun _ h => .inl h) (fun _ _ _ _ h => by cases h) (fun hev' => by
            obtain ⟨vs, k1, k2, k3, k4⟩ := b1.ents i _ heq'
            refine ⟨vs, k1, ?_, k3, k4⟩
            have hr := k2.evo hev'
            refine ⟨by simp [hr.1], fun j c v q1 q2 => ?_⟩
            rw [List.getElem?_set] at q1
            split at q1
            · rename_i hoj
              subst hoj
              split at q1
              · cases q1
                have hu := k2.2 o _ v hcell q2
                have hvn : v = .slice none 0 0 := by have : v = u := hu; rw [this, isNil_eq hb]
                subst hvn
                refine own_rep (w := w) (e := e) (T := t) (xs := []) ?_ b3 rfl
                rw [List.getElem?_set_ne (by omega)]
                simp
              · cases q1
            · exact hr.2 j c v q1 q2)
          exact ⟨h1, h2, hn, g', c1, (hev.trans b2).trans c2, fun k => ((ht k).evo b2).evo c2⟩
      · exact matCells_sound r h
    · exact matCells_sound r h

theorem matSlots_n : (l : List (Nat × TypeId × Ty)) → (st : St) → (matSlots l st).n = st.n
  | [], _ => rfl
  | (d, e, t) :: r, st => by
    unfold matSlots
    split
    · rename_i u _
      cases isNil u && Nat.blt d st.n <;> exact matSlots_n r _
    · exact matSlots_n r st

theorem matCells_n : (l : List (Nat × Nat × TypeId × Ty)) → (st : St) → (matCells l st).n = st.n
  | [], _ => rfl
  | (i, o, e, t) :: r, st => by
    unfold matCells
    split
    · split
      · rename_i u _
        cases isNil u <;> exact matCells_n r _
      · exact matCells_n r st
    · exact matCells_n r st

/-- The executor keeps the size of the frame. -/
theorem exec_sound (hC : CtxOK P C) : (c : Code) → {n : Nat} → {st : St} → {Q : Ex → St → Prop} → {a : Act} → {w : World} → exec C c n st Q → Holds I st a w → c.wp P (QR I Q) a w
  | .skip, n, st, Q, a, w, h, hh => wp_skip ⟨.normal, st, rfl, h, hh⟩
  | .region _ ops draw, n, st, Q, a, w, h, hh => by
    unfold exec at h
    cases draw with
    | true =>
      exact execDraw_sound hC (by rintro c a w ⟨x, st, e, _⟩; cases x <;> cases e) (fun st a w hq hh => ⟨.normal, st, rfl, hq, hh⟩) h hh
    | false =>
      exact wp_region_list (execOps_sound hC (QR I Q) ops.toList (fun st a w hq hh => ⟨.normal, st, rfl, hq, hh⟩) h hh)
  | .seq x y, n, st, Q, a, w, h, hh => by
    unfold exec at h
    refine wp_seq (wp_mono (exec_sound hC x h hh) ?_)
    rintro e a' w' ⟨ex, st', rfl, hq, hh'⟩
    cases ex with
    | normal => exact exec_sound hC y hq hh'
    | exit id => exact ⟨.exit id, st', rfl, hq, hh'⟩
    | ret => exact ⟨.ret, st', rfl, hq, hh'⟩
  | .cond c x y, n, st, Q, a, w, h, hh => by
    unfold exec at h
    obtain ⟨b, hv, hA, hB⟩ := condS_sound hh (fun g _ ht => ev_rep ht c) h
    refine wp_cond hv ?_
    cases b with
    | true => obtain ⟨st', k1, k2, _⟩ := hA rfl; exact exec_sound hC x k1 k2
    | false => obtain ⟨st', k1, k2, _⟩ := hB rfl; exact exec_sound hC y k1 k2
  | .block id c, n, st, Q, a, w, h, hh => by
    unfold exec at h
    refine wp_block (wp_mono (exec_sound hC c h hh) ?_)
    rintro e a' w' ⟨ex, st', rfl, hq, hh'⟩
    cases ex with
    | normal => exact ⟨.normal, st', rfl, hq, hh'⟩
    | exit j =>
      show if j = id then QR I Q .normal a' w' else QR I Q (.exit j) a' w'
      cases hj : Nat.beq j id with
      | true =>
        rw [if_pos (Nat.eq_of_beq_eq_true hj)]
        simp only [hj, cond_true] at hq
        exact ⟨.normal, st', rfl, hq, hh'⟩
      | false =>
        rw [if_neg (Nat.ne_of_beq_eq_false hj)]
        simp only [hj, cond_false] at hq
        exact ⟨.exit j, st', rfl, hq, hh'⟩
    | ret => exact ⟨.ret, st', rfl, hq, hh'⟩
  | .loop c, n, st, Q, a, w, h, hh => by
    unfold exec at h
    cases han : C.ann n with
    | none => rw [han] at h; exact h.elim
    | some f =>
      rw [han] at h
      simp only at h
      generalize f st = an at h
      obtain ⟨⟨x0, hx0, hle⟩, hround⟩ := h
      generalize hst : matCells an.preC (matSlots an.pre st) = st1 at hle hround
      have hh1 : Holds I st1 a w := by rw [← hst]; exact matCells_sound _ (matSlots_sound _ hh)
      have hlen : ∀ x, I.Hi.length ≤ (an.head st1 x).h.length := fun x => by
        rw [head_len]; obtain ⟨_, _, _, g, _, hev, _⟩ := hh1; exact hev.len
      have hver := fun x => head_ver (an := an) hh1 x
      refine wp_loop_ghost (fun k a w => ∃ x, an.ok x ∧ an.m x = k ∧ Holds I (an.head st1 x) a w) (an.m x0) ⟨x0, hx0, rfl, St.le_sound (st := st1) rfl hle (hlen x0) (hver x0) hh1⟩ ?_
      rintro k a' w' ⟨x, hx, rfl, hhx⟩
      refine wp_mono (exec_sound hC c (hround x hx) hhx) ?_
      rintro e a2 w2 ⟨ex, st2, rfl, hq, hh2⟩
      cases ex with
      | normal =>
        obtain ⟨x', hx', hlt, hle'⟩ := hq
        exact ⟨an.m x', hlt, x', hx', rfl, St.le_sound (hh2.n.trans hh1.n.symm) hle' (hlen x') (hver x') hh2⟩
      | exit id => exact ⟨.exit id, st2, rfl, hq, hh2⟩
      | ret => exact ⟨.ret, st2, rfl, hq, hh2⟩
  | .exit id, n, st, Q, a, w, h, hh => wp_exit ⟨.exit id, st, rfl, h, hh⟩
  | .ret, n, st, Q, a, w, h, hh => wp_ret ⟨.ret, st, rfl, h, hh⟩
  | .label l, n, st, Q, a, w, h, hh => wp_label ⟨.normal, st, rfl, h, hh⟩
  | .goto _, _, _, _, _, _, h, _ => h.elim
  | .rangeFunc .., _, _, _, _, _, h, _ => h.elim
  | .scope _, _, _, _, _, _, h, _ => h.elim
  | .refuse _, _, _, _, _, _, h, _ => h.elim

end
end Go.SX

/- SX, part M: functions: their bodies, and contracts over plain data. -/
namespace Go.SX
open Go Go.RowKit

/-! ### Results -/

def resS (C : Ctx) (st : St) : List ResultVar → (List SV → Prop) → Prop
  | [], K => K []
  | .tmp t :: r, K => resS C st r fun l => K (findT t st.t :: l)
  | .cell p ty :: r, K => match tyFind ty C.tys with
    | some ti => loadS ti.size ti.desc.isAgg (findT p st.t) st.h fun v => resS C st r fun l => K (v :: l)
    | none => False

def compOf : SV → Option (Bool × List SC)
  | .c x => bif x.one then some (false, [x]) else none
  | .agg l => some (true, l)
  | .tup _ => none

def compsOf : List SV → Option (List (Bool × List SC))
  | [] => some []
  | v :: r => match compOf v, compsOf r with
    | some c, some l => some (c :: l)
    | _, _ => none

def retS (C : Ctx) (rs : List ResultVar) (st : St) (K : SV → List Ent → Prop) : Prop :=
  resS C st rs fun l => match l with
    | [v] => K v st.h
    | l => match compsOf l with
      | some cs => K (.tup cs) st.h
      | none => False

def initT : Nat → List SV → List (Nat × SV)
  | _, [] => []
  | i, v :: r => (i, v) :: initT (i + 1) r

def runBody (C : Ctx) (fn : Func) (args : List SV) (H : List Ent) (K : SV → List Ent → Prop) : Prop :=
  match fn.body with
  | some c => bif Nat.ble args.length fn.ntmps then exec C c 0 ⟨fn.ntmps, initT 0 args, H⟩ fun
      | .exit _, _ => False
      | _, st => retS C fn.results.toList st K
    else False
  | none => False

section
variable {P : Program} {I : Ini} {C : Ctx}

theorem findT_init : (args : List SV) → (k d : Nat) → findT d (initT k args) = if k ≤ d then (args[d - k]?).getD (.c .any) else .c .any
  | [], k, d => by simp [initT, findT]
  | v :: r, k, d => by
    unfold initT findT
    cases h : Nat.beq k d with
    | true =>
      have := Nat.eq_of_beq_eq_true h
      subst this
      simp
    | false =>
      have hne := Nat.ne_of_beq_eq_false h
      simp only [cond_false]
      rw [findT_init r (k + 1) d]
      by_cases hk : k ≤ d
      · rw [if_pos (by omega), if_pos hk, show d - k = (d - (k + 1)) + 1 by omega]
        simp
      · rw [if_neg (by omega), if_neg hk]

theorem res_sound (hC : CtxOK P C) {B : Nat} {X : Nat → Prop} {w0 w : World} {g : Gh} {st : St} {tmps : Array Value} (hs : Sat B X w0 st.h g w) (ht : ∀ d, (findT d st.t).Rep w st.h g (tmps.getD d undef)) :
    (rs : List ResultVar) → {K : List SV → Prop} → resS C st rs K → ∃ (vs : List Value) (l : List SV), (rs.mapM (m := Sem) fun
      | .tmp t => pure (tmps.getD t undef)
      | .cell a t => do loadVar t (← asAddr (tmps.getD a undef))).run P w = .ok vs w ∧ ArgsRep w st.h g l vs ∧ K l
  | [], K, h => ⟨[], [], rfl, ⟨rfl, fun j x v h1 _ => by simp at h1⟩, h⟩
  | .tmp t :: r, K, h => by
    obtain ⟨vs, l, h1, h2, h3⟩ := res_sound hC hs ht r h
    refine ⟨tmps.getD t undef :: vs, findT t st.t :: l, ?_, ⟨by simp [h2.1], fun j x v q1 q2 => ?_⟩, h3⟩
    · simp only [List.mapM_cons, Sem.run_bind, Sem.run_pure, Result.andThen_ok, h1]
    · cases j with
      | zero => simp only [List.getElem?_cons_zero, Option.some.injEq] at q1 q2; subst q1; subst q2; exact ht t
      | succ j => exact h2.2 j x v (by simpa using q1) (by simpa using q2)
  | .cell p ty :: r, K, h => by
    unfold resS at h
    cases hty : tyFind ty C.tys with
    | none => rw [hty] at h; exact h.elim
    | some ti =>
      rw [hty] at h
      obtain ⟨v, sv, r1, r2, h⟩ := load_sound (P := P) hs (hC.tys _ _ hty) (ht p) h
      replace r1 := r1 w (Later.refl w)
      obtain ⟨vs, l, h1, h2, h3⟩ := res_sound hC hs ht r h
      have hload : ((do loadVar ty (← asAddr (tmps.getD p undef)) : Sem Value)).run P w = .ok v w := by
        unfold Instr.loadAt at r1
        cases hv : tmps.getD p undef <;> rw [hv] at r1 <;> try (simp [Instr.sureAddr, stuck, Sem.run] at r1; done)
        rename_i a
        cases a with
        | none => simp [Instr.sureAddr, stuck, Sem.run] at r1
        | some a => simpa [Instr.sureAddr, asAddr] using r1
      refine ⟨v :: vs, sv :: l, ?_, ⟨by simp [h2.1], fun j x u q1 q2 => ?_⟩, h3⟩
      · simp only [List.mapM_cons, Sem.run_bind, Sem.run_pure]
        have hl2 := hload
        simp only [Sem.run_bind] at hl2
        rw [hl2]
        simp only [Result.andThen_ok]
        rw [h1]
        rfl
      · cases j with
        | zero => simp only [List.getElem?_cons_zero, Option.some.injEq] at q1 q2; subst q1; subst q2; exact r2
        | succ j => exact h2.2 j x u (by simpa using q1) (by simpa using q2)

theorem comps_sound {w : World} {H : List Ent} {g : Gh} : (l : List SV) → {vs : List Value} → {cs : List (Bool × List SC)} → compsOf l = some cs → ArgsRep w H g l vs →
    vs.length = cs.length ∧ ∀ (j : Nat) (p : Bool × List SC) (u : Value), cs[j]? = some p → vs[j]? = some u → CompRep w H g p u
  | [], vs, cs, h, hr => by
    simp [compsOf] at h; subst h
    exact ⟨hr.1, fun j p u h _ => by simp at h⟩
  | x :: r, vs, cs, h, hr => by
    match vs, hr with
    | [], hr => exact absurd hr.1 (by simp)
    | v :: vs, hr =>
      unfold compsOf at h
      cases hc : compOf x with
      | none => rw [hc] at h; simp at h
      | some c =>
        cases hq : compsOf r with
        | none => rw [hc, hq] at h; simp at h
        | some l =>
          rw [hc, hq] at h
          simp at h
          subst h
          have hrest : ArgsRep w H g r vs := ⟨by simpa using hr.1, fun j y u h1 h2 => hr.2 (j + 1) y u (by simpa using h1) (by simpa using h2)⟩
          obtain ⟨k1, k2⟩ := comps_sound r hq hrest
          have hx := hr.2 0 x v rfl rfl
          refine ⟨by simp [k1], fun j p u h1 h2 => ?_⟩
          cases j with
          | zero =>
            simp only [List.getElem?_cons_zero, Option.some.injEq] at h1 h2
            subst h1; subst h2
            match x, hc, hx with
            | .c y, hc, hx =>
              simp only [compOf] at hc
              cases ho : y.one with
              | false => rw [ho] at hc; simp at hc
              | true =>
                rw [ho] at hc
                simp at hc
                subst hc
                obtain ⟨q1, q2⟩ := SV.cells_rep (x := .c y) (l := [y]) (by simp [SV.cells, ho]) hx
                rw [cells_one (SC.rep_one ho hx)] at q1 q2
                exact ⟨[v], q1, q2, by simp⟩
            | .agg m, hc, hx =>
              simp only [compOf, Option.some.injEq] at hc
              subst hc
              obtain ⟨us, e, q1, q2⟩ := hx
              exact ⟨us, q1, q2, by simpa using e⟩
          | succ j => exact k2 j p u (by simpa using h1) (by simpa using h2)

/-- A function's body, by the executor. -/
theorem body_calls (hC : CtxOK P C) {f : FuncId} {fn : Func} (hf : P.funcs[f]? = some fn) {B : Nat} {X : Nat → Prop} {w0 w : World} {H : List Ent} {g : Gh} {args : List SV} {vals : List Value} {K : SV → List Ent → Prop}
    (h : runBody C fn args H K) (hs : Sat B X w0 H g w) (ha : ArgsRep w H g args vals) : Calls P f vals.toArray w fun e w' => ∃ v, e = .returned v ∧ Post B X w0 K w H g v w' := by
  unfold runBody at h
  cases hb : fn.body with
  | none => rw [hb] at h; exact h.elim
  | some c =>
    rw [hb] at h
    simp only at h
    cases hn : Nat.ble args.length fn.ntmps with
    | false => rw [hn] at h; exact h.elim
    | true =>
      rw [hn] at h
      have hle := Nat.le_of_ble_eq_true hn
      simp only [cond_true] at h
      have hvl : vals.length ≤ fn.ntmps := by rw [ha.1]; exact hle
      refine calls_of_wp hf hb (wp_mono (exec_sound (I := ⟨fn.ntmps, B, X, w0, w, H, g⟩) hC c h ?_) ?_)
      · refine ⟨rfl, ?_, rfl, g, hs, Evo.refl _ _ _, fun d => ?_⟩
        · simp; omega
        · rw [findT_init args 0 d, if_pos (Nat.zero_le _), Nat.sub_zero]
          rcases Nat.lt_or_ge d args.length with hd | hd
          · rw [List.getElem?_eq_getElem hd]
            have hd' : d < vals.length := by rw [ha.1]; exact hd
            have : (vals.toArray ++ Array.replicate (fn.ntmps - vals.toArray.size) undef).getD d undef = vals[d] := by
              rw [Array.getD_eq_getD_getElem?, Array.getElem?_append_left (by simpa using hd')]
              simp [hd']
            rw [this]
            exact ha.2 d _ _ (List.getElem?_eq_getElem hd) (List.getElem?_eq_getElem hd')
          · rw [List.getElem?_eq_none hd]
            trivial
      · rintro e a w' ⟨ex, st, rfl, hq, hh⟩
        obtain ⟨h1, h2, _, g', hs', hev', ht'⟩ := hh
        have key : retS C fn.results.toList st K → ∃ v, (results fn a.tmps).run P w' = .ok v w' ∧ Post B X w0 K w H g v w' := by
          intro hr
          obtain ⟨vs, l, r1, r2, r3⟩ := res_sound (P := P) hC hs' ht' fn.results.toList hr
          have hres : (results fn a.tmps).run P w' = .ok (if h : vs.length = 1 then vs[0] else .tuple vs.toArray) w' := by
            simp only [Array.getD_eq_getD_getElem?] at r1
            simp [results, Array.mapM_eq_mapM_toList]
            exact congrArg (fun r => Result.andThen r fun (a : List Value) w' => Result.ok (if h : a.length = 1 then a[0] else Value.tuple a.toArray) w') r1
          unfold retS at hr
          refine ⟨_, hres, ?_⟩
          match l, vs, r2, r3 with
          | [sv], [v], r2, r3 => exact ⟨sv, st.h, g', r3, hs', hev', r2.2 0 sv v rfl rfl⟩
          | [], [], r2, r3 => exact ⟨.tup [], st.h, g', r3, hs', hev', [], rfl, rfl, fun j p u h _ => by simp at h⟩
          | x :: y :: r, v :: u :: us, r2, r3 =>
            simp only at r3
            cases hc : compsOf (x :: y :: r) with
            | none => rw [hc] at r3; exact r3.elim
            | some cs =>
              rw [hc] at r3
              obtain ⟨k1, k2⟩ := comps_sound _ hc r2
              exact ⟨.tup cs, st.h, g', r3, hs', hev', v :: u :: us, by simp, k1, k2⟩
          | [_], [], r2, _ => exact absurd r2.1 (by simp)
          | [_], _ :: _ :: _, r2, _ => exact absurd r2.1 (by simp)
          | [], _ :: _, r2, _ => exact absurd r2.1 (by simp)
          | _ :: _ :: _, [], r2, _ => exact absurd r2.1 (by simp)
          | _ :: _ :: _, [_], r2, _ => exact absurd r2.1 (by simp)
        cases ex with
        | normal => obtain ⟨v, q1, q2⟩ := key hq; exact ⟨h1, v, q1, v, rfl, q2⟩
        | exit id => exact hq.elim
        | ret => obtain ⟨v, q1, q2⟩ := key hq; exact ⟨h1, v, q1, v, rfl, q2⟩

end
end Go.SX

/- SX, part N: contracts over plain data. -/
namespace Go.SX
open Go Go.RowKit

/-- A parameter's or result's kind; is it an aggregate? -/
abbrev ATy := Bool × Ty

@[reducible] def ADen : List ATy → Type
  | [] => Unit
  | [a] => a.2.den
  | a :: b :: r => a.2.den × ADen (b :: r)

def VRep (w : World) (ok : Nat → Prop) (a : ATy) (x : a.2.den) (v : Value) : Prop :=
  if a.1 = true then ∃ cs : List Value, v = .agg cs.toArray ∧ a.2.Rep w ok x cs else a.2.Rep w ok x [v]

def ArgsR (w : World) (ok : Nat → Prop) : (as : List ATy) → ADen as → List Value → Prop
  | [], _, vs => vs = []
  | [a], x, vs => ∃ v, vs = [v] ∧ VRep w ok a x v
  | a :: b :: r, p, vs => ∃ v vr, vs = v :: vr ∧ VRep w ok a p.1 v ∧ ArgsR w ok (b :: r) p.2 vr

def ResR (w : World) (ok : Nat → Prop) : (rs : List ATy) → ADen rs → Value → Prop
  | [a], x, v => VRep w ok a x v
  | rs, x, v => ∃ vs : List Value, v = .tuple vs.toArray ∧ ArgsR w ok rs x vs

/-- A function over plain data: called where 'Pre' holds it returns 'F', and changes nothing that was there. -/
def PureOK (P : Program) (f : FuncId) (as rs : List ATy) (Pre : ADen as → Prop) (F : ADen as → ADen rs) : Prop :=
  (∃ fn, P.funcs[f]? = some fn ∧ (fn.name == "runtime.NumGoroutine") = false ∧ fn.body.isNone = false) ∧
  ∀ (ok : Nat → Prop) (x : ADen as) (vals : List Value) (w : World), Pre x → ArgsR w ok as x vals →
    Calls P f vals.toArray w fun e w' => ∃ v, e = .returned v ∧ ResR w' (fun b => ok b ∨ w.heap.size ≤ b) rs (F x) v ∧ Below w.heap.size w w'

def Ty.flat : Ty → Bool
  | .pair a b => a.flat && b.flat
  | .slice _ => false
  | _ => true

def argDat (lend : Bool) (a : ATy) (v : SV) (H : List Ent) (K : a.2.den → List Ent → Prop) : Prop :=
  match v with
  | .c x => bif a.1 then False else bif x.one then a.2.dat lend [x] H (fun y r H => match r with | [] => K y H | _ => False) else False
  | .agg l => bif a.1 then a.2.dat lend l H (fun y r H => match r with | [] => K y H | _ => False) else False
  | _ => False

def argsDat (lend : Bool) : (as : List ATy) → List SV → List Ent → (ADen as → List Ent → Prop) → Prop
  | [], l, H, K => match l with
    | [] => K () H
    | _ => False
  | [a], l, H, K => match l with
    | [v] => argDat lend a v H K
    | _ => False
  | a :: b :: r, l, H, K => match l with
    | v :: vs => argDat lend a v H fun x H => argsDat lend (b :: r) vs H fun y H => K (x, y) H
    | _ => False

def aSV (a : ATy) (x : a.2.den) : SV := mkV a.1 (a.2.scs x)

def argSVs : (as : List ATy) → ADen as → List SV
  | [], _ => []
  | [a], x => [aSV a x]
  | a :: b :: r, p => aSV a p.1 :: argSVs (b :: r) p.2

def resComps : (rs : List ATy) → ADen rs → List (Bool × List SC)
  | [], _ => []
  | [a], x => [(a.1, a.2.scs x)]
  | a :: b :: r, p => (a.1, a.2.scs p.1) :: resComps (b :: r) p.2

def resSV : (rs : List ATy) → ADen rs → SV
  | [a], x => aSV a x
  | rs, x => .tup (resComps rs x)

def pureSpec (as rs : List ATy) (Pre : ADen as → Prop) (F : ADen as → ADen rs) : Spec := fun args H K =>
  argsDat (rs.all fun r => r.2.flat) as args H fun x H => Pre x ∧ K (resSV rs (F x)) H

def compsDat : (rs : List ATy) → List (Bool × List SC) → List Ent → (ADen rs → Prop) → Prop
  | [], l, _, K => match l with
    | [] => K ()
    | _ => False
  | [a], l, H, K => match l with
    | [(g, cs)] => bif g == a.1 then a.2.dat false cs H (fun y r _ => match r with | [] => K y | _ => False) else False
    | _ => False
  | a :: b :: r, l, H, K => match l with
    | (g, cs) :: l => bif g == a.1 then a.2.dat false cs H (fun x q H => match q with | [] => compsDat (b :: r) l H fun y => K (x, y) | _ => False) else False
    | _ => False

def resDat : (rs : List ATy) → SV → List Ent → (ADen rs → Prop) → Prop
  | [a], v, H, K => argDat false a v H fun y _ => K y
  | rs, .tup l, H, K => compsDat rs l H K
  | _, _, _, _ => False

/-- What is to be shown of a function's body. -/
def PureVC (C : Ctx) (fn : Func) (as rs : List ATy) (F : ADen as → ADen rs) (x : ADen as) : Prop :=
  runBody C fn (argSVs as x) [] fun sv H => resDat rs sv H fun y => y = F x

section
variable {P : Program} {C : Ctx} {B : Nat} {X : Nat → Prop} {w0 w : World} {H : List Ent} {g : Gh}

theorem Ty.flat_rep {w' : World} {ok ok' : Nat → Prop} : (t : Ty) → t.flat = true → {x : t.den} → {cs : List Value} → t.Rep w ok x cs → t.Rep w' ok' x cs
  | .int _, _, _, _, h | .bool, _, _, _, h | .str, _, _, _, h => h
  | .pair a b, hf, _, _, ⟨c1, c2, e, h1, h2⟩ => by
    unfold Ty.flat at hf
    rw [Bool.and_eq_true] at hf
    exact ⟨c1, c2, e, Ty.flat_rep a hf.1 h1, Ty.flat_rep b hf.2 h2⟩
  | .slice _, hf, _, _, _ => by cases hf

theorem VRep.mono {w' : World} {ok ok' : Nat → Prop} {a : ATy} {x : a.2.den} {v : Value} (h : VRep w ok a x v) (hk : ∀ cs, a.2.Rep w ok x cs → a.2.Rep w' ok' x cs) : VRep w' ok' a x v := by
  unfold VRep at h ⊢
  split
  · rename_i h1; rw [if_pos h1] at h; obtain ⟨cs, e, h⟩ := h; exact ⟨cs, e, hk _ h⟩
  · rename_i h1; rw [if_neg h1] at h; exact hk _ h

theorem ArgsR.mono {w' : World} {ok ok' : Nat → Prop} (hk : Keeps w ok w' ok') : (as : List ATy) → {x : ADen as} → {vs : List Value} → ArgsR w ok as x vs → ArgsR w' ok' as x vs
  | [], _, _, h => h
  | [a], _, _, ⟨v, e, h⟩ => ⟨v, e, h.mono fun _ h => Ty.Rep.mono hk a.2 h⟩
  | a :: b :: r, _, _, ⟨v, vr, e, h1, h2⟩ => ⟨v, vr, e, h1.mono fun _ h => Ty.Rep.mono hk a.2 h, ArgsR.mono hk (b :: r) h2⟩

theorem aSV_rep {a : ATy} {x : a.2.den} {v : Value} (h : VRep w (Stable H g) a x v) : (aSV a x).Rep w H g v := by
  unfold VRep at h
  cases ha : a.1 with
  | true =>
    rw [ha] at h
    simp only [if_true] at h
    obtain ⟨cs, e, h⟩ := h
    unfold aSV
    rw [ha]
    exact mkV_rep (Ty.scs_rep a.2 h) (Ty.Rep.one a.2 h) (by simpa using e)
  | false =>
    rw [ha] at h
    simp only [Bool.false_eq_true, if_false] at h
    unfold aSV
    rw [ha]
    exact mkV_rep (Ty.scs_rep a.2 h) (Ty.Rep.one a.2 h) (by simp)

theorem argSVs_rep : (as : List ATy) → {x : ADen as} → {vs : List Value} → ArgsR w (Stable H g) as x vs → ArgsRep w H g (argSVs as x) vs
  | [], _, vs, h => by
    have e : vs = [] := h
    subst e
    exact ⟨rfl, fun j x v h1 _ => by simp [argSVs] at h1⟩
  | [a], x, vs, ⟨v, e, h⟩ => by
    subst e
    refine ⟨rfl, fun j y u h1 h2 => ?_⟩
    cases j with
    | zero => simp [argSVs] at h1 h2; subst h1; subst h2; exact aSV_rep h
    | succ j => simp [argSVs] at h1
  | a :: b :: r, p, vs, ⟨v, vr, e, h1, h2⟩ => by
    subst e
    have ih := argSVs_rep (b :: r) h2
    refine ⟨by simp [argSVs, ih.1], fun j y u q1 q2 => ?_⟩
    cases j with
    | zero => simp [argSVs] at q1 q2; subst q1; subst q2; exact aSV_rep h1
    | succ j => exact ih.2 j y u (by simpa [argSVs] using q1) (by simpa using q2)

theorem resComps_rep : (rs : List ATy) → {x : ADen rs} → {vs : List Value} → ArgsR w (Stable H g) rs x vs →
    vs.length = (resComps rs x).length ∧ ∀ (j : Nat) (p : Bool × List SC) (u : Value), (resComps rs x)[j]? = some p → vs[j]? = some u → CompRep w H g p u
  | [], _, vs, h => by
    have e : vs = [] := h
    subst e
    exact ⟨rfl, fun j x v h1 _ => by simp [resComps] at h1⟩
  | [a], x, vs, ⟨v, e, h⟩ => by
    subst e
    refine ⟨rfl, fun j y u h1 h2 => ?_⟩
    cases j with
    | zero => simp [resComps] at h1 h2; subst h1; subst h2; exact comp h
    | succ j => simp [resComps] at h1
  | a :: b :: r, p, vs, ⟨v, vr, e, h1, h2⟩ => by
    subst e
    have ih := resComps_rep (b :: r) h2
    refine ⟨by simp [resComps, ih.1], fun j y u q1 q2 => ?_⟩
    cases j with
    | zero => simp [resComps] at q1 q2; subst q1; subst q2; exact comp h1
    | succ j => exact ih.2 j y u (by simpa [resComps] using q1) (by simpa using q2)
where
  comp {a : ATy} {x : a.2.den} {v : Value} (h : VRep w (Stable H g) a x v) : CompRep w H g (a.1, a.2.scs x) v := by
    unfold VRep at h
    cases ha : a.1 with
    | true =>
      rw [ha] at h
      simp only [if_true] at h
      obtain ⟨cs, e, h⟩ := h
      exact ⟨cs, Ty.scs_rep a.2 h, Ty.Rep.one a.2 h, by simpa using e⟩
    | false =>
      rw [ha] at h
      simp only [Bool.false_eq_true, if_false] at h
      exact ⟨[v], Ty.scs_rep a.2 h, Ty.Rep.one a.2 h, by simp⟩

theorem resSV_rep : (rs : List ATy) → {x : ADen rs} → {v : Value} → ResR w (Stable H g) rs x v → (resSV rs x).Rep w H g v
  | [_a], _, _, h => aSV_rep h
  | [], _, _, ⟨vs, e, h⟩ => ⟨vs, e, resComps_rep [] h⟩
  | a :: b :: r, _, _, ⟨vs, e, h⟩ => ⟨vs, e, resComps_rep (a :: b :: r) h⟩

theorem arg_sound (lend : Bool) {a : ATy} {v : SV} {u : Value} (hs : Sat B X w0 H g w) (hr : v.Rep w H g u) {K : a.2.den → List Ent → Prop} (h : argDat lend a v H K) :
    ∃ x H', Sat B X w0 H' g w ∧ Evo w H g w H' g ∧ (lend = true → H' = H) ∧ (lend = true → VRep w (fun _ => True) a x u) ∧ (lend = false → VRep w (Stable H' g) a x u) ∧ K x H' := by
  unfold argDat at h
  split at h
  · rename_i x
    cases ha : a.1 with
    | true => rw [ha] at h; exact h.elim
    | false =>
      rw [ha] at h
      simp only [cond_false] at h
      cases ho : x.one with
      | false => rw [ho] at h; exact h.elim
      | true =>
        rw [ho] at h
        simp only [cond_true] at h
        have hx : Reps w H g [x] [u] := ⟨rfl, fun j c v h1 h2 => by
          cases j with
          | zero => simp at h1 h2; subst h1; subst h2; exact hr
          | succ j => simp at h1⟩
        obtain ⟨y, cs, r, vr, H', a1, a2, a3, _, a4, a5, a6, a7, a8⟩ := dat_sound (ok := fun _ => True) lend a.2 hs hx h (fun _ _ => trivial)
        match r, a7, a8 with
        | [], a7, a8 =>
          have hvr : vr = [] := List.eq_nil_of_length_eq_zero a7.1
          subst hvr
          rw [List.append_nil] at a1
          subst a1
          refine ⟨y, H', a2, a3, a4, fun hl => ?_, fun hl => ?_, a8⟩
          · unfold VRep; rw [ha]; simpa using a5 hl
          · unfold VRep; rw [ha]; simpa using a6 hl
  · rename_i l
    cases ha : a.1 with
    | false => rw [ha] at h; exact h.elim
    | true =>
      rw [ha] at h
      simp only [cond_true] at h
      obtain ⟨vs, e, h1, h2⟩ := hr
      obtain ⟨y, cs, r, vr, H', a1, a2, a3, _, a4, a5, a6, a7, a8⟩ := dat_sound (ok := fun _ => True) lend a.2 hs h1 h (fun _ _ => trivial)
      match r, a7, a8 with
      | [], a7, a8 =>
        have hvr : vr = [] := List.eq_nil_of_length_eq_zero a7.1
        subst hvr
        rw [List.append_nil] at a1
        subst a1
        refine ⟨y, H', a2, a3, a4, fun hl => ?_, fun hl => ?_, a8⟩
        · unfold VRep; rw [ha]; simp only [if_true]; exact ⟨vs, e, a5 hl⟩
        · unfold VRep; rw [ha]; simp only [if_true]; exact ⟨vs, e, a6 hl⟩
  · exact h.elim

theorem args_sound (lend : Bool) : (as : List ATy) → {l : List SV} → {H : List Ent} → {vs : List Value} → Sat B X w0 H g w → ArgsRep w H g l vs → {K : ADen as → List Ent → Prop} → argsDat lend as l H K →
    ∃ x H', Sat B X w0 H' g w ∧ Evo w H g w H' g ∧ (lend = true → H' = H) ∧ (lend = true → ArgsR w (fun _ => True) as x vs) ∧ (lend = false → ArgsR w (Stable H' g) as x vs) ∧ K x H'
  | [], l, H, vs, hs, hr, K, h => by
    match l, hr, h with
    | [], hr, h =>
      have : vs = [] := List.eq_nil_of_length_eq_zero hr.1
      exact ⟨(), H, hs, Evo.refl _ _ _, fun _ => rfl, fun _ => this, fun _ => this, h⟩
  | [a], l, H, vs, hs, hr, K, h => by
    match l, vs, hr, h with
    | [v], [u], hr, h =>
      obtain ⟨x, H', a1, a2, a3, a4, a5, a6⟩ := arg_sound lend hs (hr.2 0 v u rfl rfl) h
      exact ⟨x, H', a1, a2, a3, fun hl => ⟨u, rfl, a4 hl⟩, fun hl => ⟨u, rfl, a5 hl⟩, a6⟩
    | [v], [], hr, _ => exact absurd hr.1 (by simp)
    | [v], _ :: _ :: _, hr, _ => exact absurd hr.1 (by simp)
  | a :: b :: r, l, H, vs, hs, hr, K, h => by
    match l, vs, hr, h with
    | v :: l, u :: vs, hr, h =>
      simp only [argsDat] at h
      obtain ⟨x, H1, a1, a2, a3, a4, a5, a6⟩ := arg_sound lend hs (hr.2 0 v u rfl rfl) h
      have hrest : ArgsRep w H1 g l vs := ⟨by simpa using hr.1, fun j y u h1 h2 => (hr.2 (j + 1) y u (by simpa using h1) (by simpa using h2)).evo a2⟩
      obtain ⟨y, H2, b1, b2, b3, b4, b5, b6⟩ := args_sound lend (b :: r) a1 hrest a6
      exact ⟨(x, y), H2, b1, a2.trans b2, fun hl => (b3 hl).trans (a3 hl), fun hl => ⟨u, vs, rfl, a4 hl, b4 hl⟩, fun hl => ⟨u, vs, rfl, (a5 hl).mono fun _ h => Ty.Rep.mono b2.keeps a.2 h, b5 hl⟩, b6⟩
    | _ :: _, [], hr, _ => exact absurd hr.1 (by simp)

theorem ResR.mono {w' : World} {ok ok' : Nat → Prop} (hk : Keeps w ok w' ok') : (rs : List ATy) → {x : ADen rs} → {v : Value} → ResR w ok rs x v → ResR w' ok' rs x v
  | [a], _, _, h => VRep.mono h fun _ h => Ty.Rep.mono hk a.2 h
  | [], _, _, ⟨vs, e, h⟩ => ⟨vs, e, ArgsR.mono hk [] h⟩
  | a :: b :: r, _, _, ⟨vs, e, h⟩ => ⟨vs, e, ArgsR.mono hk (a :: b :: r) h⟩

theorem ArgsR.flat {w' : World} {ok ok' : Nat → Prop} : (as : List ATy) → (as.all fun r => r.2.flat) = true → {x : ADen as} → {vs : List Value} → ArgsR w ok as x vs → ArgsR w' ok' as x vs
  | [], _, _, _, h => h
  | [a], hf, _, _, ⟨v, e, h⟩ => ⟨v, e, h.mono fun _ h => Ty.flat_rep a.2 (by simpa using hf) h⟩
  | a :: b :: r, hf, _, _, ⟨v, vr, e, h1, h2⟩ => by
    rw [List.all_cons, Bool.and_eq_true] at hf
    exact ⟨v, vr, e, h1.mono fun _ h => Ty.flat_rep a.2 hf.1 h, ArgsR.flat (b :: r) hf.2 h2⟩

theorem ResR.flat {w' : World} {ok ok' : Nat → Prop} : (rs : List ATy) → (rs.all fun r => r.2.flat) = true → {x : ADen rs} → {v : Value} → ResR w ok rs x v → ResR w' ok' rs x v
  | [a], hf, _, _, h => VRep.mono h fun _ h => Ty.flat_rep a.2 (by simpa using hf) h
  | [], hf, _, _, ⟨vs, e, h⟩ => ⟨vs, e, ArgsR.flat [] hf h⟩
  | a :: b :: r, hf, _, _, ⟨vs, e, h⟩ => ⟨vs, e, ArgsR.flat (a :: b :: r) hf h⟩

/-- A contract over plain data serves the executor at a call. -/
theorem PureOK.spec {f : FuncId} {as rs : List ATy} {Pre : ADen as → Prop} {F : ADen as → ADen rs} (h : PureOK P f as rs Pre F) : SpecOK P f (pureSpec as rs Pre F) := by
  refine ⟨h.1, fun B X w0 H g w args vals K hsp hs ha => ?_⟩
  unfold pureSpec at hsp
  obtain ⟨x, H', a1, a2, a3, a4, a5, hpre, hk⟩ := args_sound _ as hs ha hsp
  have fin : ∀ w', Below w.heap.size w w' → Sat B X w0 H' g w' ∧ Evo w H g w' H' g := fun w' hb => by
    obtain ⟨b1, b2⟩ := Sat.same (w1 := w') a1 hb.os hb.tape hb.output hb.size hb.block
    exact ⟨b1, a2.trans b2⟩
  cases hl : rs.all fun r => r.2.flat with
  | true =>
    refine (h.2 (fun _ => True) x vals w hpre (a4 hl)).mono ?_
    rintro e w' ⟨v, rfl, hr, hb⟩
    obtain ⟨b1, b2⟩ := fin w' hb
    exact ⟨v, rfl, _, H', g, hk, b1, b2, resSV_rep rs (ResR.flat rs hl hr)⟩
  | false =>
    refine (h.2 (Stable H' g) x vals w hpre (a5 hl)).mono ?_
    rintro e w' ⟨v, rfl, hr, hb⟩
    obtain ⟨b1, b2⟩ := fin w' hb
    refine ⟨v, rfl, _, H', g, hk, b1, b2, resSV_rep rs (ResR.mono ⟨Nat.le_refl _, fun b hbl hok => ⟨?_, rfl⟩⟩ rs hr)⟩
    rcases hok with h1 | h1
    · exact h1
    · refine ⟨a1.okB b (.inl (Nat.le_trans a1.hB h1)), ?_⟩
      rintro ⟨i, en, q1, q2⟩
      have := (a1.ents i en q1).lt b q2
      omega

/-- The same, and it changes nothing that was there. -/
theorem PureOK.keeps {f : FuncId} {as rs : List ATy} {Pre : ADen as → Prop} {F : ADen as → ADen rs} (h : PureOK P f as rs Pre F) : SpecKeeps P f (pureSpec as rs Pre F) := by
  intro B X w0 H g w args vals K hsp hs ha
  unfold pureSpec at hsp
  obtain ⟨x, H', a1, a2, a3, a4, a5, hpre, hk⟩ := args_sound _ as hs ha hsp
  have fin : ∀ w', Below w.heap.size w w' → Sat B X w0 H' g w' ∧ Evo w H g w' H' g := fun w' hb => by
    obtain ⟨b1, b2⟩ := Sat.same (w1 := w') a1 hb.os hb.tape hb.output hb.size hb.block
    exact ⟨b1, a2.trans b2⟩
  cases hl : rs.all fun r => r.2.flat with
  | true =>
    refine (h.2 (fun _ => True) x vals w hpre (a4 hl)).mono ?_
    rintro e w' ⟨v, rfl, hr, hb⟩
    obtain ⟨b1, b2⟩ := fin w' hb
    exact ⟨v, rfl, ⟨_, H', g, hk, b1, b2, resSV_rep rs (ResR.flat rs hl hr)⟩, ⟨hb.size, hb.block⟩⟩
  | false =>
    refine (h.2 (Stable H' g) x vals w hpre (a5 hl)).mono ?_
    rintro e w' ⟨v, rfl, hr, hb⟩
    obtain ⟨b1, b2⟩ := fin w' hb
    refine ⟨v, rfl, ⟨_, H', g, hk, b1, b2, resSV_rep rs (ResR.mono ⟨Nat.le_refl _, fun b hbl hok => ⟨?_, rfl⟩⟩ rs hr)⟩, ⟨hb.size, hb.block⟩⟩
    rcases hok with h1 | h1
    · exact h1
    · refine ⟨a1.okB b (.inl (Nat.le_trans a1.hB h1)), ?_⟩
      rintro ⟨i, en, q1, q2⟩
      have := (a1.ents i en q1).lt b q2
      omega

theorem comps_dat_sound : (rs : List ATy) → {l : List (Bool × List SC)} → {H : List Ent} → {vs : List Value} → Sat B X w0 H g w → vs.length = l.length →
    (∀ (j : Nat) (p : Bool × List SC) (u : Value), l[j]? = some p → vs[j]? = some u → CompRep w H g p u) → {K : ADen rs → Prop} → compsDat rs l H K → ∃ y, ArgsR w g.ok rs y vs ∧ K y
  | [], l, H, vs, hs, hl, hr, K, h => by
    match l, h with
    | [], h => exact ⟨(), List.eq_nil_of_length_eq_zero hl, h⟩
  | [a], l, H, vs, hs, hl, hr, K, h => by
    match l, vs, hl, hr, h with
    | [(b, cs)], [u], hl, hr, h =>
      simp only [compsDat] at h
      obtain ⟨us, q1, q2, q3⟩ := hr 0 _ u rfl rfl
      cases hb : (b == a.1) with
      | false => rw [hb] at h; exact h.elim
      | true =>
        rw [hb] at h
        have hba : b = a.1 := by simpa using hb
        simp only [cond_true] at h
        obtain ⟨y, c, r, vr, H', a1, a2, a3, _, a4, a5, a6, a7, a8⟩ := dat_sound (ok := fun _ => True) false a.2 hs q1 h (fun h => by cases h)
        match r, a7, a8 with
        | [], a7, a8 =>
          have hvr : vr = [] := List.eq_nil_of_length_eq_zero a7.1
          subst hvr
          rw [List.append_nil] at a1
          subst a1
          refine ⟨y, ⟨u, rfl, ?_⟩, a8⟩
          have hrep := Ty.Rep.mono (w' := w) (ok' := g.ok) ⟨Nat.le_refl _, fun b _ h => ⟨h.1, rfl⟩⟩ a.2 (a6 rfl)
          unfold VRep
          subst hba
          simp only at q3
          cases ha : a.1 with
          | true => rw [ha] at q3; simp only [if_true] at q3 ⊢; exact ⟨us, q3, hrep⟩
          | false => rw [ha] at q3; simp only [Bool.false_eq_true, if_false] at q3 ⊢; rw [q3] at hrep; exact hrep
    | [_], [], hl, _, _ => simp at hl
    | [_], _ :: _ :: _, hl, _, _ => simp at hl
  | a :: b :: r, l, H, vs, hs, hl, hr, K, h => by
    match l, vs, hl, hr, h with
    | (b1, cs) :: l, u :: vs, hl, hr, h =>
      simp only [compsDat] at h
      obtain ⟨us, q1, q2, q3⟩ := hr 0 _ u rfl rfl
      cases hb : (b1 == a.1) with
      | false => rw [hb] at h; exact h.elim
      | true =>
        rw [hb] at h
        have hba : b1 = a.1 := by simpa using hb
        simp only [cond_true] at h
        obtain ⟨y, c, q, vr, H', a1, a2, a3, _, a4, a5, a6, a7, a8⟩ := dat_sound (ok := fun _ => True) false a.2 hs q1 h (fun h => by cases h)
        match q, a7, a8 with
        | [], a7, a8 =>
          have hvr : vr = [] := List.eq_nil_of_length_eq_zero a7.1
          subst hvr
          rw [List.append_nil] at a1
          subst a1
          obtain ⟨z, c1, c2⟩ := comps_dat_sound (b :: r) a2 (by simpa using hl) (fun j p v h1 h2 => (hr (j + 1) p v (by simpa using h1) (by simpa using h2)).evo a3) a8
          refine ⟨(y, z), ⟨u, vs, rfl, ?_, c1⟩, c2⟩
          have hrep := Ty.Rep.mono (w' := w) (ok' := g.ok) ⟨Nat.le_refl _, fun b _ h => ⟨h.1, rfl⟩⟩ a.2 (a6 rfl)
          unfold VRep
          subst hba
          simp only at q3
          cases ha : a.1 with
          | true => rw [ha] at q3; simp only [if_true] at q3 ⊢; exact ⟨us, q3, hrep⟩
          | false => rw [ha] at q3; simp only [Bool.false_eq_true, if_false] at q3 ⊢; rw [q3] at hrep; exact hrep
    | _ :: _, [], hl, _, _ => simp at hl

theorem resDat_sound (hs : Sat B X w0 H g w) : (rs : List ATy) → {sv : SV} → {v : Value} → sv.Rep w H g v → {K : ADen rs → Prop} → resDat rs sv H K → ∃ y, ResR w g.ok rs y v ∧ K y
  | [a], sv, v, hr, K, h => by
    obtain ⟨x, H', a1, a2, _, _, a5, a6⟩ := arg_sound false hs hr h
    exact ⟨x, (a5 rfl).mono fun _ h => Ty.Rep.mono ⟨Nat.le_refl _, fun b _ h => ⟨h.1, rfl⟩⟩ a.2 h, a6⟩
  | [], sv, v, hr, K, h => by
    match sv, hr, h with
    | .tup l, ⟨vs, e, hl, hr⟩, h =>
      obtain ⟨y, h1, h2⟩ := comps_dat_sound [] hs hl hr h
      exact ⟨y, ⟨vs, e, h1⟩, h2⟩
  | a :: b :: r, sv, v, hr, K, h => by
    match sv, hr, h with
    | .tup l, ⟨vs, e, hl, hr⟩, h =>
      obtain ⟨y, h1, h2⟩ := comps_dat_sound (a :: b :: r) hs hl hr h
      exact ⟨y, ⟨vs, e, h1⟩, h2⟩

/-- A contract over plain data, from the executor's run of the body. -/
theorem pure_of_vc {f : FuncId} {fn : Func} {as rs : List ATy} (C : ADen as → Ctx) (hC : ∀ x, CtxOK P (C x)) (hf : P.funcs[f]? = some fn) (hn : (fn.name == "runtime.NumGoroutine") = false) (hb : fn.body.isNone = false)
    {Pre : ADen as → Prop} {F : ADen as → ADen rs} (h : ∀ x, Pre x → PureVC (C x) fn as rs F x) : PureOK P f as rs Pre F := by
  refine ⟨⟨fn, hf, hn, hb⟩, fun ok x vals w hpre ha => ?_⟩
  let g : Gh := ⟨fun _ => 0, fun _ => undef, fun b => ok b ∨ w.heap.size ≤ b⟩
  have hs : Sat w.heap.size (fun _ => False) w [] g w :=
    ⟨rfl, rfl, rfl, Nat.le_refl _, Nat.le_refl _, fun b hb => .inr (hb.elim id False.elim), fun _ _ _ => rfl, fun i e h => by simp at h, fun i j e f b h => by simp at h⟩
  have hargs : ArgsRep w [] g (argSVs as x) vals := argSVs_rep as (ArgsR.mono ⟨Nat.le_refl _, fun b _ h => ⟨⟨.inl h, by rintro ⟨i, e, h, _⟩; simp at h⟩, rfl⟩⟩ as ha)
  refine (body_calls (hC x) hf (h x hpre) hs hargs).mono ?_
  rintro e w' ⟨v, rfl, sv, H', g', hk, hs', hev, hr⟩
  obtain ⟨y, h1, rfl⟩ := resDat_sound hs' rs hr hk
  refine ⟨v, rfl, ?_, ⟨hs'.os, hs'.tape, hs'.output, hs'.size0, fun b hb => hs'.old b hb id⟩⟩
  rw [hev.ok] at h1
  exact h1

/-- The same, the function being entered at a call in its text. -/
theorem runBody_spec (hC : CtxOK P C) {f : FuncId} {fn : Func} (hf : P.funcs[f]? = some fn) (hn : (fn.name == "runtime.NumGoroutine") = false) (hb : fn.body.isNone = false) : SpecOK P f (runBody C fn) :=
  ⟨⟨fn, hf, hn, hb⟩, fun _ _ _ _ _ _ _ _ _ h hs ha => body_calls hC hf h hs ha⟩

end
attribute [irreducible] PureVC

end Go.SX

/- SX, part O: the table of types, checked by computation; small helps. -/
namespace Go.SX
open Go Go.RowKit

def simpleEq : Value → Value → Bool
  | .int k n, .int k' n' => decide (k = k') && decide (n = n')
  | .bool a, .bool b => a == b
  | .string a, .string b => decide (a = b)
  | .slice none n c, .slice none n' c' => Nat.beq n n' && Nat.beq c c'
  | .pointer none, .pointer none => true
  | .map none, .map none => true
  | .nilIface, .nilIface => true
  | .nilFunc, .nilFunc => true
  | _, _ => false

theorem simpleEq_eq {a b : Value} (h : simpleEq a b = true) : a = b := by
  unfold simpleEq at h
  split at h <;> simp_all

theorem simpleEq_one {a b : Value} (h : simpleEq a b = true) : a.oneCell' = true := by
  unfold simpleEq at h
  split at h <;> first | rfl | cases h

def simpleEqs : List Value → List Value → Bool
  | [], [] => true
  | a :: r, b :: s => simpleEq a b && simpleEqs r s
  | _, _ => false

theorem simpleEqs_eq : {a b : List Value} → simpleEqs a b = true → a = b ∧ ∀ u ∈ a, u.oneCell' = true
  | [], [], _ => ⟨rfl, fun u hu => by simp at hu⟩
  | x :: r, y :: s, h => by
    simp only [simpleEqs, Bool.and_eq_true] at h
    obtain ⟨e, h1⟩ := simpleEqs_eq h.2
    refine ⟨by rw [simpleEq_eq h.1, e], fun u hu => ?_⟩
    rcases List.mem_cons.1 hu with h2 | h2
    · subst h2; exact simpleEq_one h.1
    · exact h1 u h2
  | [], _ :: _, h => by simp [simpleEqs] at h
  | _ :: _, [], h => by simp [simpleEqs] at h

def fieldsEq : List Field → List (Nat × TypeId) → Bool
  | [], [] => true
  | f :: r, p :: s => Nat.beq f.offset p.1 && Nat.beq f.type p.2 && fieldsEq r s
  | _, _ => false

theorem fieldsEq_eq : {a : List Field} → {b : List (Nat × TypeId)} → fieldsEq a b = true → a.map (fun f => (f.offset, f.type)) = b
  | [], [], _ => rfl
  | f :: r, p :: s, h => by
    simp only [fieldsEq, Bool.and_eq_true] at h
    simp [Nat.eq_of_beq_eq_true h.1.1, Nat.eq_of_beq_eq_true h.1.2, fieldsEq_eq h.2]
  | [], _ :: _, h => by simp [fieldsEq] at h
  | _ :: _, [], h => by simp [fieldsEq] at h

def De.chk (u : Option TypeDesc) : De → Bool
  | .other => match u with
    | some (.struct _) | some (.array _ _) | none => false
    | some _ => true
  | .int k => match u with | some (.int k') => decide (k = k') | _ => false
  | .bool => match u with | some .bool => true | _ => false
  | .str => match u with | some .string => true | _ => false
  | .slice e => match u with | some (.slice e') => Nat.beq e e' | _ => false
  | .struct fs => match u with | some (.struct fields) => fieldsEq fields.toList fs | _ => false
  | .array n e => match u with | some (.array n' e') => Nat.beq n n' && Nat.beq e e' | _ => false
  | .ptr e => match u with | some (.pointer e') => Nat.beq e e' | _ => false
  | .map k e => match u with | some (.map k' e') => Nat.beq k k' && Nat.beq e e' | _ => false

theorem De.chk_fits {P : Program} {t : TypeId} {d : De} (h : d.chk (P.underlying t) = true) : d.Fits P t := by
  cases d <;> simp only [De.chk, De.Fits] at h ⊢
  case other =>
    generalize P.underlying t = u at h
    match u, h with
    | some .invalid, _ | some .bool, _ | some (.int _), _ | some (.float _), _ | some (.complex _), _ | some .string, _ | some .unsafePointer, _ | some (.pointer _), _ | some (.slice _), _ | some (.map _ _), _
    | some (.chan _ _), _ | some (.func _ _ _), _ | some (.interface _), _ | some (.tuple _), _ | some (.named _ _), _ => exact ⟨_, rfl, fun _ h => (by cases h), fun _ _ h => (by cases h)⟩
  case int k =>
    generalize P.underlying t = u at h ⊢
    match u, h with
    | some (.int k'), h => rw [of_decide_eq_true h]
  case bool =>
    generalize P.underlying t = u at h ⊢
    match u, h with
    | some .bool, h => rfl
  case str =>
    generalize P.underlying t = u at h ⊢
    match u, h with
    | some .string, h => rfl
  case slice e =>
    generalize P.underlying t = u at h ⊢
    match u, h with
    | some (.slice e'), h => rw [Nat.eq_of_beq_eq_true h]
  case struct fs =>
    generalize P.underlying t = u at h ⊢
    match u, h with
    | some (.struct fields), h => exact ⟨fields, rfl, fieldsEq_eq h⟩
  case array n e =>
    generalize P.underlying t = u at h ⊢
    match u, h with
    | some (.array n' e'), h =>
      simp only [Bool.and_eq_true] at h
      rw [Nat.eq_of_beq_eq_true h.1, Nat.eq_of_beq_eq_true h.2]
  case ptr e =>
    generalize P.underlying t = u at h ⊢
    match u, h with
    | some (.pointer e'), h => rw [Nat.eq_of_beq_eq_true h]
  case map k e =>
    generalize P.underlying t = u at h ⊢
    match u, h with
    | some (.map k' e'), h =>
      simp only [Bool.and_eq_true] at h
      rw [Nat.eq_of_beq_eq_true h.1, Nat.eq_of_beq_eq_true h.2]

def TI.chk (P : Program) (t : TypeId) (ti : TI) : Bool :=
  (match P.info? t with
  | some i => Nat.beq i.size ti.size && Nat.beq i.bytes ti.bytes && (match i.zero with
    | some z => simpleEqs ti.zero z.cells.toList && (match ti.desc.isAgg, z with | true, .agg _ => true | true, _ => false | false, .agg _ => false | false, _ => Nat.beq ti.size 1)
    | none => false)
  | none => false) && ti.desc.chk (P.underlying t) && Nat.beq ti.zero.length ti.size &&
  (match ti.ty with | some T => Nat.beq T.size ti.size && simpleEqs T.zeros ti.zero | none => true) &&
  (!ti.eqs || (!P.stoodInHeld t && !P.eqGuardType P.depth t && (match P.underlying t with | some (.struct fields) => fields.toList.all (fun f => !(f.name == "_")) | _ => true)))

theorem TI.chk_ok {P : Program} {t : TypeId} {ti : TI} (h : ti.chk P t = true) : TIok P t ti := by
  unfold TI.chk at h
  simp only [Bool.and_eq_true] at h
  obtain ⟨⟨⟨⟨h1, h2⟩, h3⟩, h4⟩, h5⟩ := h
  cases hi : P.info? t with
  | none => rw [hi] at h1; cases h1
  | some i =>
    rw [hi] at h1
    simp only [Bool.and_eq_true] at h1
    obtain ⟨⟨q1, q2⟩, q3⟩ := h1
    cases hz : i.zero with
    | none => rw [hz] at q3; cases q3
    | some z =>
      rw [hz] at q3
      simp only [Bool.and_eq_true] at q3
      obtain ⟨q4, q5⟩ := q3
      obtain ⟨e1, e2⟩ := simpleEqs_eq q4
      refine ⟨⟨i, hi, Nat.eq_of_beq_eq_true q1, Nat.eq_of_beq_eq_true q2, z, hz, e1.symm, fun ha => ?_⟩, De.chk_fits h2, Nat.eq_of_beq_eq_true h3, fun ha => ?_, fun ha i' z' hi' hz' => ?_, e2, fun T hT => ?_, fun he => ?_⟩
      · rw [ha] at q5
        cases z <;> first | (simp at q5; done) | skip
        rename_i cs
        simp only [Value.cells] at e1
        rw [e1]
      · rw [ha] at q5
        cases z <;> first | exact Nat.eq_of_beq_eq_true q5 | (simp at q5; done)
      · rw [hi] at hi'
        obtain rfl : i = i' := by simpa using hi'
        rw [hz] at hz'
        obtain rfl : z = z' := by simpa using hz'
        rw [e1]
        rw [ha] at q5
        cases z <;> first | rfl | (simp at q5; done)
      · rw [hT] at h4
        simp only [Bool.and_eq_true] at h4
        exact ⟨Nat.eq_of_beq_eq_true h4.1, (simpleEqs_eq h4.2).1⟩
      · rw [he] at h5
        simp only [Bool.not_true, Bool.false_or, Bool.and_eq_true, Bool.not_eq_true'] at h5
        refine ⟨h5.1.1, h5.1.2, fun fields hu f hf => ?_⟩
        rw [hu] at h5
        have := List.all_eq_true.1 h5.2 f hf
        simpa using this

def chkAll (P : Program) : List (TypeId × TI) → Bool
  | [] => true
  | p :: r => p.2.chk P p.1 && chkAll P r

theorem chkAll_ok {P : Program} : {l : List (TypeId × TI)} → chkAll P l = true → ∀ t ti, tyFind t l = some ti → TIok P t ti
  | [], _, t, ti, h => by simp [tyFind] at h
  | (k, i) :: r, h, t, ti, hf => by
    simp only [chkAll, Bool.and_eq_true] at h
    unfold tyFind at hf
    cases hk : Nat.beq k t with
    | true =>
      rw [hk] at hf
      have := Nat.eq_of_beq_eq_true hk
      subst this
      simp only [cond_true, Option.some.injEq] at hf
      subst hf
      exact TI.chk_ok h.1
    | false => rw [hk] at hf; exact chkAll_ok h.2 t ti hf

/-- The contracts at hand. -/
def SpecsOK (P : Program) : List (FuncId × Spec) → Prop
  | [] => True
  | p :: r => SpecOK P p.1 p.2 ∧ SpecsOK P r

theorem SpecsOK.find {P : Program} : {l : List (FuncId × Spec)} → SpecsOK P l → ∀ f s, specFind f l = some s → SpecOK P f s
  | [], _, f, s, h => by simp [specFind] at h
  | (k, i) :: r, h, f, s, hf => by
    unfold specFind at hf
    cases hk : Nat.beq k f with
    | true =>
      rw [hk] at hf
      have := Nat.eq_of_beq_eq_true hk
      subst this
      simp only [cond_true, Option.some.injEq] at hf
      subst hf
      exact h.1
    | false => rw [hk] at hf; exact SpecsOK.find h.2 f s hf

/-- What the executor knows of a function, and whether that leaves alone all that was there. -/
structure CI where
  f : FuncId
  s : Spec
  k : Bool
  z : Bool

def CI.OK (P : Program) (c : CI) : Prop := SpecOK P c.f c.s ∧ (c.k = true → SpecKeeps P c.f c.s)

def CsOK (P : Program) : List CI → Prop
  | [] => True
  | c :: r => c.OK P ∧ CsOK P r

def consOf : List CI → List (FuncId × Spec)
  | [] => []
  | c :: r => (c.f, c.s) :: consOf r

def keepOf : List CI → FuncId → Bool
  | [], _ => false
  | c :: r, f => bif Nat.beq c.f f then c.k else keepOf r f

def frzOf : List CI → FuncId → Bool
  | [], _ => false
  | c :: r, f => bif Nat.beq c.f f then c.z else frzOf r f

theorem cons_ok {P : Program} : (l : List CI) → CsOK P l → ∀ f s, specFind f (consOf l) = some s → SpecOK P f s ∧ (keepOf l f = true → SpecKeeps P f s)
  | [], _, f, s, h => by simp [consOf, specFind] at h
  | c :: r, hl, f, s, hf => by
    unfold consOf specFind at hf
    unfold keepOf
    cases hk : Nat.beq c.f f with
    | true =>
      rw [hk] at hf
      have := Nat.eq_of_beq_eq_true hk
      subst this
      simp only [cond_true, Option.some.injEq] at hf
      subst hf
      exact hl.1
    | false => rw [hk] at hf; exact cons_ok r hl.2 f s hf

/-- The context of a text: types, contracts, loops. -/
@[reducible] def ctxOf (tys : List (TypeId × TI)) (cs : List CI) (ann : Nat → Option (St → Ann)) : Ctx := ⟨tys, consOf cs, ann, keepOf cs, frzOf cs⟩

theorem ctx_ok {P : Program} {tys : List (TypeId × TI)} (hm : P.follows .mixedOrders = true) (h1 : ∀ t ti, tyFind t tys = some ti → TIok P t ti) {cs : List CI} (h : CsOK P cs) (ann : Nat → Option (St → Ann)) : CtxOK P (ctxOf tys cs ann) :=
  ⟨h1, fun f s hf => (cons_ok cs h f s hf).1, fun f s hk hf => (cons_ok cs h f s hf).2 hk, hm⟩

/-- A function over plain data. -/
structure PC where
  f : FuncId
  as : List ATy
  rs : List ATy
  Pre : ADen as → Prop
  F : ADen as → ADen rs

@[reducible] def PC.OK (P : Program) (c : PC) : Prop := PureOK P c.f c.as c.rs c.Pre c.F
@[reducible] def PC.ci (c : PC) : CI := ⟨c.f, pureSpec c.as c.rs c.Pre c.F, true, !(c.rs.all fun r => r.2.flat)⟩
theorem PC.OK.ci {P : Program} {c : PC} (h : c.OK P) : c.ci.OK P := ⟨PureOK.spec h, fun _ => PureOK.keeps h⟩

/-- A function that is entered at its calls. -/
@[reducible] def inl (f : FuncId) (fn : Func) (C : Ctx) : CI := ⟨f, runBody C fn, false, false⟩
theorem inl_ok {P : Program} {f : FuncId} {fn : Func} {C : Ctx} (hC : CtxOK P C) (hf : P.funcs[f]? = some fn) (hn : (fn.name == "runtime.NumGoroutine") = false) (hb : fn.body.isNone = false) : (inl f fn C).OK P :=
  ⟨runBody_spec hC hf hn hb, fun h => (by cases h)⟩

/-- What is to be shown of a function over plain data. -/
@[reducible] def PC.VC (c : PC) (C : Ctx) (fn : Func) (x : ADen c.as) : Prop := PureVC C fn c.as c.rs c.F x

theorem PC.ok {P : Program} (c : PC) {fn : Func} (C : ADen c.as → Ctx) (hC : ∀ x, CtxOK P (C x)) (hf : P.funcs[c.f]? = some fn) (hn : (fn.name == "runtime.NumGoroutine") = false) (hb : fn.body.isNone = false)
    (h : ∀ x, c.Pre x → c.VC (C x) fn x) : c.OK P := pure_of_vc C hC hf hn hb h

/-- A loop without annotation of its own data. -/
def annOf (n : Nat) : List (Nat × (St → Ann)) → Option (St → Ann)
  | [] => none
  | (k, a) :: r => bif Nat.beq k n then some a else annOf n r

theorem fits_i64 {n : Int} (h1 : -1000000000000000000 ≤ n) (h2 : n ≤ 1000000000000000000) : Fits .i64 n := by
  unfold Fits
  have e1 : IntKind.i64.min = -9223372036854775808 := by decide
  have e2 : IntKind.i64.max = 9223372036854775807 := by decide
  rw [e1, e2]
  omega

theorem PureOK.imp {P : Program} {f : FuncId} {as rs : List ATy} {Pre Pre' : ADen as → Prop} {F F' : ADen as → ADen rs} (h : PureOK P f as rs Pre F) (hp : ∀ x, Pre' x → Pre x) (hf : ∀ x, Pre' x → F x = F' x) : PureOK P f as rs Pre' F' :=
  ⟨h.1, fun ok x vals w hpre ha => by rw [← hf x hpre]; exact h.2 ok x vals w (hp x hpre) ha⟩

end Go.SX

/- SX, part P: the caller's input reads as plain data. -/
namespace Go.SX
open Go Go.RowKit Go.Deep Go.ChangeShapes Go.WideShapes

/-- A type of the program, and the kind of data that it holds. -/
inductive TyM (P : Program) : TypeId → Ty → Prop
  | int {t : TypeId} {k : IntKind} (h : P.underlying t = some (.int k)) : TyM P t (.int k)
  | bool {t : TypeId} (h : P.underlying t = some .bool) : TyM P t .bool
  | str {t : TypeId} (h : P.underlying t = some .string) : TyM P t .str
  | pair {t : TypeId} {a b : Ty} {f0 f1 : Field} (h : P.underlying t = some (.struct #[f0, f1])) (o0 : f0.offset = 0) (o1 : f1.offset = a.size) (c0 : P.cellsOf f0.type = a.size) (c1 : P.cellsOf f1.type = b.size)
      (h0 : TyM P f0.type a) (h1 : TyM P f1.type b) (ct : P.cellsOf t = a.size + b.size) : TyM P t (.pair a b)
  | two {t e : TypeId} {a : Ty} (h : P.underlying t = some (.array 2 e)) (ce : P.cellsOf e = a.size) (h0 : TyM P e a) (ct : P.cellsOf t = a.size + a.size) : TyM P t (.pair a a)
  | three {t e : TypeId} {a : Ty} (h : P.underlying t = some (.array 3 e)) (ce : P.cellsOf e = a.size) (h0 : TyM P e a) (ct : P.cellsOf t = a.size + (a.size + a.size)) : TyM P t (.pair a (.pair a a))
  | slice {t e : TypeId} {a : Ty} (h : P.underlying t = some (.slice e)) (ce : P.cellsOf e = a.size) (h0 : TyM P e a) : TyM P t (.slice a)

def Ty.Wf : (T : Ty) → T.den → Prop
  | .int k, n => k.min ≤ n ∧ n ≤ k.max
  | .bool, _ => True
  | .str, s => s.size ≤ maxLen
  | .pair a b, p => a.Wf p.1 ∧ b.Wf p.2
  | .slice a, xs => xs.length ≤ maxLen ∧ ∀ x ∈ xs, a.Wf x

theorem list_of {α : Type} {R : Nat → α → Prop} : (n : Nat) → (∀ i, i < n → ∃ x, R i x) → ∃ xs : List α, xs.length = n ∧ ∀ i x, xs[i]? = some x → R i x
  | 0, _ => ⟨[], rfl, fun i x h => by simp at h⟩
  | n + 1, h => by
    obtain ⟨xs, h1, h2⟩ := list_of n fun i hi => h i (Nat.lt_succ_of_lt hi)
    obtain ⟨x, hx⟩ := h n (Nat.lt_succ_self n)
    refine ⟨xs ++ [x], by simp [h1], fun i y hy => ?_⟩
    rcases Nat.lt_or_ge i n with hi | hi
    · rw [List.getElem?_append_left (by omega)] at hy; exact h2 i y hy
    · rw [List.getElem?_append_right (by omega)] at hy
      have e : i - xs.length = 0 := by
        rcases Nat.eq_zero_or_pos (i - xs.length) with h | h
        · exact h
        · rw [List.getElem?_eq_none (by simp; omega)] at hy; cases hy
      rw [e] at hy
      simp at hy
      have e' : i = n := by omega
      rw [e', ← hy]; exact hx

section
variable {H : Type} {enc : TypeId × Value → H} {P : Program} {w : World} {base : Nat} {spare : Nat → Bool} {held : Bool}

theorem cell_lt {w : World} {a : Addr} {v : Value} (hc : w.cell? a = some v) : a.block < w.heap.size := by
  unfold World.cell? at hc
  cases hx : w.heap[a.block]? with
  | none => rw [hx] at hc; cases hc
  | some o => exact (Array.getElem?_eq_some_iff.1 hx).1

theorem split2 {α : Type} (cs : List α) (n m : Nat) (h : cs.length = n + m) : cs = (cs.drop 0).take n ++ (cs.drop n).take m := by
  rw [List.drop_zero]
  have : (cs.drop n).take m = cs.drop n := List.take_of_length_le (by simp; omega)
  rw [this, List.take_append_drop]

theorem open_ty {t : TypeId} {T : Ty} (hT : TyM P t T) : ∀ {fuel : Nat} {cs : List Value} {x : DataW H × List MemPlace}, DataW.trod enc P w base spare held fuel t cs = some x → ∃ y : T.den, T.Rep w (fun b => b < w.heap.size) y cs ∧ T.Wf y := by
  induction hT with
  | int h =>
    intro fuel cs x hx
    cases fuel with
    | zero => simp [DataW.trod] at hx
    | succ n =>
      unfold DataW.trod at hx
      simp only [h] at hx
      split at hx <;> simp_all
      rename_i k k' n hk
      obtain ⟨⟨h1, h2⟩, _⟩ := hx
      subst h1
      unfold Lit.wf at h2
      rw [Bool.and_eq_true] at h2
      exact ⟨n, by first | rfl | (subst hk; rfl), by first | exact of_decide_eq_true h2.1 | (subst hk; exact of_decide_eq_true h2.1), by first | exact of_decide_eq_true h2.2 | (subst hk; exact of_decide_eq_true h2.2)⟩
  | bool h =>
    intro fuel cs x hx
    cases fuel with
    | zero => simp [DataW.trod] at hx
    | succ n =>
      unfold DataW.trod at hx
      simp only [h] at hx
      split at hx <;> simp_all
      rename_i b
      cases b
      · exact .inl ⟨rfl, trivial⟩
      · exact .inr ⟨rfl, trivial⟩
  | str h =>
    intro fuel cs x hx
    cases fuel with
    | zero => simp [DataW.trod] at hx
    | succ n =>
      unfold DataW.trod at hx
      simp only [h] at hx
      split at hx <;> simp_all
      exact ⟨_, rfl, hx.1⟩
  | @pair t a b f0 f1 h o0 o1 c0 c1 m0 m1 ct ih0 ih1 =>
    intro fuel cs x hx
    obtain ⟨xs, n, _, _, hl, hxl, hf⟩ := DataW.trod_struct h hx
    match xs, hxl with
    | [y0, y1], _ =>
      have g0 := hf 0 f0 rfl
      have g1 := hf 1 f1 rfl
      rw [o0, c0] at g0
      rw [o1, c1] at g1
      obtain ⟨d0, r0, w0⟩ := ih0 g0
      obtain ⟨d1, r1, w1⟩ := ih1 g1
      exact ⟨(d0, d1), ⟨_, _, split2 cs a.size b.size (by rw [hl, ct]), r0, r1⟩, w0, w1⟩
  | @two t e a h ce m0 ct ih =>
    intro fuel cs x hx
    obtain ⟨xs, n, _, _, hl, hxl, hf⟩ := DataW.trod_array h hx
    match xs, hxl with
    | [y0, y1], _ =>
      have g0 := hf 0 (by omega)
      have g1 := hf 1 (by omega)
      rw [ce] at g0 g1
      rw [Nat.zero_mul] at g0
      rw [Nat.one_mul] at g1
      obtain ⟨d0, r0, w0⟩ := ih g0
      obtain ⟨d1, r1, w1⟩ := ih g1
      exact ⟨(d0, d1), ⟨_, _, split2 cs a.size a.size (by rw [hl, ct]), r0, r1⟩, w0, w1⟩
  | @three t e a h ce m0 ct ih =>
    intro fuel cs x hx
    obtain ⟨xs, n, _, _, hl, hxl, hf⟩ := DataW.trod_array h hx
    match xs, hxl with
    | [y0, y1, y2], _ =>
      have g0 := hf 0 (by omega)
      have g1 := hf 1 (by omega)
      have g2 := hf 2 (by omega)
      rw [ce] at g0 g1 g2
      rw [Nat.zero_mul] at g0
      rw [Nat.one_mul] at g1
      obtain ⟨d0, r0, w0⟩ := ih g0
      obtain ⟨d1, r1, w1⟩ := ih g1
      obtain ⟨d2, r2, w2⟩ := ih g2
      have e1 : (cs.drop (2 * a.size)).take a.size = ((cs.drop a.size).drop a.size).take a.size := by
        rw [List.drop_drop]
        congr 2
        omega
      rw [e1] at r2
      have hd : ((cs.drop a.size).drop a.size).take a.size = (cs.drop a.size).drop a.size := List.take_of_length_le (by
        simp only [List.length_drop]
        omega)
      rw [hd] at r2
      exact ⟨(d0, d1, d2), ⟨(cs.drop 0).take a.size, cs.drop a.size, by simp, r0, ⟨_, _, (List.take_append_drop a.size (cs.drop a.size)).symm, r1, r2⟩⟩, w0, w1, w2⟩
  | @slice t e a h ce m0 ih =>
    intro fuel cs x hx
    rcases open_slice h hx with ⟨rfl, _⟩ | ⟨ad, len, cap, m, n, D, Pl, rfl, hb, hl, hm, hmm, _, hel⟩
    · exact ⟨[], ⟨none, 0, rfl, Nat.le_refl _, fun h => absurd rfl h⟩, Nat.zero_le _, fun x hx => by cases hx⟩
    · have hlm : len ≤ m := by rw [hmm]; split <;> omega
      obtain ⟨xs, hxl, hxs⟩ := list_of (R := fun i (y : a.den) => ∃ c, a.Rep w (fun b => b < w.heap.size) y c ∧ a.Wf y ∧ c.length = a.size ∧ ∀ (j : Nat) (u : Value), c[j]? = some u → w.cell? (ad.add (i * a.size + j)) = some u) len fun i hi => by
        obtain ⟨cs', q1, q2⟩ := hel i (by omega)
        obtain ⟨y, r1, r2⟩ := ih q2
        obtain ⟨_, z1, z2⟩ := World.cells?_some q1
        refine ⟨y, cs', r1, r2, by rw [z1, ce], fun j u hu => ?_⟩
        have hj : j < P.cellsOf e := by rw [← z1]; exact (List.getElem?_eq_some_iff.1 hu).1
        have := z2 j hj
        rw [add_add, ce, hu] at this
        exact this
      have hblk : xs ≠ [] → ad.block < w.heap.size := fun hne => by
        have h0 : 0 < xs.length := List.length_pos_iff.2 hne
        obtain ⟨c, _, _, q3, q4⟩ := hxs 0 xs[0] (List.getElem?_eq_getElem h0)
        have hc : 0 < c.length := by rw [q3]; exact a.size_pos
        have := cell_lt (q4 0 c[0] (List.getElem?_eq_getElem hc))
        rwa [block_add] at this
      refine ⟨xs, ⟨some ad, cap, by rw [hxl], by omega, fun hne => ⟨ad, rfl, hblk hne, hblk hne, fun i y hy => ?_⟩⟩, by rw [hxl]; omega, fun y hy => ?_⟩
      · obtain ⟨c, q1, _, q3, q4⟩ := hxs i y hy
        exact ⟨c, q1, q3, q4⟩
      · obtain ⟨i, hi⟩ := List.getElem?_of_mem hy
        exact (hxs i y hi).choose_spec.2.1

end
end Go.SX

/- SX, part Q: contracts of functions that write what they are handed. -/
namespace Go.SX
open Go Go.RowKit

/-! ### Renaming: a small heap within a larger one -/

def renSC (ρ V : Nat → Nat) : SC → SC
  | .ptr i o => .ptr (ρ i) o
  | .own i v => .own (ρ i) (V i + v)
  | .owna i v k o => .owna (ρ i) (V i + v) k o
  | .pre i v n => .pre (ρ i) (V i + v) n
  | .tab i => .tab (ρ i)
  | .fn f caps => .fn f (caps.map ρ)
  | c => c
def renEnt (ρ V : Nat → Nat) (k : Nat) : Ent → Ent
  | .dead => .dead
  | .blk e cs => .blk e (cs.map (renSC ρ V))
  | .row e t v xs => .row e t (V k + v) xs
  | .tab a t es => .tab a t es
def renSV (ρ V : Nat → Nat) : SV → SV
  | .c x => .c (renSC ρ V x)
  | .agg l => .agg (l.map (renSC ρ V))
  | .tup l => .tup (l.map fun p => (p.1, p.2.map (renSC ρ V)))

/-- A small value stands for one of the larger heap. -/
def SC.same (ρ : Nat → Nat) (n : Nat) (H : List Ent) : SC → SC → Prop
  | .any, _ => True
  | .int k x, .int k' y => bif decide (k = k') then y = x else False
  | .bool _ b, c => match c.asB with
    | some b' => b' = b
    | none => False
  | .kb b, .kb b' => bif b == b' then True else False
  | .str s, .str s' => s' = s
  | .ptr i o, .ptr j o' => bif Nat.beq (ρ i) j && Nat.beq o o' && Nat.blt i n then True else False
  | .ro t xs, .ro t' ys => if h : t' = t then (h ▸ ys) = xs else False
  | .ro _ xs, .raw u => bif isNil u then xs = [] else False
  | .own i v, .own j v' => match H[j]? with
    | some (.row _ _ w _) => bif Nat.beq (ρ i) j && Nat.beq v 0 && Nat.beq v' w && Nat.blt i n then True else False
    | _ => False
  | .fn f caps, .fn f' caps' => bif Nat.beq f f' && natsEq (caps.map ρ) caps' && caps.all (fun i => Nat.blt i n) then True else False
  | .raw u, .raw v => v = u
  | _, _ => False
def sameL (ρ : Nat → Nat) (n : Nat) (H : List Ent) : List SC → List SC → Prop
  | [], [] => True
  | x :: r, y :: s => SC.same ρ n H x y ∧ sameL ρ n H r s
  | _, _ => False
def SV.same (ρ : Nat → Nat) (n : Nat) (H : List Ent) : SV → SV → Prop
  | .c x, .c y => SC.same ρ n H x y
  | .agg l, .agg m => sameL ρ n H l m
  | _, _ => False
def sameVs (ρ : Nat → Nat) (n : Nat) (H : List Ent) : List SV → List SV → Prop
  | [], [] => True
  | x :: r, y :: s => SV.same ρ n H x y ∧ sameVs ρ n H r s
  | _, _ => False
def Ent.same (ρ : Nat → Nat) (n : Nat) (H : List Ent) : Ent → Ent → Prop
  | .blk e cs, .blk e' cs' => bif Nat.beq e e' then sameL ρ n H cs cs' else False
  | .row e t v xs, .row e' t' _ xs' => bif Nat.beq e e' && Nat.beq v 0 then (if h : t' = t then (h ▸ xs') = xs else False) else False
  | _, _ => False
def sameEnts (ρ : Nat → Nat) (n : Nat) (H : List Ent) : Nat → List Ent → Prop
  | _, [] => True
  | k, e :: r => (match H[ρ k]? with
    | some e' => Ent.same ρ n H e e'
    | none => False) ∧ sameEnts ρ n H (k + 1) r

def ndL : List Nat → Bool
  | [] => true
  | j :: r => !(r.any (Nat.beq j)) && ndL r

def verAt (H : List Ent) (j : Nat) : Nat := match H[j]? with
  | some (.row _ _ v _) => v
  | _ => 0
def atL (js : List Nat) (k : Nat) : Nat := match js, k with
  | [], _ => 0
  | j :: _, 0 => j
  | _ :: r, k + 1 => atL r k
def updH : List Nat → List Ent → List Ent → List Ent
  | j :: js, e :: es, H => updH js es (H.set j e)
  | _, _, H => H
def renEnts (ρ V : Nat → Nat) : Nat → List Ent → List Ent
  | _, [] => []
  | k, e :: r => renEnt ρ V k e :: renEnts ρ V (k + 1) r

section
variable {P : Program} {B : Nat} {X : Nat → Prop} {w0 w w' : World} {H H0 Ho Hn : List Ent} {g g' : Gh} {ρ V : Nat → Nat} {n : Nat}

theorem Ty.Rep.stable {t : Ty} {x : t.den} {cs : List Value} {ok ok' : Nat → Prop} (h : t.Rep w ok x cs) (hk : ∀ b, b < w.heap.size → ok b → ok' b) : t.Rep w ok' x cs :=
  Ty.Rep.mono ⟨Nat.le_refl _, fun b hb ho => ⟨hk b hb ho, rfl⟩⟩ t h

/-- The small heap's reading of what the larger one reads. -/
theorem SC.same_rep {g0 : Gh} (hb : ∀ k, k < n → g0.b k = g.b (ρ k)) (hv : ∀ k, k < n → g0.v k = g.v (ρ k)) (hn : H0.length = n)
    (hrow : ∀ k e t v xs, k < n → H[ρ k]? = some (.row e t v xs) → ∃ e' t' xs', H0[k]? = some (.row e' t' 0 xs'))
    (hst : ∀ b, b < w.heap.size → Stable H g b → Stable H0 g0 b) {x y : SC} {v : Value} (h : SC.same ρ n H x y) (hr : y.Rep w H g v) : x.Rep w H0 g0 v := by
  unfold SC.same at h
  split at h
  · trivial
  · rename_i k a k' b
    cases hd : decide (k = k') with
    | false => rw [hd] at h; exact h.elim
    | true =>
      rw [hd] at h
      have e := of_decide_eq_true hd
      subst e
      simp only [cond_true] at h
      subst h
      exact hr
  · rename_i b
    cases y <;> simp only [SC.asB] at h <;> try exact h.elim
    all_goals (subst h; exact hr)
  · rename_i b b'
    cases hd : (b == b') with
    | false => rw [hd] at h; exact h.elim
    | true =>
      have e : b = b' := by simpa using hd
      subst e
      exact hr
  · subst h; exact hr
  · rename_i i o j o'
    cases hd : (Nat.beq (ρ i) j && Nat.beq o o' && Nat.blt i n) with
    | false => rw [hd] at h; exact h.elim
    | true =>
      simp only [Bool.and_eq_true] at hd
      have e1 := Nat.eq_of_beq_eq_true hd.1.1
      have e2 := Nat.eq_of_beq_eq_true hd.1.2
      have e3 : i < n := Nat.le_of_ble_eq_true hd.2
      subst e1; subst e2
      exact ⟨by omega, by rw [hb i e3]; exact hr.2⟩
  · rename_i t xs t' ys
    split at h
    · rename_i ht
      subst ht
      subst h
      exact Ty.Rep.stable (t := .slice _) hr hst
    · exact h.elim
  · rename_i t xs u
    cases hu : isNil u with
    | false => rw [hu] at h; exact h.elim
    | true =>
      rw [hu] at h
      simp only [cond_true] at h
      subst h
      have e : v = u := hr
      rw [isNil_eq hu] at e
      exact ⟨none, 0, by rw [e]; rfl, Nat.le_refl _, fun h => absurd rfl h⟩
  · rename_i i a j a'
    cases hj : H[j]? with
    | none => rw [hj] at h; exact h.elim
    | some en =>
      rw [hj] at h
      cases en with
      | dead => exact h.elim
      | blk => exact h.elim
      | tab => exact h.elim
      | row e t wv xs =>
        simp only at h
        cases hd : (Nat.beq (ρ i) j && Nat.beq a 0 && Nat.beq a' wv && Nat.blt i n) with
        | false => rw [hd] at h; exact h.elim
        | true =>
          simp only [Bool.and_eq_true] at hd
          have e1 := Nat.eq_of_beq_eq_true hd.1.1.1
          have e2 := Nat.eq_of_beq_eq_true hd.1.1.2
          have e3 := Nat.eq_of_beq_eq_true hd.1.2
          have e4 : i < n := Nat.le_of_ble_eq_true hd.2
          subst e1; subst e2; subst e3
          obtain ⟨h1, h2⟩ := hr
          refine ⟨h1, ?_⟩
          obtain ⟨e', t', xs', q⟩ := hrow i e t _ xs e4 hj
          unfold OwnRep at h2 ⊢
          rw [hj] at h2
          rw [q]
          exact ⟨Nat.le_refl _, fun _ => by rw [hv i e4]; exact h2.2 rfl⟩
  · rename_i f caps f' caps'
    cases hd : (Nat.beq f f' && natsEq (caps.map ρ) caps' && caps.all (fun i => Nat.blt i n)) with
    | false => rw [hd] at h; exact h.elim
    | true =>
      simp only [Bool.and_eq_true] at hd
      have e1 := Nat.eq_of_beq_eq_true hd.1.1
      have e2 := natsEq_eq hd.1.2
      subst e1; subst e2
      have hlt : ∀ i ∈ caps, i < n := fun i hi => Nat.le_of_ble_eq_true (List.all_eq_true.1 hd.2 i hi)
      obtain ⟨h1, h2⟩ := hr
      refine ⟨?_, fun i hi => by have := hlt i hi; omega⟩
      rw [h1, List.map_map]
      congr 2
      exact List.map_congr_left fun i hi => by simp only [Function.comp]; rw [hb i (hlt i hi)]
  · subst h; exact hr
  · exact h.elim

theorem sameL_rep {g0 : Gh} (hsc : ∀ x y v, SC.same ρ n H x y → y.Rep w H g v → x.Rep w H0 g0 v) : {l m : List SC} → {vs : List Value} → sameL ρ n H l m → Reps w H g m vs → Reps w H0 g0 l vs
  | [], [], vs, _, hr => ⟨hr.1, fun j c v h => by simp at h⟩
  | x :: r, y :: s, [], _, hr => absurd hr.1 (by simp)
  | x :: r, y :: s, v :: vs, h, hr => by
    have ih := sameL_rep hsc h.2 (⟨by simpa using hr.1, fun j c u h1 h2 => hr.2 (j + 1) c u (by simpa using h1) (by simpa using h2)⟩ : Reps w H g s vs)
    refine ⟨by simp [ih.1], fun j c u h1 h2 => ?_⟩
    cases j with
    | zero => simp at h1 h2; subst h1; subst h2; exact hsc _ _ _ h.1 (hr.2 0 y v rfl rfl)
    | succ j => exact ih.2 j c u (by simpa using h1) (by simpa using h2)
  | [], _ :: _, _, h, _ => h.elim
  | _ :: _, [], _, h, _ => h.elim

theorem sameVs_rep {g0 : Gh} (hsc : ∀ x y v, SC.same ρ n H x y → y.Rep w H g v → x.Rep w H0 g0 v) : {l m : List SV} → {vs : List Value} → sameVs ρ n H l m → ArgsRep w H g m vs → ArgsRep w H0 g0 l vs
  | [], [], vs, _, hr => ⟨hr.1, fun j c v h => by simp at h⟩
  | x :: r, y :: s, [], _, hr => absurd hr.1 (by simp)
  | x :: r, y :: s, v :: vs, h, hr => by
    have ih := sameVs_rep hsc h.2 (⟨by simpa using hr.1, fun j c u h1 h2 => hr.2 (j + 1) c u (by simpa using h1) (by simpa using h2)⟩ : ArgsRep w H g s vs)
    refine ⟨by simp [ih.1], fun j c u h1 h2 => ?_⟩
    cases j with
    | zero =>
      simp at h1 h2; subst h1; subst h2
      have hy := hr.2 0 y v rfl rfl
      match x, y, h.1, hy with
      | .c _, .c _, h, hy => exact hsc _ _ _ h hy
      | .agg _, .agg _, h, ⟨us, e, q1, q2⟩ => exact ⟨us, e, sameL_rep hsc h q1, q2⟩
    | succ j => exact ih.2 j c u (by simpa using h1) (by simpa using h2)
  | [], _ :: _, _, h, _ => h.elim
  | _ :: _, [], _, h, _ => h.elim

theorem sameEnts_get : (l : List Ent) → (k : Nat) → sameEnts ρ n H k l → ∀ i e, l[i]? = some e → ∃ e', H[ρ (k + i)]? = some e' ∧ Ent.same ρ n H e e'
  | [], _, _, i, e, h => by simp at h
  | a :: r, k, hs, i, e, h => by
    cases i with
    | zero =>
      simp at h; subst h
      obtain ⟨h1, _⟩ := hs
      cases hq : H[ρ k]? with
      | none => rw [hq] at h1; exact h1.elim
      | some e' => rw [hq] at h1; exact ⟨e', rfl, h1⟩
    | succ i =>
      obtain ⟨e', h1, h2⟩ := sameEnts_get r (k + 1) hs.2 i e (by simpa using h)
      exact ⟨e', by rw [show k + (i + 1) = k + 1 + i by omega]; exact h1, h2⟩

theorem Ent.same_blocks {g0 : Gh} {k b : Nat} (hb : g0.b k = g.b (ρ k)) (hv : g0.v k = g.v (ρ k)) : {e e' : Ent} → Ent.same ρ n H e e' → (e.blocks g0 k b ↔ e'.blocks g (ρ k) b)
  | .blk .., .blk .., _ => by unfold Ent.blocks; rw [hb]
  | .row .., .row .., _ => by unfold Ent.blocks; rw [hv]
  | .dead, _, h => h.elim
  | .blk .., .dead, h => h.elim
  | .blk .., .row .., h => h.elim
  | .row .., .dead, h => h.elim
  | .row .., .blk .., h => h.elim
  | .tab .., _, h => h.elim
  | .blk .., .tab .., h => h.elim
  | .row .., .tab .., h => h.elim

/-- What the small heap reads after the call, the larger one reads. -/
theorem ren_rep {gn : Gh} (hb : ∀ k, k < n → gn.b (ρ k) = g'.b k) (hv : ∀ k, k < n → gn.v (ρ k) = g'.v k) (hn : Ho.length = n) (hl : ∀ k, k < n → ρ k < Hn.length)
    (hget : ∀ k, k < n → Hn[ρ k]? = (Ho[k]?).map (renEnt ρ V k)) (hst : ∀ b, b < w'.heap.size → Stable Ho g' b → Stable Hn gn b) {x : SC} {v : Value} (hr : x.Rep w' Ho g' v) : (renSC ρ V x).Rep w' Hn gn v := by
  cases x with
  | any => trivial
  | int => exact hr
  | prop => exact hr
  | bool => exact hr
  | kb => exact hr
  | str => exact hr
  | raw => exact hr
  | ptr i o =>
    obtain ⟨h1, h2⟩ := hr
    exact ⟨hl i (by omega), by rw [hb i (by omega)]; exact h2⟩
  | tab i =>
    obtain ⟨h1, h2⟩ := hr
    exact ⟨hl i (by omega), by rw [hb i (by omega)]; exact h2⟩
  | ro t xs => exact Ty.Rep.stable (t := .slice _) hr hst
  | roa t xs k off =>
    obtain ⟨h0, ad, h1, h2, h3, h4⟩ := hr
    exact ⟨h0, ad, h1, h2, hst _ h2 h3, h4.mono (fun _ _ h => Ty.Rep.stable h hst) fun _ _ h => h⟩
  | own i a =>
    obtain ⟨h1, h2⟩ := hr
    refine ⟨h1, ?_⟩
    unfold OwnRep at h2 ⊢
    cases hi : Ho[i]? with
    | none => rw [hi] at h2; exact h2.elim
    | some en =>
      have hin : i < n := by rw [← hn]; exact (List.getElem?_eq_some_iff.1 hi).1
      rw [hi] at h2
      rw [hget i hin, hi]
      cases en with
      | dead => trivial
      | blk => trivial
      | tab => trivial
      | row e t a' xs => exact ⟨by have := h2.1; omega, fun e => by rw [hv i hin]; exact h2.2 (by omega)⟩
  | owna i a k off =>
    obtain ⟨h1, h2⟩ := hr
    refine ⟨h1, ?_⟩
    unfold OwnaRep at h2 ⊢
    cases hi : Ho[i]? with
    | none => rw [hi] at h2; exact h2.elim
    | some en =>
      have hin : i < n := by rw [← hn]; exact (List.getElem?_eq_some_iff.1 hi).1
      rw [hi] at h2
      rw [hget i hin, hi]
      cases en with
      | dead => trivial
      | blk => trivial
      | tab => trivial
      | row e t a' xs => exact ⟨by have := h2.1; omega, fun e => by rw [hv i hin]; exact h2.2 (by omega)⟩
  | pre i a m =>
    obtain ⟨h1, h2⟩ := hr
    refine ⟨h1, ?_⟩
    unfold PreRep at h2 ⊢
    cases hi : Ho[i]? with
    | none => rw [hi] at h2; exact h2.elim
    | some en =>
      have hin : i < n := by rw [← hn]; exact (List.getElem?_eq_some_iff.1 hi).1
      rw [hi] at h2
      rw [hget i hin, hi]
      cases en with
      | dead => trivial
      | blk => trivial
      | tab => trivial
      | row e t a' xs => exact ⟨by have := h2.1; omega, fun e => by rw [hv i hin]; exact h2.2 (by omega)⟩
  | fn f caps =>
    obtain ⟨h1, h2⟩ := hr
    refine ⟨?_, fun i hi => ?_⟩
    · rw [h1, List.map_map]
      congr 2
      exact List.map_congr_left fun i hi => by simp only [Function.comp]; rw [hb i (by have := h2 i hi; omega)]
    · obtain ⟨j, hj, e⟩ := List.mem_map.1 hi
      rw [← e]
      exact hl j (by have := h2 j hj; omega)

theorem reps_map (hsc : ∀ (x : SC) (v : Value), x.Rep w' Ho g' v → (renSC ρ V x).Rep w' Hn g v) {l : List SC} {vs : List Value} (hr : Reps w' Ho g' l vs) : Reps w' Hn g (l.map (renSC ρ V)) vs := by
  refine ⟨by rw [hr.1, List.length_map], fun j c v h1 h2 => ?_⟩
  rw [List.getElem?_map] at h1
  cases hj : l[j]? with
  | none => rw [hj] at h1; simp at h1
  | some x =>
    rw [hj] at h1
    simp at h1
    subst h1
    exact hsc _ _ (hr.2 j x v hj h2)

theorem renSV_rep (hsc : ∀ (x : SC) (v : Value), x.Rep w' Ho g' v → (renSC ρ V x).Rep w' Hn g v) {x : SV} {v : Value} (hr : x.Rep w' Ho g' v) : (renSV ρ V x).Rep w' Hn g v := by
  cases x with
  | c x => exact hsc _ _ hr
  | agg l =>
    obtain ⟨vs, e, h1, h2⟩ := hr
    exact ⟨vs, e, reps_map hsc h1, h2⟩
  | tup l =>
    obtain ⟨vs, e, h1, h2⟩ := hr
    refine ⟨vs, e, by rw [h1, List.length_map], fun j p u q1 q2 => ?_⟩
    rw [List.getElem?_map] at q1
    cases hj : l[j]? with
    | none => rw [hj] at q1; simp at q1
    | some x =>
      rw [hj] at q1
      simp at q1
      subst q1
      obtain ⟨us, r1, r2, r3⟩ := h2 j x u hj q2
      exact ⟨us, reps_map hsc r1, r2, r3⟩

/-- A call with a small heap of its own, within a larger one. -/
theorem frame_sound (hs : Sat B X w0 H g w) (hn0 : H0.length = n) (hnn : Ho.length = n) (hinj : ∀ k k', k < n → k' < n → ρ k = ρ k' → k = k') (hents : sameEnts ρ n H 0 H0)
    (hV : ∀ k, k < n → V k = verAt H (ρ k)) (hlen : Hn.length = H.length) (hget : ∀ k, k < n → Hn[ρ k]? = (Ho[k]?).map (renEnt ρ V k)) (hoth : ∀ i, (∀ k, k < n → ρ k ≠ i) → Hn[i]? = H[i]?)
    {args args0 : List SV} {vals : List Value} (hargs : sameVs ρ n H args0 args) (ha : ArgsRep w H g args vals) {res : SV} :
    ∃ B0 X0 g0, Sat B0 X0 w H0 g0 w ∧ ArgsRep w H0 g0 args0 vals ∧
      ∀ w' g' v, Sat B0 X0 w Ho g' w' → Evo w H0 g0 w' Ho g' → res.Rep w' Ho g' v → ∃ gn, Sat B X w0 Hn gn w' ∧ Evo w H g w' Hn gn ∧ (renSV ρ V res).Rep w' Hn gn v := by
  have hg := sameEnts_get H0 0 hents
  have hent : ∀ k, k < n → ∃ e e', H0[k]? = some e ∧ H[ρ k]? = some e' ∧ Ent.same ρ n H e e' := fun k hk => by
    have h1 : H0[k]? = some H0[k] := List.getElem?_eq_getElem (by omega)
    obtain ⟨e', h2, h3⟩ := hg k _ h1
    exact ⟨_, e', h1, by rw [Nat.zero_add] at h2; exact h2, h3⟩
  have hρ : ∀ k, k < n → ρ k < H.length := fun k hk => by
    obtain ⟨_, _, _, h, _⟩ := hent k hk
    exact (List.getElem?_eq_some_iff.1 h).1
  let X0 : Nat → Prop := fun b => ∃ k e, k < n ∧ H[ρ k]? = some e ∧ e.blocks g (ρ k) b
  let ok0 : Nat → Prop := fun b => g.ok b ∧ ∀ i e, (∀ k, k < n → ρ k ≠ i) → H[i]? = some e → ¬ e.blocks g i b
  let g0 : Gh := ⟨fun k => g.b (ρ k), fun k => g.v (ρ k), ok0⟩
  have hbl : ∀ k e e' b, H0[k]? = some e → H[ρ k]? = some e' → Ent.same ρ n H e e' → (e.blocks g0 k b ↔ e'.blocks g (ρ k) b) := fun k e e' b _ _ h => Ent.same_blocks rfl rfl h
  have hown0 : ∀ b, Owned H0 g0 b → X0 b := by
    rintro b ⟨k, e, h1, h2⟩
    have hk : k < n := by rw [← hn0]; exact (List.getElem?_eq_some_iff.1 h1).1
    obtain ⟨e1, e', q1, q2, q3⟩ := hent k hk
    rw [h1] at q1; cases q1
    exact ⟨k, e', hk, q2, (hbl k e e' b h1 q2 q3).1 h2⟩
  have hX0own : ∀ b, X0 b → Owned H g b := by
    rintro b ⟨k, e, _, h1, h2⟩
    exact ⟨ρ k, e, h1, h2⟩
  have hst : ∀ b, b < w.heap.size → Stable H g b → Stable H0 g0 b := fun b _ hb =>
    ⟨⟨hb.1, fun i e _ h1 h2 => hb.2 ⟨i, e, h1, h2⟩⟩, fun h => hb.2 (hX0own b (hown0 b h))⟩
  have hrow : ∀ k e t v xs, k < n → H[ρ k]? = some (.row e t v xs) → ∃ e' t' xs', H0[k]? = some (.row e' t' 0 xs') := fun k e t v xs hk hh => by
    obtain ⟨e1, e2, q1, q2, q3⟩ := hent k hk
    rw [hh] at q2; cases q2
    cases e1 with
    | dead => exact q3.elim
    | blk => exact q3.elim
    | tab => exact q3.elim
    | row e' t' v' xs' =>
      simp only [Ent.same] at q3
      cases hb : (Nat.beq e' e && Nat.beq v' 0) with
      | false => rw [hb] at q3; exact q3.elim
      | true =>
        rw [Bool.and_eq_true] at hb
        have := Nat.eq_of_beq_eq_true hb.2
        subst this
        exact ⟨e', t', xs', q1⟩
  have hsc : ∀ (x y : SC) (v : Value), SC.same ρ n H x y → y.Rep w H g v → x.Rep w H0 g0 v := fun x y v h hr => SC.same_rep (ρ := ρ) (g := g) (g0 := g0) (fun _ _ => rfl) (fun _ _ => rfl) hn0 hrow hst h hr
  have hX0lt : ∀ b, X0 b → b < w.heap.size := by
    rintro b ⟨k, e, _, h1, h2⟩
    exact (hs.ents _ _ h1).lt b h2
  have hX0mine : ∀ b, X0 b → B ≤ b ∨ X b := by
    rintro b ⟨k, e, _, h1, h2⟩
    exact (hs.ents _ _ h1).mine b h2
  have hX0oth : ∀ b, X0 b → ∀ i e, (∀ k, k < n → ρ k ≠ i) → H[i]? = some e → ¬ e.blocks g i b := by
    rintro b ⟨k, e, hk, h1, h2⟩ i f hi hf hfb
    exact hi k hk (hs.apart _ _ _ _ b h1 hf h2 hfb)
  refine ⟨w.heap.size, X0, g0, ?_, sameVs_rep hsc hargs ha, ?_⟩
  · refine ⟨rfl, rfl, rfl, Nat.le_refl _, Nat.le_refl _, ?_, fun _ _ _ => rfl, fun k e hk => ?_, fun i j e f b hi hj hbi hbj => ?_⟩
    · rintro b (hb | hb)
      · refine ⟨hs.okB b (.inl (Nat.le_trans hs.hB hb)), fun i e _ h1 h2 => ?_⟩
        have := (hs.ents _ _ h1).lt b h2
        omega
      · exact ⟨hs.okB b (hX0mine b hb), hX0oth b hb⟩
    · have hkn : k < n := by rw [← hn0]; exact (List.getElem?_eq_some_iff.1 hk).1
      obtain ⟨e1, e', q1, q2, q3⟩ := hent k hkn
      rw [hk] at q1; cases q1
      have hX : ∀ b, e'.blocks g (ρ k) b → w.heap.size ≤ b ∨ X0 b := fun b hb => .inr ⟨k, e', hkn, q2, hb⟩
      have hO := hs.ents _ _ q2
      match e, e', q3, hO, hX with
      | .blk ty cs, .blk ty' cs', q3, ⟨vs, h1, h2, h3, h4⟩, hX =>
        simp only [Ent.same] at q3
        cases hb : Nat.beq ty ty' with
        | false => rw [hb] at q3; exact q3.elim
        | true =>
          rw [hb] at q3
          have := Nat.eq_of_beq_eq_true hb
          subst this
          exact ⟨vs, h1, sameL_rep hsc q3 h2, h3, hX _ rfl⟩
      | .row ty t v xs, .row ty' t' v' xs', q3, ⟨cells, h1, h2, h3, h4⟩, hX =>
        simp only [Ent.same] at q3
        cases hb : (Nat.beq ty ty' && Nat.beq v 0) with
        | false => rw [hb] at q3; exact q3.elim
        | true =>
          rw [hb] at q3
          rw [Bool.and_eq_true] at hb
          have := Nat.eq_of_beq_eq_true hb.1
          subst this
          simp only [cond_true] at q3
          split at q3
          · rename_i ht
            subst ht
            subst q3
            exact ⟨cells, h1, h2.mono (fun _ _ h => Ty.Rep.stable h hst) (fun _ _ h => h), h3, fun b hb => hX b hb⟩
          · exact q3.elim
    · have hin : i < n := by rw [← hn0]; exact (List.getElem?_eq_some_iff.1 hi).1
      have hjn : j < n := by rw [← hn0]; exact (List.getElem?_eq_some_iff.1 hj).1
      obtain ⟨_, e', q1, q2, q3⟩ := hent i hin
      rw [hi] at q1; cases q1
      obtain ⟨_, f', p1, p2, p3⟩ := hent j hjn
      rw [hj] at p1; cases p1
      exact hinj i j hin hjn (hs.apart _ _ _ _ b q2 p2 ((hbl i _ _ b hi q2 q3).1 hbi) ((hbl j _ _ b hj p2 p3).1 hbj))
  · intro w' g' v hs' hev hr
    -- the larger heap's blocks
    have hdec : ∀ i : Nat, (∃ k, k < n ∧ ρ k = i) ∨ ∀ k, k < n → ρ k ≠ i := fun i => by
      by_cases h : ∃ k, k < n ∧ ρ k = i
      · exact .inl h
      · exact .inr fun k hk e => h ⟨k, hk, e⟩
    let ix : Nat → Nat := fun i => if h : ∃ k, k < n ∧ ρ k = i then h.choose else n
    have hix : ∀ k, k < n → ix (ρ k) = k := fun k hk => by
      have h : ∃ k', k' < n ∧ ρ k' = ρ k := ⟨k, hk, rfl⟩
      show (if h : ∃ k', k' < n ∧ ρ k' = ρ k then h.choose else n) = k
      rw [dif_pos h]
      exact hinj _ _ h.choose_spec.1 hk h.choose_spec.2
    have hix2 : ∀ i, (∀ k, k < n → ρ k ≠ i) → ix i = n := fun i hi => dif_neg (by rintro ⟨k, hk, e⟩; exact hi k hk e)
    let gn : Gh := ⟨fun i => if ix i < n then g'.b (ix i) else g.b i, fun i => if ix i < n then g'.v (ix i) else g.v i, g.ok⟩
    have gb : ∀ k, k < n → gn.b (ρ k) = g'.b k := fun k hk => by show (if ix (ρ k) < n then _ else _) = _; rw [hix k hk, if_pos hk]
    have gv : ∀ k, k < n → gn.v (ρ k) = g'.v k := fun k hk => by show (if ix (ρ k) < n then _ else _) = _; rw [hix k hk, if_pos hk]
    have gb2 : ∀ i, (∀ k, k < n → ρ k ≠ i) → gn.b i = g.b i := fun i hi => by show (if ix i < n then _ else _) = _; rw [hix2 i hi, if_neg (Nat.lt_irrefl _)]
    have gv2 : ∀ i, (∀ k, k < n → ρ k ≠ i) → gn.v i = g.v i := fun i hi => by show (if ix i < n then _ else _) = _; rw [hix2 i hi, if_neg (Nat.lt_irrefl _)]
    have hbn : ∀ k e b, k < n → ((renEnt ρ V k e).blocks gn (ρ k) b ↔ e.blocks g' k b) := fun k e b hk => by
      cases e with
      | dead => exact Iff.rfl
      | blk => unfold renEnt Ent.blocks; rw [gb k hk]
      | tab => unfold renEnt Ent.blocks; rw [gb k hk]
      | row => unfold renEnt Ent.blocks; rw [gv k hk]
    have hHn : ∀ i e, Hn[i]? = some e → (∃ k e1, k < n ∧ ρ k = i ∧ Ho[k]? = some e1 ∧ e = renEnt ρ V k e1) ∨ ((∀ k, k < n → ρ k ≠ i) ∧ H[i]? = some e) := fun i e hi => by
      rcases hdec i with ⟨k, hk, ek⟩ | h
      · subst ek
        rw [hget k hk] at hi
        cases hq : Ho[k]? with
        | none => rw [hq] at hi; simp at hi
        | some e1 => rw [hq] at hi; simp at hi; exact .inl ⟨k, e1, hk, rfl, hq, hi.symm⟩
      · exact .inr ⟨h, by rw [← hoth i h]; exact hi⟩
    have hmine' : ∀ b, Owned Ho g' b → w.heap.size ≤ b ∨ X0 b := by
      rintro b ⟨k, e, h1, h2⟩
      exact (hs'.ents _ _ h1).mine b h2
    have hold : ∀ b, b < w.heap.size → ¬ X0 b → w'.heap[b]? = w.heap[b]? := hs'.old
    have hownn : ∀ b, Owned Hn gn b → Owned Ho g' b ∨ ∃ i e, (∀ k, k < n → ρ k ≠ i) ∧ H[i]? = some e ∧ e.blocks g i b := by
      rintro b ⟨i, e, h1, h2⟩
      rcases hHn i e h1 with ⟨k, e1, hk, ek, hq, ee⟩ | ⟨hi, hq⟩
      · subst ek; subst ee
        exact .inl ⟨k, e1, hq, (hbn k e1 b hk).1 h2⟩
      · exact .inr ⟨i, e, hi, hq, (Ent.blocks_congr (gb2 i hi) (gv2 i hi)).1 h2⟩
    have hev' : Evo w H g w' Hn gn := by
      refine ⟨rfl, ⟨hs'.size0, fun b hb hb2 => ⟨⟨hb2.1, fun h => ?_⟩, hold b hb fun h => hb2.2 (hX0own b h)⟩⟩, by omega, fun i hi => ?_, fun i e t ver xs hi hrr => ?_⟩
      · rcases hownn b h with h1 | ⟨i, e, _, h1, h2⟩
        · rcases hmine' b h1 with h2 | h2
          · omega
          · exact hb2.2 (hX0own b h2)
        · exact hb2.2 ⟨i, e, h1, h2⟩
      · rcases hdec i with ⟨k, hk, ek⟩ | h
        · subst ek
          rw [gb k hk]
          exact hev.ptr k (by omega)
        · exact gb2 i h
      · rcases hHn i _ hrr with ⟨k, e1, hk, ek, hq, ee⟩ | ⟨hi2, hq⟩
        · subst ek
          cases e1 with
          | dead => cases ee
          | blk => cases ee
          | tab => cases ee
          | row e' t' ver' xs' =>
            simp only [renEnt, Ent.row.injEq] at ee
            obtain ⟨rfl, rfl, rfl, hxs⟩ := ee
            cases hxs
            obtain ⟨ver0, xs0, r1, r2⟩ := hev.row k _ _ _ _ (by omega) hq
            obtain ⟨e1, e2, q1, q2, q3⟩ := hent k hk
            rw [r1] at q1; cases q1
            cases e2 with
            | dead => exact q3.elim
            | blk => exact q3.elim
            | tab => exact q3.elim
            | row e2 t2 v2 xs2 =>
              simp only [Ent.same] at q3
              cases hb : (Nat.beq e e2 && Nat.beq ver0 0) with
              | false => rw [hb] at q3; exact q3.elim
              | true =>
                rw [hb] at q3
                rw [Bool.and_eq_true] at hb
                have h1 := Nat.eq_of_beq_eq_true hb.1
                have h2 := Nat.eq_of_beq_eq_true hb.2
                subst h1; subst h2
                simp only [cond_true] at q3
                split at q3
                · rename_i ht
                  subst ht
                  have hVk : V k = v2 := by rw [hV k hk]; unfold verAt; rw [q2]
                  refine ⟨v2, xs2, q2, ?_⟩
                  rcases r2 with r2 | ⟨r2, r3, r4⟩
                  · exact .inl (by omega)
                  · exact .inr ⟨by omega, by rw [← r3, ← q3], by rw [gv k hk, r4]⟩
                · exact q3.elim
        · exact ⟨ver, xs, hq, .inr ⟨rfl, rfl, gv2 i hi2⟩⟩
    have hstn : ∀ b, b < w'.heap.size → Stable Ho g' b → Stable Hn gn b := fun b _ hb => by
      have hok : ok0 b := by have := hb.1; rw [hev.ok] at this; exact this
      refine ⟨hok.1, fun h => ?_⟩
      rcases hownn b h with h1 | ⟨i, e, hi, h1, h2⟩
      · exact hb.2 h1
      · exact hok.2 i e hi h1 h2
    have hscn : ∀ (x : SC) (v : Value), x.Rep w' Ho g' v → (renSC ρ V x).Rep w' Hn gn v := fun x v hr => ren_rep gb gv hnn (fun k hk => by rw [hlen]; exact hρ k hk) hget hstn hr
    refine ⟨gn, ⟨hs'.os.trans hs.os, hs'.tape.trans hs.tape, hs'.output.trans hs.output, Nat.le_trans hs.size0 hs'.size0, Nat.le_trans hs.hB hs'.size0, hs.okB, fun b hb hx => ?_, fun i e hi => ?_, fun i j e f b hi hj hbi hbj => ?_⟩, hev', renSV_rep hscn hr⟩
    · rw [hold b (Nat.lt_of_lt_of_le hb hs.hB) fun h => ?_]
      · exact hs.old b hb hx
      · rcases hX0mine b h with h1 | h1
        · omega
        · exact hx h1
    · rcases hHn i e hi with ⟨k, e1, hk, ek, hq, ee⟩ | ⟨hi2, hq⟩
      · subst ek; subst ee
        have hO := hs'.ents k e1 hq
        have hm : ∀ b, w.heap.size ≤ b ∨ X0 b → B ≤ b ∨ X b := fun b hb => by
          rcases hb with hb | hb
          · exact .inl (Nat.le_trans hs.hB hb)
          · exact hX0mine b hb
        match e1, hO with
        | .dead, _ => trivial
        | .blk ty cs, ⟨vs, h1, h2, h3, h4⟩ =>
          refine ⟨vs, by rw [gb k hk]; exact h1, reps_map hscn h2, h3, ?_⟩
          rw [gb k hk]
          exact hm _ h4
        | .row ty t v xs, ⟨cells, h1, h2, h3, h4⟩ =>
          refine ⟨cells, by rw [gv k hk]; exact h1, h2.mono (fun _ _ h => Ty.Rep.stable h hstn) (fun _ _ h => h), h3, ?_⟩
          rw [gv k hk]
          exact fun b hb => hm b (h4 b hb)
        | .tab a t es, ⟨ents, clock, h1, ⟨q1, q2, q3⟩, h4⟩ =>
          refine ⟨ents, clock, by rw [gb k hk]; exact h1, ⟨q1, q2, fun k p m u1 u2 => ?_⟩, ?_⟩
          · obtain ⟨r1, r2⟩ := q3 k p m u1 u2
            refine ⟨r1, ?_⟩
            split
            · rename_i hc; rw [if_pos hc] at r2; obtain ⟨cs, e, r2⟩ := r2; exact ⟨cs, e, Ty.Rep.stable r2 hstn⟩
            · rename_i hc; rw [if_neg hc] at r2; exact Ty.Rep.stable r2 hstn
          · rw [gb k hk]
            exact hm _ h4
      · exact (hs.ents i e hq).evo hev' (gb2 i hi2) (gv2 i hi2) fun b hb => hold b ((hs.ents i e hq).lt b hb) fun hx => hX0oth b hx i e hi2 hq hb
    · rcases hHn i e hi with ⟨k, e1, hk, ek, hq, ee⟩ | ⟨hi2, hq⟩ <;> rcases hHn j f hj with ⟨m, f1, hm, em, hp, ff⟩ | ⟨hj2, hp⟩
      · subst ek; subst ee; subst em; subst ff
        rw [hs'.apart k m e1 f1 b hq hp ((hbn k e1 b hk).1 hbi) ((hbn m f1 b hm).1 hbj)]
      · subst ek; subst ee
        have h1 := (hbn k e1 b hk).1 hbi
        have h2 := (Ent.blocks_congr (gb2 j hj2) (gv2 j hj2)).1 hbj
        rcases hmine' b ⟨k, e1, hq, h1⟩ with h3 | h3
        · have := (hs.ents j f hp).lt b h2; omega
        · exact absurd h2 (hX0oth b h3 j f hj2 hp)
      · subst em; subst ff
        have h1 := (hbn m f1 b hm).1 hbj
        have h2 := (Ent.blocks_congr (gb2 i hi2) (gv2 i hi2)).1 hbi
        rcases hmine' b ⟨m, f1, hp, h1⟩ with h3 | h3
        · have := (hs.ents i e hq).lt b h2; omega
        · exact absurd h2 (hX0oth b h3 i e hi2 hq)
      · exact hs.apart i j e f b hq hp ((Ent.blocks_congr (gb2 i hi2) (gv2 i hi2)).1 hbi) ((Ent.blocks_congr (gb2 j hj2) (gv2 j hj2)).1 hbj)
end
end Go.SX

/- SX, part R: such contracts: from a body, and at a call. -/
namespace Go.SX
open Go Go.RowKit

/-- A function that is handed some rows and variables (entries) and may write them. -/
structure HC where
  f : FuncId
  X : Type
  Hs : X → List Ent
  ags : X → List SV
  Pre : X → Prop
  res : X → SV
  out : X → List Ent
  fr : Nat → Bool

def HeapOK (P : Program) (c : HC) : Prop :=
  (∃ fn, P.funcs[c.f]? = some fn ∧ (fn.name == "runtime.NumGoroutine") = false ∧ fn.body.isNone = false) ∧
  ∀ x, c.Pre x → ∀ B X w0 g w vals, Sat B X w0 (c.Hs x) g w → ArgsRep w (c.Hs x) g (c.ags x) vals →
    Calls P c.f vals.toArray w fun e w' => ∃ v g', e = .returned v ∧ Sat B X w0 (c.out x) g' w' ∧ Evo w (c.Hs x) g w' (c.out x) g' ∧ (c.res x).Rep w' (c.out x) g' v

/-- Versions of rows that may lie elsewhere afterwards. -/
def verOK (fr : Nat → Bool) : Nat → List Ent → List Ent → Prop
  | _, [], [] => True
  | k, a :: r, b :: s => (match a, b with
    | .row _ _ v _, .row _ _ v' _ => bif fr k then (bif Nat.blt v v' then True else False) else True
    | _, _ => True) ∧ verOK fr (k + 1) r s
  | _, _, _ => False

/-- What is to be shown of the body. -/
def HVC (C : Ctx) (fn : Func) (c : HC) (x : c.X) : Prop :=
  runBody C fn (c.ags x) (c.Hs x) fun sv H => SV.leR H (c.out x) sv (c.res x) ∧ entsLe c.fr H (c.out x) 0 H (c.out x)

abbrev Pick (X : Type) := List SV → List Ent → (X → List Nat → Prop) → Prop

/-- Such a contract at a call. -/
def heapSpec (c : HC) (pick : Pick c.X) : Spec := fun args H K => pick args H fun x js =>
  (bif ndL js && (js.all fun j => Nat.blt j H.length) && Nat.beq js.length (c.Hs x).length then True else False) ∧ sameEnts (atL js) (c.Hs x).length H 0 (c.Hs x) ∧ sameVs (atL js) (c.Hs x).length H (c.ags x) args ∧ c.Pre x ∧
    K (renSV (atL js) (fun k => verAt H (atL js k)) (c.res x)) (updH js (renEnts (atL js) (fun k => verAt H (atL js k)) 0 (c.out x)) H)

section
variable {P : Program} {C : Ctx}

theorem verOK_len {fr : Nat → Bool} : {k : Nat} → {l m : List Ent} → verOK fr k l m → l.length = m.length
  | _, [], [], _ => rfl
  | _, _ :: _, _ :: _, h => by simp [verOK_len h.2]
  | _, [], _ :: _, h => h.elim
  | _, _ :: _, [], h => h.elim
theorem verOK_get {fr : Nat → Bool} : {k : Nat} → {l m : List Ent} → verOK fr k l m → ∀ i e t v xs e' t' v' xs', fr (k + i) = true → l[i]? = some (.row e t v xs) → m[i]? = some (.row e' t' v' xs') → v < v'
  | _, [], [], _, i, e, t, v, xs, e', t', v', xs', _, h, _ => by simp at h
  | k, a :: r, b :: s, h, i, e, t, v, xs, e', t', v', xs', hf, h1, h2 => by
    cases i with
    | zero =>
      simp at h1 h2
      subst h1; subst h2
      have h := h.1
      simp only at h
      rw [Nat.add_zero] at hf
      rw [hf] at h
      cases hb : Nat.blt v v' with
      | false => rw [hb] at h; exact h.elim
      | true => exact Nat.le_of_ble_eq_true hb
    | succ i => exact verOK_get h.2 i e t v xs e' t' v' xs' (by rw [show k + 1 + i = k + (i + 1) by omega]; exact hf) (by simpa using h1) (by simpa using h2)

theorem compsLe_sound {w : World} {H H' : List Ent} {g : Gh} {fresh : Nat → Bool} {B0 : Nat} {X0 : Nat → Prop} {v0 : World} (hs : Sat B0 X0 v0 H g w) (hH : LeH fresh H H') : {l m : List (Bool × List SC)} → {vs : List Value} → compsLe H H' l m → vs.length = l.length →
    (∀ (j : Nat) (p : Bool × List SC) (u : Value), l[j]? = some p → vs[j]? = some u → CompRep w H g p u) → vs.length = m.length ∧ ∀ (j : Nat) (p : Bool × List SC) (u : Value), m[j]? = some p → vs[j]? = some u → CompRep w H' g p u
  | [], [], vs, _, hl, _ => ⟨hl, fun j p u h => by simp at h⟩
  | p :: r, q :: s, [], _, hl, _ => by simp at hl
  | p :: r, q :: s, v :: vs, h, hl, hr => by
    obtain ⟨h1, h2⟩ := h
    obtain ⟨k1, k2⟩ := compsLe_sound hs hH h2 (by simpa using hl) (fun j p u q1 q2 => hr (j + 1) p u (by simpa using q1) (by simpa using q2))
    refine ⟨by simp [k1], fun j p' u q1 q2 => ?_⟩
    cases j with
    | zero =>
      simp at q1 q2; subst q1; subst q2
      obtain ⟨us, r1, r2, r3⟩ := hr 0 p v rfl rfl
      cases hb : (p.1 == q.1) with
      | false => rw [hb] at h1; exact h1.elim
      | true =>
        rw [hb] at h1
        have e : p.1 = q.1 := by simpa using hb
        exact ⟨us, leL_sound hs hH h1 r1, r2, by rw [← e]; exact r3⟩
    | succ j => exact k2 j p' u (by simpa using q1) (by simpa using q2)
  | [], _ :: _, _, h, _, _ => h.elim
  | _ :: _, [], _, h, _, _ => h.elim

theorem leR_sound {w : World} {H H' : List Ent} {g : Gh} {fresh : Nat → Bool} {B0 : Nat} {X0 : Nat → Prop} {v0 : World} (hs : Sat B0 X0 v0 H g w) (hH : LeH fresh H H') {x y : SV} {v : Value} (h : SV.leR H H' x y) (hr : x.Rep w H g v) : y.Rep w H' g v := by
  unfold SV.leR at h
  split at h
  · obtain ⟨vs, e, h1, h2⟩ := hr
    obtain ⟨k1, k2⟩ := compsLe_sound hs hH h h1 h2
    exact ⟨vs, e, k1, k2⟩
  · exact SV.le_sound hs hH h hr

/-- A contract, from the executor's run of the body. -/
theorem heap_of_vc {c : HC} {fn : Func} {x : c.X} (hC : CtxOK P C) (hf : P.funcs[c.f]? = some fn) (hv : verOK c.fr 0 (c.Hs x) (c.out x)) (h : HVC C fn c x) {B : Nat} {X : Nat → Prop} {w0 : World} {g : Gh} {w : World} {vals : List Value}
    (hs : Sat B X w0 (c.Hs x) g w) (ha : ArgsRep w (c.Hs x) g (c.ags x) vals) :
    Calls P c.f vals.toArray w fun e w' => ∃ v g', e = .returned v ∧ Sat B X w0 (c.out x) g' w' ∧ Evo w (c.Hs x) g w' (c.out x) g' ∧ (c.res x).Rep w' (c.out x) g' v := by
  refine (body_calls hC hf h hs ha).mono ?_
  rintro e w' ⟨v, rfl, sv, H', g', ⟨hk1, hk2⟩, hs', hev, hr⟩
  have hH : LeH c.fr H' (c.out x) := fun i e' hi => by
    obtain ⟨e, q1, q2⟩ := entsLe_sound H' (c.out x) 0 hk2 i e' hi
    rw [Nat.zero_add] at q2
    exact ⟨e, q1, q2⟩
  refine ⟨v, g', rfl, ⟨hs'.os, hs'.tape, hs'.output, hs'.size0, hs'.hB, hs'.okB, hs'.old, fun i e' hi => ?_, fun i j e' f' b hi hj hbi hbj => ?_⟩, ⟨hev.ok, hev.keeps.trans hH.keeps, by rw [verOK_len hv]; exact Nat.le_refl _, fun i hi => hev.ptr i hi, fun i e t ver xs hi hr' => ?_⟩, leR_sound hs' hH hk1 hr⟩
  · obtain ⟨e, q1, q2⟩ := hH i e' hi
    exact Ent.le_OK hs' hH q2 (hs'.ents i e q1)
  · obtain ⟨e, q1, q2⟩ := hH i e' hi
    obtain ⟨f, q3, q4⟩ := hH j f' hj
    exact hs'.apart i j e f b q1 q3 (Ent.le_blocks q2 hbi) (Ent.le_blocks q4 hbj)
  · obtain ⟨e0, q1, q2⟩ := hH i _ hr'
    cases e0 with
    | dead => exact q2.elim
    | blk => exact q2.elim
    | tab => exact q2.elim
    | row e1 t1 ver1 xs1 =>
      simp only [Ent.le] at q2
      cases hb : (Nat.beq e1 e && (c.fr i || Nat.beq ver1 ver)) with
      | false => rw [hb] at q2; exact q2.elim
      | true =>
        rw [hb] at q2
        rw [Bool.and_eq_true] at hb
        have e1e := Nat.eq_of_beq_eq_true hb.1
        subst e1e
        simp only [cond_true] at q2
        split at q2
        · rename_i htt
          subst htt
          subst q2
          obtain ⟨ver0, xs0, r1, r2⟩ := hev.row i _ _ _ _ hi q1
          refine ⟨ver0, xs0, r1, ?_⟩
          cases hfr : c.fr i with
          | true => exact .inl (verOK_get hv i _ _ _ _ _ _ _ _ (by rw [Nat.zero_add]; exact hfr) r1 hr')
          | false =>
            rw [hfr] at hb
            have : ver1 = ver := Nat.eq_of_beq_eq_true (by simpa using hb.2)
            subst this
            exact r2
        · exact q2.elim

/-! ### At a call -/

theorem ndL_inj : {js : List Nat} → ndL js = true → ∀ k k', k < js.length → k' < js.length → atL js k = atL js k' → k = k'
  | [], _, k, k', h, _, _ => by simp at h
  | j :: r, h, k, k', hk, hk', e => by
    simp only [ndL, Bool.and_eq_true, Bool.not_eq_true', List.any_eq_false] at h
    have hno : ∀ m, m < r.length → atL r m ≠ j := fun m hm e' => by
      have := h.1 (atL r m) (mem r m hm)
      rw [e'] at this
      exact this (by simp)
    cases k with
    | zero =>
      cases k' with
      | zero => rfl
      | succ k' => exact absurd e.symm (hno k' (by simpa using hk'))
    | succ k =>
      cases k' with
      | zero => exact absurd e (hno k (by simpa using hk))
      | succ k' => rw [ndL_inj h.2 k k' (by simpa using hk) (by simpa using hk') e]
where
  mem : (r : List Nat) → (m : Nat) → m < r.length → atL r m ∈ r
    | [], m, h => by simp at h
    | j :: r, 0, _ => List.mem_cons_self
    | j :: r, m + 1, h => List.mem_cons_of_mem _ (mem r m (by simpa using h))

theorem updH_len : (js : List Nat) → (es H : List Ent) → (updH js es H).length = H.length
  | [], es, H => by unfold updH; cases es <;> rfl
  | j :: js, [], H => rfl
  | j :: js, e :: es, H => by unfold updH; rw [updH_len js es]; simp
theorem updH_oth : (js : List Nat) → (es H : List Ent) → (i : Nat) → (∀ k, k < js.length → atL js k ≠ i) → (updH js es H)[i]? = H[i]?
  | [], es, H, i, _ => by unfold updH; cases es <;> rfl
  | j :: js, [], H, i, _ => rfl
  | j :: js, e :: es, H, i, h => by
    unfold updH
    rw [updH_oth js es _ i fun k hk => h (k + 1) (by simpa using hk), List.getElem?_set_ne (show j ≠ i from h 0 (by simp))]
theorem updH_get : (js : List Nat) → (es H : List Ent) → (∀ k k', k < js.length → k' < js.length → atL js k = atL js k' → k = k') → (∀ k, k < js.length → atL js k < H.length) → es.length = js.length → ∀ k, k < js.length → (updH js es H)[atL js k]? = es[k]?
  | [], es, H, _, _, _, k, hk => by simp at hk
  | j :: js, [], H, _, _, hl, _, _ => by simp at hl
  | j :: js, e :: es, H, hinj, hlt, hl, k, hk => by
    unfold updH
    cases k with
    | zero =>
      rw [show atL (j :: js) 0 = j from rfl, updH_oth js es _ j fun m hm e' => by
        have := hinj (m + 1) 0 (by simpa using hm) (by simp) e'
        omega]
      rw [List.getElem?_set_self (show j < H.length from hlt 0 (by simp))]
      rfl
    | succ k =>
      rw [show atL (j :: js) (k + 1) = atL js k from rfl, updH_get js es (H.set j e) (fun k k' hk hk' e => by
        have := hinj (k + 1) (k' + 1) (by simpa using hk) (by simpa using hk') e
        omega) (fun k hk => by rw [List.length_set]; exact hlt (k + 1) (by simpa using hk)) (by simpa using hl) k (by simpa using hk)]
      simp
theorem renEnts_get (ρ V : Nat → Nat) : (l : List Ent) → (m k : Nat) → (renEnts ρ V m l)[k]? = (l[k]?).map (renEnt ρ V (m + k))
  | [], m, k => by simp [renEnts]
  | e :: r, m, k => by
    cases k with
    | zero => simp [renEnts]
    | succ k => rw [show m + (k + 1) = m + 1 + k by omega]; simpa [renEnts] using renEnts_get ρ V r (m + 1) k
theorem renEnts_len (ρ V : Nat → Nat) : (l : List Ent) → (m : Nat) → (renEnts ρ V m l).length = l.length
  | [], m => rfl
  | e :: r, m => by simp [renEnts, renEnts_len ρ V r (m + 1)]

/-- The contract serves the executor. -/
theorem HeapOK.spec {c : HC} (h : HeapOK P c) (hv : ∀ x, verOK c.fr 0 (c.Hs x) (c.out x)) {pick : Pick c.X} (hp : ∀ args H K, pick args H K → ∃ x js, K x js) : SpecOK P c.f (heapSpec c pick) := by
  refine ⟨h.1, fun B X w0 H g w args vals K hsp hs ha => ?_⟩
  obtain ⟨x, js, h1, h2, h3, h4, h5⟩ := hp _ _ _ hsp
  cases hb : (ndL js && (js.all fun j => Nat.blt j H.length) && Nat.beq js.length (c.Hs x).length) with
  | false => rw [hb] at h1; exact h1.elim
  | true =>
    simp only [Bool.and_eq_true] at hb
    have e1 := Nat.eq_of_beq_eq_true hb.2
    have hinj := ndL_inj hb.1.1
    have hlt : ∀ k, k < js.length → atL js k < H.length := fun k hk => Nat.le_of_ble_eq_true (List.all_eq_true.1 hb.1.2 _ (ndL_inj.mem js k hk))
    have hol := verOK_len (hv x)
    obtain ⟨B0, X0, g0, a1, a2, a3⟩ := frame_sound (n := (c.Hs x).length) (ρ := atL js) (V := fun k => verAt H (atL js k)) (Hn := updH js (renEnts (atL js) (fun k => verAt H (atL js k)) 0 (c.out x)) H) (Ho := c.out x) (res := c.res x)
      hs rfl hol.symm (fun k k' hk hk' e => hinj k k' (by omega) (by omega) e) h2 (fun _ _ => rfl) (updH_len _ _ _)
      (fun k hk => by rw [updH_get js _ H hinj hlt (by rw [renEnts_len]; omega) k (by omega), renEnts_get, Nat.zero_add]) (fun i hi => updH_oth js _ H i fun k hk => hi k (by omega)) h3 ha
    refine (h.2 x h4 B0 X0 w g0 w vals a1 a2).mono ?_
    rintro e w' ⟨v, g', rfl, b1, b2, b3⟩
    obtain ⟨gn, c1, c2, c3⟩ := a3 w' g' v b1 b2 b3
    exact ⟨v, rfl, _, _, gn, h5, c1, c2, c3⟩

@[reducible] def HC.ci (c : HC) (pick : Pick c.X) : CI := ⟨c.f, heapSpec c pick, false, false⟩
theorem HeapOK.ci {c : HC} (h : HeapOK P c) (hv : ∀ x, verOK c.fr 0 (c.Hs x) (c.out x)) {pick : Pick c.X} (hp : ∀ args H K, pick args H K → ∃ x js, K x js) : (c.ci pick).OK P := ⟨h.spec hv hp, fun h => (by cases h)⟩

/-- The same contract where a measure is below a bound. -/
@[reducible] def HC.below (c : HC) (m : c.X → Nat) (n : Nat) : HC := ⟨c.f, c.X, c.Hs, c.ags, fun x => c.Pre x ∧ m x < n, c.res, c.out, c.fr⟩

/-- A function that calls itself. -/
theorem heap_rec {c : HC} {fn : Func} (m : c.X → Nat) (hf : P.funcs[c.f]? = some fn) (hn : (fn.name == "runtime.NumGoroutine") = false) (hb : fn.body.isNone = false) (hv : ∀ x, verOK c.fr 0 (c.Hs x) (c.out x)) (C : c.X → Ctx)
    (hC : ∀ x, HeapOK P (c.below m (m x)) → CtxOK P (C x)) (h : ∀ x, c.Pre x → HVC (C x) fn c x) : HeapOK P c := by
  have key : ∀ n, HeapOK P (c.below m n) := by
    intro n
    induction n with
    | zero => exact ⟨⟨fn, hf, hn, hb⟩, fun x hx => absurd hx.2 (Nat.not_lt_zero _)⟩
    | succ n ih =>
      refine ⟨⟨fn, hf, hn, hb⟩, fun x hx B X w0 g w vals hs ha => ?_⟩
      have hlow : HeapOK P (c.below m (m x)) := ⟨ih.1, fun y hy => ih.2 y ⟨hy.1, by have := hx.2; have := hy.2; omega⟩⟩
      exact heap_of_vc (hC x hlow) hf (hv x) (h x hx.1) hs ha
  exact ⟨⟨fn, hf, hn, hb⟩, fun x hx => (key (m x + 1)).2 x ⟨hx, Nat.lt_succ_self _⟩⟩

theorem heap_flat {c : HC} {fn : Func} (hf : P.funcs[c.f]? = some fn) (hn : (fn.name == "runtime.NumGoroutine") = false) (hb : fn.body.isNone = false) (hv : ∀ x, verOK c.fr 0 (c.Hs x) (c.out x)) (C : c.X → Ctx)
    (hC : ∀ x, CtxOK P (C x)) (h : ∀ x, c.Pre x → HVC (C x) fn c x) : HeapOK P c :=
  ⟨⟨fn, hf, hn, hb⟩, fun x hx _ _ _ _ _ _ hs ha => heap_of_vc (hC x) hf (hv x) (h x hx) hs ha⟩
end
attribute [irreducible] HVC
end Go.SX

/- SX, part S: functions that call themselves; results that may be nil. -/
namespace Go.SX
open Go Go.RowKit

section
variable {P : Program} {C : Ctx} {B : Nat} {X : Nat → Prop} {w0 w : World} {H : List Ent} {g : Gh}

/-- One call, by the executor's run of the body. -/
theorem pure_at {f : FuncId} {fn : Func} {as rs : List ATy} {F : ADen as → ADen rs} {x : ADen as} (hC : CtxOK P C) (hf : P.funcs[f]? = some fn) (h : PureVC C fn as rs F x) {ok : Nat → Prop} {vals : List Value} {w : World} (ha : ArgsR w ok as x vals) :
    Calls P f vals.toArray w fun e w' => ∃ v, e = .returned v ∧ ResR w' (fun b => ok b ∨ w.heap.size ≤ b) rs (F x) v ∧ Below w.heap.size w w' := by
  let g : Gh := ⟨fun _ => 0, fun _ => undef, fun b => ok b ∨ w.heap.size ≤ b⟩
  have hs : Sat w.heap.size (fun _ => False) w [] g w :=
    ⟨rfl, rfl, rfl, Nat.le_refl _, Nat.le_refl _, fun b hb => .inr (hb.elim id False.elim), fun _ _ _ => rfl, fun i e h => by simp at h, fun i j e f b h => by simp at h⟩
  have hargs : ArgsRep w [] g (argSVs as x) vals := argSVs_rep as (ArgsR.mono ⟨Nat.le_refl _, fun b _ h => ⟨⟨.inl h, by rintro ⟨i, e, h, _⟩; simp at h⟩, rfl⟩⟩ as ha)
  unfold PureVC at h
  refine (body_calls hC hf h hs hargs).mono ?_
  rintro e w' ⟨v, rfl, sv, H', g', hk, hs', hev, hr⟩
  obtain ⟨y, h1, rfl⟩ := resDat_sound hs' rs hr hk
  refine ⟨v, rfl, ?_, ⟨hs'.os, hs'.tape, hs'.output, hs'.size0, fun b hb => hs'.old b hb id⟩⟩
  rw [hev.ok] at h1
  exact h1

@[reducible] def PC.below (c : PC) (m : ADen c.as → Nat) (n : Nat) : PC := ⟨c.f, c.as, c.rs, fun x => c.Pre x ∧ m x < n, c.F⟩

/-- A function over plain data that calls itself. -/
theorem PC.rec_ok (c : PC) {fn : Func} (m : ADen c.as → Nat) (C : ADen c.as → Ctx) (hC : ∀ x, (c.below m (m x)).OK P → CtxOK P (C x)) (hf : P.funcs[c.f]? = some fn) (hn : (fn.name == "runtime.NumGoroutine") = false) (hb : fn.body.isNone = false)
    (h : ∀ x, c.Pre x → c.VC (C x) fn x) : c.OK P := by
  have key : ∀ n, (c.below m n).OK P := by
    intro n
    induction n with
    | zero => exact ⟨⟨fn, hf, hn, hb⟩, fun ok x vals w hx => absurd hx.2 (Nat.not_lt_zero _)⟩
    | succ n ih =>
      refine ⟨⟨fn, hf, hn, hb⟩, fun ok x vals w hx ha => ?_⟩
      have hlow : (c.below m (m x)).OK P := ⟨ih.1, fun ok y vals w hy ha => ih.2 ok y vals w ⟨hy.1, by have := hx.2; have := hy.2; omega⟩ ha⟩
      exact pure_at (hC x hlow) hf (h x hx.1) ha
  exact ⟨⟨fn, hf, hn, hb⟩, fun ok x vals w hx ha => (key (m x + 1)).2 ok x vals w ⟨hx, Nat.lt_succ_self _⟩ ha⟩

/-! ### A slice that may be nil -/

structure NC where
  f : FuncId
  as : List ATy
  t : Ty
  Pre : ADen as → Prop
  F : ADen as → Option (List t.den)

def NilR (w : World) (ok : Nat → Prop) (t : Ty) (o : Option (List t.den)) (v : Value) : Prop :=
  match o with
  | none => v = .slice none 0 0
  | some ys => (Ty.slice t).Rep w ok ys [v]

def NilOK (P : Program) (c : NC) : Prop :=
  (∃ fn, P.funcs[c.f]? = some fn ∧ (fn.name == "runtime.NumGoroutine") = false ∧ fn.body.isNone = false) ∧
  ∀ (ok : Nat → Prop) (x : ADen c.as) (vals : List Value) (w : World), c.Pre x → ArgsR w ok c.as x vals →
    Calls P c.f vals.toArray w fun e w' => ∃ v, e = .returned v ∧ NilR w' (fun b => ok b ∨ w.heap.size ≤ b) c.t (c.F x) v ∧ Below w.heap.size w w'

def nilRes (t : Ty) (sv : SV) (H : List Ent) (o : Option (List t.den)) : Prop :=
  match sv with
  | .c (.raw u) => bif isNil u then o = none else False
  | sv => argDat false (false, .slice t) sv H fun y _ => o = some y

/-- What is to be shown of the body. -/
def NilVC (C : Ctx) (fn : Func) (c : NC) (x : ADen c.as) : Prop := runBody C fn (argSVs c.as x) [] fun sv H => nilRes c.t sv H (c.F x)

def nilSpec (c : NC) : Spec := fun args H K =>
  argsDat false c.as args H fun x H => c.Pre x ∧ (c.F x = none → K (.c (.raw (.slice none 0 0))) H) ∧ ∀ ys, c.F x = some ys → K (.c (.ro c.t ys)) H

theorem nilRes_sound (hs : Sat B X w0 H g w) {t : Ty} {sv : SV} {v : Value} (hr : sv.Rep w H g v) {o : Option (List t.den)} (h : nilRes t sv H o) : NilR w g.ok t o v := by
  unfold nilRes at h
  split at h
  · rename_i u
    cases hu : isNil u with
    | false => rw [hu] at h; exact h.elim
    | true =>
      rw [hu] at h
      have ho : o = none := h
      subst ho
      have e : v = u := hr
      show v = _
      rw [e, isNil_eq hu]
  · obtain ⟨y, H', a1, a2, _, _, a5, a6⟩ := arg_sound false hs hr h
    subst a6
    have h5 := a5 rfl
    unfold VRep at h5
    simp only [Bool.false_eq_true, if_false] at h5
    exact Ty.Rep.mono ⟨Nat.le_refl _, fun b _ h => ⟨h.1, rfl⟩⟩ (.slice t) h5

theorem nil_at {c : NC} {fn : Func} {x : ADen c.as} (hC : CtxOK P C) (hf : P.funcs[c.f]? = some fn) (h : NilVC C fn c x) {ok : Nat → Prop} {vals : List Value} {w : World} (ha : ArgsR w ok c.as x vals) :
    Calls P c.f vals.toArray w fun e w' => ∃ v, e = .returned v ∧ NilR w' (fun b => ok b ∨ w.heap.size ≤ b) c.t (c.F x) v ∧ Below w.heap.size w w' := by
  let g : Gh := ⟨fun _ => 0, fun _ => undef, fun b => ok b ∨ w.heap.size ≤ b⟩
  have hs : Sat w.heap.size (fun _ => False) w [] g w :=
    ⟨rfl, rfl, rfl, Nat.le_refl _, Nat.le_refl _, fun b hb => .inr (hb.elim id False.elim), fun _ _ _ => rfl, fun i e h => by simp at h, fun i j e f b h => by simp at h⟩
  have hargs : ArgsRep w [] g (argSVs c.as x) vals := argSVs_rep c.as (ArgsR.mono ⟨Nat.le_refl _, fun b _ h => ⟨⟨.inl h, by rintro ⟨i, e, h, _⟩; simp at h⟩, rfl⟩⟩ c.as ha)
  unfold NilVC at h
  refine (body_calls hC hf h hs hargs).mono ?_
  rintro e w' ⟨v, rfl, sv, H', g', hk, hs', hev, hr⟩
  have h1 := nilRes_sound hs' hr hk
  refine ⟨v, rfl, ?_, ⟨hs'.os, hs'.tape, hs'.output, hs'.size0, fun b hb => hs'.old b hb id⟩⟩
  rw [hev.ok] at h1
  exact h1

theorem NilOK.spec {c : NC} (h : NilOK P c) : SpecOK P c.f (nilSpec c) := by
  refine ⟨h.1, fun B X w0 H g w args vals K hsp hs ha => ?_⟩
  unfold nilSpec at hsp
  obtain ⟨x, H', a1, a2, a3, a4, a5, hpre, hk1, hk2⟩ := args_sound false c.as hs ha hsp
  have fin : ∀ w', Below w.heap.size w w' → Sat B X w0 H' g w' ∧ Evo w H g w' H' g := fun w' hb => by
    obtain ⟨b1, b2⟩ := Sat.same (w1 := w') a1 hb.os hb.tape hb.output hb.size hb.block
    exact ⟨b1, a2.trans b2⟩
  refine (h.2 (Stable H' g) x vals w hpre (a5 rfl)).mono ?_
  rintro e w' ⟨v, rfl, hr, hb⟩
  obtain ⟨b1, b2⟩ := fin w' hb
  cases hF : c.F x with
  | none =>
    rw [hF] at hr
    exact ⟨v, rfl, _, H', g, hk1 hF, b1, b2, hr⟩
  | some ys =>
    rw [hF] at hr
    have hr' : (Ty.slice c.t).Rep w' (fun b => Stable H' g b ∨ w.heap.size ≤ b) ys [v] := hr
    refine ⟨v, rfl, _, H', g, hk2 ys hF, b1, b2, Ty.Rep.mono ⟨Nat.le_refl _, fun b hbl hok => ⟨?_, rfl⟩⟩ (.slice c.t) hr'⟩
    rcases hok with h1 | h1
    · exact h1
    · refine ⟨a1.okB b (.inl (Nat.le_trans a1.hB h1)), ?_⟩
      rintro ⟨i, en, q1, q2⟩
      have := (a1.ents i en q1).lt b q2
      omega

@[reducible] def NC.ci (c : NC) : CI := ⟨c.f, nilSpec c, false, true⟩
theorem NilOK.ci {c : NC} (h : NilOK P c) : c.ci.OK P := ⟨h.spec, fun h => (by cases h)⟩
@[reducible] def NC.below (c : NC) (m : ADen c.as → Nat) (n : Nat) : NC := ⟨c.f, c.as, c.t, fun x => c.Pre x ∧ m x < n, c.F⟩

theorem NC.rec_ok (c : NC) {fn : Func} (m : ADen c.as → Nat) (C : ADen c.as → Ctx) (hC : ∀ x, NilOK P (c.below m (m x)) → CtxOK P (C x)) (hf : P.funcs[c.f]? = some fn) (hn : (fn.name == "runtime.NumGoroutine") = false) (hb : fn.body.isNone = false)
    (h : ∀ x, c.Pre x → NilVC (C x) fn c x) : NilOK P c := by
  have key : ∀ n, NilOK P (c.below m n) := by
    intro n
    induction n with
    | zero => exact ⟨⟨fn, hf, hn, hb⟩, fun ok x vals w hx => absurd hx.2 (Nat.not_lt_zero _)⟩
    | succ n ih =>
      refine ⟨⟨fn, hf, hn, hb⟩, fun ok x vals w hx ha => ?_⟩
      have hlow : NilOK P (c.below m (m x)) := ⟨ih.1, fun ok y vals w hy ha => ih.2 ok y vals w ⟨hy.1, by have := hx.2; have := hy.2; omega⟩ ha⟩
      exact nil_at (c := c) (hC x hlow) hf (h x hx.1) ha
  exact ⟨⟨fn, hf, hn, hb⟩, fun ok x vals w hx ha => (key (m x + 1)).2 ok x vals w ⟨hx, Nat.lt_succ_self _⟩ ha⟩
end
attribute [irreducible] NilVC
end Go.SX
