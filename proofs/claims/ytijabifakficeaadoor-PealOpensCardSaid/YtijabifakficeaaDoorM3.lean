/- Parts of the proof, one after the other: SxK SxKA SxKY SxL SxLQ SxLR SxLT SxLS SxLU SxM SxMD. -/
import Derived.Test.YtijabifakficeaaDoorM2
import Derived.RecoverIn
/- SX, part K: the executor over code is sound. -/
namespace Go.SX
open Go Go.RowKit
structure Ini where
  n : Nat
  B : Nat
  X : Nat → Prop
  w0 : World
  wi : World
  Hi : List Ent
  gi : Gh
  dl : List Nat := []
  ds : List Deferred := []
def mark (b : Nat) : Deferred := { target := .collected b, args := #[] }
structure Holds (I : Ini) (st : St) (a : Act) (w : World) : Prop where
  defers : a.defers = I.dl.map mark ++ I.ds
  size : a.tmps.size = st.n
  n : st.n = I.n
  sat : ∃ g, Sat I.B I.X I.w0 st.h g w ∧ Evo I.wi I.Hi I.gi w st.h g ∧ ∀ d, (findT d st.t).Rep w st.h g (a.tmps.getD d undef)
def Ex.toExit : Ex → Exit
  | .normal => .normal
  | .exit id => .exit id
  | .ret => .ret
structure Ini.Le (I I' : Ini) : Prop where
  n : I'.n = I.n
  B : I'.B = I.B
  X : I'.X = I.X
  w0 : I'.w0 = I.w0
  ds : I'.ds = I.ds
  evo : Evo I.wi I.Hi I.gi I'.wi I'.Hi I'.gi
  nodup : I.dl.Nodup → (∀ b ∈ I.dl, b < I.wi.heap.size) → I'.dl.Nodup
  dl : ∀ b ∈ I'.dl, b ∈ I.dl ∨ (I.wi.heap.size ≤ b ∧ I'.wi.heap[b]? = some (.deferred (some [])) ∧ Stable I'.Hi I'.gi b)
theorem Ini.Le.refl (I : Ini) : I.Le I := ⟨rfl, rfl, rfl, rfl, rfl, Evo.refl _ _ _, fun h _ => h, fun _ h => .inl h⟩
def QR (I : Ini) (r : Bool) (Q : Ex → St → Prop) : Exit → Act → World → Prop := fun e a w => ∃ x st I', x.toExit = e ∧ Q x st ∧ Holds I' st a w ∧ I.Le I' ∧ (r = false → I' = I)
section
variable {P : Program} {I : Ini} {C : Ctx}
theorem ev_rep {st : St} {a : Act} {w : World} {g : Gh} (ht : ∀ d, (findT d st.t).Rep w st.h g (a.tmps.getD d undef)) (x : Operand) : (st.ev x).Rep w st.h g (a.eval x) := by
  cases x with
  | tmp d => exact ht d
  | const v => exact rep_constSV v
  | global g => exact rfl
  | func f => exact ⟨rfl, fun i hi => by simp at hi⟩
theorem put_defers (a : Act) (d : Option Tmp) (v : Value) : (a.put d v).defers = a.defers := by cases d <;> rfl
theorem put_size (a : Act) (d : Option Tmp) (v : Value) : (a.put d v).tmps.size = a.tmps.size := by cases d <;> simp [Act.put]
theorem SV.tag_rep {w : World} {H : List Ent} {g : Gh} {d : Nat} {x : SV} {v : Value} (h : x.Rep w H g v) : (x.tag d).Rep w H g v := by
  unfold SV.tag
  split <;> exact h
theorem Holds.put {st : St} {a : Act} {w w' : World} {g g' : Gh} {H' : List Ent} (h1 : a.defers = I.dl.map mark ++ I.ds) (h2 : a.tmps.size = st.n) (hn : st.n = I.n) (hev0 : Evo I.wi I.Hi I.gi w st.h g) (ht : ∀ d, (findT d st.t).Rep w st.h g (a.tmps.getD d undef))
    (hs : Sat I.B I.X I.w0 H' g' w') (hev : Evo w st.h g w' H' g') {sv : SV} {v : Value} (hr : sv.Rep w' H' g' v) (dst : Option Tmp) : Holds I (st.put dst sv H') (a.put dst v) w' := by
  have hold : ∀ d, (findT d st.t).Rep w' H' g' (a.tmps.getD d undef) := fun d => (ht d).evo hev
  cases dst with
  | none => exact ⟨h1, h2, hn, g', hs, hev0.trans hev, hold⟩
  | some d =>
    refine ⟨by rw [put_defers]; exact h1, ?_, ?_, g', ?_, ?_, fun k => ?_⟩
    · rw [put_size, h2]; simp only [St.put]; cases Nat.blt d st.n <;> rfl
    · simp only [St.put]; cases Nat.blt d st.n <;> exact hn
    · simp only [St.put]; cases Nat.blt d st.n <;> exact hs
    · simp only [St.put]; cases Nat.blt d st.n <;> exact hev0.trans hev
    · have hget : (a.put (some d) v).tmps.getD k undef = if d = k ∧ d < a.tmps.size then v else a.tmps.getD k undef := by
        simp only [Act.put, Array.getD_eq_getD_getElem?, Array.getElem?_setIfInBounds]
        by_cases hdk : d = k
        · subst hdk
          by_cases hd : d < a.tmps.size
          · simp [hd]
          · simp [hd]
        · simp [hdk]
      rw [hget]
      simp only [St.put]
      cases hb : Nat.blt d st.n with
      | false =>
        have hge : ¬ d < a.tmps.size := by
          rw [h2]; intro hlt
          have : Nat.blt d st.n = true := by simpa [Nat.blt_eq] using hlt
          rw [hb] at this; cases this
        rw [if_neg (fun h => hge h.2)]
        exact hold k
      | true =>
        have hlt : d < a.tmps.size := by rw [h2]; simpa [Nat.blt_eq] using hb
        simp only [cond_true, findT]
        cases hdk : Nat.beq d k with
        | true =>
          have := Nat.eq_of_beq_eq_true hdk
          rw [if_pos ⟨this, hlt⟩]
          exact SV.tag_rep hr
        | false =>
          have : ¬ d = k := Nat.ne_of_beq_eq_false hdk
          rw [if_neg (fun h => this h.1)]
          exact hold k
theorem assumeT_sound {w : World} {H : List Ent} {g : Gh} (id : Nat) (b : Bool) : (t : List (Nat × SV)) → {K : List (Nat × SV) → Prop} → assumeT id b t K → ∃ t', K t' ∧ ∀ (d : Nat) (v : Value), (findT d t).Rep w H g v → (findT d t').Rep w H g v
  | [], K, h => ⟨[], h, fun _ _ h => h⟩
  | (k, sv) :: r, K, h => by
    have keep : ∀ sv', (∀ v, sv.Rep w H g v → sv'.Rep w H g v) → assumeT id b r (fun r => K ((k, sv') :: r)) → ∃ t', K t' ∧ ∀ (d : Nat) (v : Value), (findT d ((k, sv) :: r)).Rep w H g v → (findT d t').Rep w H g v := by
      intro sv' hsv h
      obtain ⟨t', h1, h2⟩ := assumeT_sound id b r h
      refine ⟨(k, sv') :: t', h1, fun d v hv => ?_⟩
      unfold findT at hv ⊢
      cases hk : Nat.beq k d with
      | true => rw [hk] at hv; exact hsv v hv
      | false => rw [hk] at hv; exact h2 d v hv
    unfold assumeT at h
    split at h
    · rename_i i p dp
      cases hi : Nat.beq i id with
      | false => rw [hi] at h; exact keep _ (fun _ h => h) h
      | true =>
        rw [hi] at h
        obtain ⟨hp, h⟩ := h
        refine keep (.c (.kb b)) (fun v hv => ?_) h
        have e : v = .bool (@decide p dp) := hv
        rw [e]
        show Value.bool _ = Value.bool _
        congr 1
        cases b with
        | true => exact decide_eq_true (p := p) hp
        | false => exact decide_eq_false (p := p) hp
    · rename_i i x
      cases hi : Nat.beq i id with
      | false => rw [hi] at h; exact keep _ (fun _ h => h) h
      | true =>
        rw [hi] at h
        obtain ⟨hp, h⟩ := h
        refine keep (.c (.kb b)) (fun v hv => ?_) h
        have e : v = .bool x := hv
        rw [e, hp]; rfl
    · exact keep _ (fun _ h => h) h
theorem assumeS_sound {st : St} {a : Act} {w : World} (hh : Holds I st a w) (id : Nat) (b : Bool) {K : St → Prop} (h : assumeS id b st K) : ∃ st', K st' ∧ Holds I st' a w ∧ st'.n = st.n := by
  unfold assumeS at h
  split at h
  · exact ⟨st, h, hh, rfl⟩
  · obtain ⟨h1, h2, hn, g, hs, hev, ht⟩ := hh
    obtain ⟨t', k1, k2⟩ := assumeT_sound (w := w) (H := st.h) (g := g) _ b st.t h
    exact ⟨_, k1, ⟨h1, h2, hn, g, hs, hev, fun d => k2 d _ (ht d)⟩, rfl⟩
theorem condS_sound {st : St} {a : Act} {w : World} (hh : Holds I st a w) {sv : SV} {v : Value} (hr : ∀ g, Sat I.B I.X I.w0 st.h g w → (∀ d, (findT d st.t).Rep w st.h g (a.tmps.getD d undef)) → sv.Rep w st.h g v) {A B : St → Prop} (h : sv.condS st A B) :
    ∃ b, v = .bool b ∧ (b = true → ∃ st', A st' ∧ Holds I st' a w ∧ st'.n = st.n) ∧ (b = false → ∃ st', B st' ∧ Holds I st' a w ∧ st'.n = st.n) := by
  have hh0 := hh
  obtain ⟨_, _, _, g, hs, _, ht⟩ := hh
  replace hr := hr g hs ht
  unfold SV.condS at h
  split at h
  · rename_i id p d
    exact ⟨_, hr, fun hb => assumeS_sound hh0 _ _ (h.1 (of_decide_eq_true hb)), fun hb => assumeS_sound hh0 _ _ (h.2 (of_decide_eq_false hb))⟩
  · rename_i id b
    exact ⟨b, hr, fun hb => assumeS_sound hh0 _ _ (h.1 hb), fun hb => assumeS_sound hh0 _ _ (h.2 hb)⟩
  · rename_i b
    cases b with
    | true => exact ⟨true, hr, fun _ => ⟨st, h, hh0, rfl⟩, fun h => (by cases h)⟩
    | false => exact ⟨false, hr, fun h => (by cases h), fun _ => ⟨st, h, hh0, rfl⟩⟩
  · exact h.elim
theorem frz_one {g : Gh} {H : List Ent} {w : World} {i ver : Nat} {e : TypeId} {T : Ty} {xs : List T.den} (hs : Sat I.B I.X I.w0 H g w) (he : H[i]? = some (.row e T ver xs)) {v : Value} (hr : (SC.own i ver).Rep w H g v) :
    Sat I.B I.X I.w0 (H.set i .dead) g w ∧ Evo w H g w (H.set i .dead) g ∧ (SC.ro T xs).Rep w (H.set i .dead) g v := by
  have hx : Reps w H g [.own i ver] [v] := ⟨rfl, fun j c u h1 h2 => by
    cases j with
    | zero => simp at h1 h2; subst h1; subst h2; exact hr
    | succ j => simp at h1⟩
  obtain ⟨y, cs, r, vr, H', a1, a2, a3, _, _, _, a6, a7, a8⟩ := dat_sound (ok := fun _ => True) false (.slice T) hs hx (K := fun y r H' => y = xs ∧ r = [] ∧ H' = H.set i .dead) (by
    simp only [Ty.dat, he, Nat.beq_refl, cond_true]
    simp) (fun h => by cases h)
  obtain ⟨rfl, rfl, rfl⟩ := a8
  have hvr : vr = [] := List.eq_nil_of_length_eq_zero a7.1
  subst hvr
  rw [List.append_nil] at a1
  subst a1
  exact ⟨a2, a3, a6 rfl⟩
theorem frzT_find (i ver : Nat) (T : Ty) (xs : List T.den) (d : Nat) : (t : List (Nat × SV)) → findT d (frzT i ver T xs t) = frzV i ver T xs (findT d t)
  | [] => rfl
  | (k, v) :: r => by
    unfold frzT findT
    cases Nat.beq k d with
    | true => rfl
    | false => exact frzT_find i ver T xs d r
theorem pre_ro {w : World} {ok : Nat → Prop} {T : Ty} {xs : List T.den} {A : Option Addr} {len cap n : Nat} (h : Ty.Rep w ok (.slice T) xs [.slice A len cap]) (hn : n ≤ xs.length) : Ty.Rep w ok (.slice T) (xs.take n) [.slice A n cap] := by
  obtain ⟨A', cap', e, h1, h2⟩ := h
  cases e
  refine ⟨A, cap, by simp [Nat.min_eq_left hn], by simp; omega, fun hne => ?_⟩
  obtain ⟨ad, a1, a2, a3, a4⟩ := h2 (by intro e; subst e; simp at hne)
  refine ⟨ad, a1, a2, a3, fun i x hx => a4 i x ?_⟩
  rw [List.getElem?_take] at hx
  split at hx
  · exact hx
  · cases hx
theorem frzC_rep {g : Gh} {H : List Ent} {w : World} {i ver : Nat} {e : TypeId} {T : Ty} {xs : List T.den} (hs : Sat I.B I.X I.w0 H g w) (he : H[i]? = some (.row e T ver xs)) (hev : Evo w H g w (H.set i .dead) g) {x : SC} {v : Value} (hr : x.Rep w H g v) :
    (frzC i ver T xs x).Rep w (H.set i .dead) g v := by
  unfold frzC
  split
  · rename_i j wv
    cases hb : (Nat.beq j i && Nat.beq wv ver) with
    | false => exact SC.Rep.evo hev hr
    | true =>
      rw [Bool.and_eq_true] at hb
      have e1 := Nat.eq_of_beq_eq_true hb.1
      have e2 := Nat.eq_of_beq_eq_true hb.2
      subst e1; subst e2
      exact (frz_one hs he hr).2.2
  · rename_i j wv n
    cases hb : (Nat.beq j i && Nat.beq wv ver) with
    | false => exact SC.Rep.evo hev hr
    | true =>
      rw [Bool.and_eq_true] at hb
      have e1 := Nat.eq_of_beq_eq_true hb.1
      have e2 := Nat.eq_of_beq_eq_true hb.2
      subst e1; subst e2
      obtain ⟨h1, h2⟩ := hr
      unfold PreRep at h2
      rw [he] at h2
      obtain ⟨hn, A, len, cap, hg, hv⟩ := h2.2 rfl
      have hro := (frz_one hs he (v := g.v j) ⟨by rw [hg]; rfl, by unfold OwnRep; rw [he]; exact ⟨Nat.le_refl _, fun _ => rfl⟩⟩).2.2
      rw [hg] at hro
      rw [hv]
      exact pre_ro hro hn
  · exact SC.Rep.evo hev hr
theorem frz_all {st : St} {a : Act} {w : World} {i ver : Nat} {e : TypeId} {T : Ty} {xs : List T.den} (h : Holds I st a w) (he : st.h[i]? = some (.row e T ver xs)) : Holds I ⟨st.n, frzT i ver T xs st.t, st.h.set i .dead⟩ a w := by
  obtain ⟨h1, h2, hn, g, hs, hev, ht⟩ := h
  obtain ⟨b1, b2⟩ := Sat.upd (g1 := g) (w1 := w) hs i _ .dead he rfl (fun _ => rfl) (fun _ _ => rfl) rfl rfl rfl (Nat.le_refl _) (fun _ _ _ => rfl) (fun _ h => h.elim) (fun _ _ _ _ h => by cases h) (fun _ => trivial)
  refine ⟨h1, h2, hn, g, b1, hev.trans b2, fun d => ?_⟩
  show SV.Rep w (st.h.set i .dead) g (findT d (frzT i ver T xs st.t)) _
  rw [frzT_find]
  have hd := ht d
  unfold frzV
  split
  · rename_i x heq
    rw [heq] at hd
    exact frzC_rep hs he b2 hd
  · rename_i l heq
    rw [heq] at hd
    obtain ⟨vs, e1, r1, r2⟩ := hd
    refine ⟨vs, e1, ⟨by simp [r1.1], fun j c v q1 q2 => ?_⟩, r2⟩
    rw [List.getElem?_map] at q1
    cases hl : l[j]? with
    | none => rw [hl] at q1; simp at q1
    | some x =>
      rw [hl] at q1
      simp at q1
      subst q1
      exact frzC_rep hs he b2 (r1.2 j x v hl q2)
  · exact hd.evo b2
theorem frzL_sound {a : Act} {w : World} : (l : List SC) → {st : St} → Holds I st a w → Holds I (frzL l st) a w
  | [], st, h => h
  | c :: r, st, h => by
    unfold frzL
    split
    · rename_i i ver
      split
      · rename_i e T ver' xs he
        cases hb : Nat.beq ver ver' with
        | false => exact frzL_sound r h
        | true =>
          have hv := Nat.eq_of_beq_eq_true hb
          subst hv
          exact frzL_sound r (frz_all h he)
      · exact frzL_sound r h
    · rename_i i ver n
      split
      · rename_i e T ver' xs he
        cases hb : Nat.beq ver ver' with
        | false => exact frzL_sound r h
        | true =>
          have hv := Nat.eq_of_beq_eq_true hb
          subst hv
          exact frzL_sound r (frz_all h he)
      · exact frzL_sound r h
    · exact frzL_sound r h
theorem frzA_sound {a : Act} {w : World} : (l : List Operand) → {st : St} → Holds I st a w → Holds I (frzA l st) a w
  | [], st, h => h
  | x :: r, st, h => by
    unfold frzA
    split
    · exact frzA_sound r (frzL_sound _ h)
    · exact frzA_sound r (frzL_sound _ h)
    · exact frzA_sound r h
theorem frzOp_sound {a : Act} {w : World} (C : Ctx) (o : Op) {st : St} (h : Holds I st a w) : Holds I (frzOp C o st) a w := by
  unfold frzOp
  split
  · split
    · rename_i f _
      cases C.frz f with
      | false => exact h
      | true => exact frzA_sound _ h
    · exact h
  · exact h
theorem skipped_wanted {o : Oper} {all : Array Oper} {a : Act} {w : World} {H : List Ent} {g : Gh} {j d : Nat} {want : Bool} (hg : o.guard = some (j, want)) (hd : (all[j]?).bind (·.dst) = some d) {sv : SV} (hs : sv.skipped = true)
    (hr : sv.Rep w H g (a.tmps.getD d undef)) : Region.wanted o (yielded all a.tmps) = false := by
  unfold SV.skipped at hs
  split at hs
  · cases hs
  · rename_i u hnb
    have e : a.tmps.getD d undef = u := hr
    have hne : ∀ b, a.tmps[d]? ≠ some (Value.bool b) := fun b hb => by
      rw [Array.getD_eq_getD_getElem?, hb] at e
      exact hnb b e.symm
    simp only [Region.wanted, hg, yielded, hd, Option.bind_some]
    cases hq : a.tmps[d]? with
    | none => rfl
    | some v => cases v <;> first | rfl | exact absurd hq (hne _)
  · cases hs
theorem SV.con_rep {w : World} {H : List Ent} {g : Gh} {b : Bool} {sv : SV} {v : Value} (h : sv.Rep w H g v) : (sv.con b).Rep w H g v := by
  unfold SV.con
  cases b with
  | false => exact h
  | true =>
    simp only [cond_true]
    split
    · exact h
    · exact h
    · exact h
end
end Go.SX

/- SX, part KA: regions whose order is drawn. -/
namespace Go.SX
open Go Go.RowKit
section
variable {P : Program} {ops : Array Oper} {Q : Exit → Act → World → Prop} {D : Nat → Prop}
def wpR (P : Program) (ops : Array Oper) (Q : Exit → Act → World → Prop) (D : Nat → Prop) : Nat → Array Bool → Act → World → Prop
  | 0, listed, a, w => Region.ready .any ops listed = [] ∧ Q .normal a w
  | fuel + 1, listed, a, w =>
    (Region.ready .any ops listed = [] → Q .normal a w) ∧
    ∀ i ∈ Region.ready .any ops listed, wpOp P ops Q i (fun a' w' => (¬ D i → Later w w') ∧ wpR P ops Q D fuel (listed.setIfInBounds i true) a' w') a w
theorem wpAny_of_R : ∀ (fuel : Nat) (listed : Array Bool) (a : Act) (w : World), wpR P ops Q D fuel listed a w → wpAny P .any ops Q fuel listed a w
  | 0, _, _, _, h => h
  | fuel + 1, _, _, _, h => ⟨h.1, fun i hi => wpOp_mono (fun a' w' h' => wpAny_of_R fuel _ a' w' h'.2) (h.2 i hi)⟩
def Closed (ops : Array Oper) (listed : Array Bool) : Prop :=
  ∀ j oj, ops[j]? = some oj → listed.getD j false = true → ∀ e ∈ oj.after, Region.binds .any e = true → listed.getD e.on false = true
theorem Closed.set {listed : Array Bool} {i : Nat} (h : Closed ops listed) (hi : i ∈ Region.ready .any ops listed) : Closed ops (listed.setIfInBounds i true) := by
  obtain ⟨_, oi, hoi, hall⟩ := mem_ready.1 hi
  intro j oj hj hl e he hb
  by_cases hij : i = j
  · subst hij
    have : oj = oi := Option.some.inj (hj.symm.trans hoi)
    subst this
    exact getD_set_true (hall e he hb)
  · rw [getD_set_ne false hij] at hl
    exact getD_set_true (h j oj hj hl e he hb)
def Waits (ops : Array Oper) (i d : Nat) : Prop := ∀ listed : Array Bool, Closed ops listed → listed.size = ops.size → listed.getD i true = false → d ∉ Region.ready .any ops listed
theorem wpR_first {pu : Bool} {i : Nat} {oi : Oper} {v : Value} (hi : ops[i]? = some oi) (hsel : ∀ (j : Nat) (o : Oper) cs b, ops[j]? = some o → o.op ≠ .select cs b)
    (hQ : ∀ c a w, Q (.panic c) (a.put oi.dst v) w → Q (.panic c) a w) :
    ∀ (fuel : Nat) (listed : Array Bool) (a : Act) (w : World), listed.size = ops.size →
      (∀ j oj, ops[j]? = some oj → j ≠ i → listed.getD j true = false → (∀ e ∈ oj.after, Region.binds .any e = true → e.on ≠ i) → oi.apart ops oj = true) →
      Closed ops listed → (pu = false → ∀ d, D d → listed.getD d true = false → Waits ops i d) →
      i ∈ Region.ready .any ops listed → YieldsIf P ops (fun w' => pu = true ∨ Later w w') oi v a →
      wpR P ops Q D fuel (listed.setIfInBounds i true) (a.put oi.dst v) w → wpR P ops Q D (fuel + 1) listed a w := by
  intro fuel
  induction fuel with
  | zero =>
    intro listed a w _ _ _ _ hr hy H
    refine ⟨fun h => (by rw [h] at hr; cases hr), fun j hj => ?_⟩
    by_cases hji : j = i
    · subst hji; exact hy.wpOp hi (.inr (Later.refl w)) ⟨fun _ => Later.refl w, H⟩
    · have := ready_mono hj hji
      rw [H.1] at this
      cases this
  | succ fuel ih =>
    intro listed a w hsz hfree hc hd hr hy H
    refine ⟨fun h => (by rw [h] at hr; cases hr), fun j hj => ?_⟩
    by_cases hji : j = i
    · subst hji; exact hy.wpOp hi (.inr (Later.refl w)) ⟨fun _ => Later.refl w, H⟩
    · have h1 := H.2 j (ready_mono hj hji)
      obtain ⟨hjun, oj, hoj, hall⟩ := mem_ready.1 hj
      have hiun := (mem_ready.1 hr).1
      have hnot : ∀ e ∈ oj.after, Region.binds .any e = true → e.on ≠ i := fun e he hb heq => by
        have h1 := hall e he hb
        rw [heq] at h1
        rcases Nat.lt_or_ge i listed.size with h' | h'
        · simp [h'] at hiun h1; rw [hiun] at h1; cases h1
        · simp [Array.getElem?_eq_none h'] at h1
      have hjd : pu = false → ¬ D j := fun hp hm => hd hp j hm hjun listed hc hsz hiun hj
      have h2 := wpOp_putIf hoj (hfree j oj hoj hji hjun hnot) (fun cs b => hsel i oi cs b hi) (fun cs b => hsel j oj cs b hoj) hQ hy h1
      have hfree' : ∀ k ok, ops[k]? = some ok → k ≠ i → (listed.setIfInBounds j true).getD k true = false →
          (∀ e ∈ ok.after, Region.binds .any e = true → e.on ≠ i) → oi.apart ops ok = true := fun k ok hk hki hun hno => by
        refine hfree k ok hk hki ?_ hno
        by_cases hjk : j = k
        · subst hjk; exact hjun
        · rw [getD_set_ne true hjk] at hun; exact hun
      have hd' : pu = false → ∀ d, D d → (listed.setIfInBounds j true).getD d true = false → Waits ops i d := fun hp d hm hun => by
        refine hd hp d hm ?_
        by_cases hjk : j = d
        · subst hjk; exact hjun
        · rw [getD_set_ne true hjk] at hun; exact hun
      refine wpOp_mono (fun a' w' h3 => ⟨h3.2.1, ih (listed.setIfInBounds j true) a' w' (by simpa using hsz) hfree' (hc.set hj) hd' (ready_mono hr (Ne.symm hji))
        (h3.1.imp (fun ⟨q1, q2⟩ => ⟨q1, fun w'' hw'' => q2 w'' (by
          rcases hw'' with hp | hl
          · exact .inl hp
          · cases hpu : pu with
            | true => exact .inl rfl
            | false => exact .inr ((h3.2.1 (hjd hpu)).trans hl))⟩) id) ?_⟩) h2
      rw [Array.setIfInBounds_comm _ _ hji]
      exact h3.2.2
theorem wpR_all {fuel : Nat} {listed : Array Bool} {a : Act} {w : World} (hne : Region.ready .any ops listed ≠ [])
    (h : ∀ i ∈ Region.ready .any ops listed, wpOp P ops Q i (fun a' w' => (¬ D i → Later w w') ∧ wpR P ops Q D fuel (listed.setIfInBounds i true) a' w') a w) : wpR P ops Q D (fuel + 1) listed a w :=
  ⟨fun h0 => absurd h0 hne, h⟩
theorem wpR_done {listed : Array Bool} {a : Act} {w : World} (hr : Region.ready .any ops listed = []) (h : Q .normal a w) : ∀ fuel, wpR P ops Q D fuel listed a w
  | 0 => ⟨hr, h⟩
  | _ + 1 => ⟨fun _ => h, by rw [hr]; simp⟩
theorem tb_eq (m i : Nat) : tb m i = m.testBit i := by
  unfold tb
  rw [Nat.testBit_eq_decide_div_mod_eq]
  show Nat.beq (1 &&& (m >>> i)) 1 = _
  rw [Nat.and_comm, Nat.and_one_is_mod, Nat.shiftRight_eq_div_pow]
  by_cases h : m / 2 ^ i % 2 = 1
  · rw [h]; simp
  · have : m / 2 ^ i % 2 = 0 := by omega
    rw [this]; rfl
theorem subM_iff {d m : Nat} : subM d m = true ↔ ∀ j, d.testBit j = true → m.testBit j = true := by
  unfold subM
  constructor
  · intro h j hj
    have e : d &&& m = d := Nat.eq_of_beq_eq_true h
    have := congrArg (fun x => x.testBit j) e
    simp only [Nat.testBit_and, hj, Bool.true_and] at this
    exact this
  · intro h
    have : d &&& m = d := by
      apply Nat.eq_of_testBit_eq
      intro j
      rw [Nat.testBit_and]
      cases hj : d.testBit j with
      | false => simp
      | true => rw [h j hj]; simp
    show Nat.beq (d &&& m) d = true
    rw [this]; simp
theorem bit_or (m i j : Nat) : (Nat.lor m (Nat.shiftLeft 1 i)).testBit j = (m.testBit j || decide (i = j)) := by
  show (m ||| (1 <<< i)).testBit j = _
  rw [Nat.testBit_or, Nat.one_shiftLeft, Nat.testBit_two_pow]
theorem depE_bit : (l : List Edge) → (j : Nat) → ((depE l).testBit j = true ↔ ∃ e ∈ l, Region.binds .any e = true ∧ e.on = j)
  | [], j => by simp [depE]
  | e :: r, j => by
    have ih := depE_bit r j
    unfold depE
    cases hb : Region.binds .any e with
    | false =>
      simp only [cond_false, ih, List.mem_cons]
      constructor
      · rintro ⟨x, h1, h2⟩; exact ⟨x, .inr h1, h2⟩
      · rintro ⟨x, h1 | h1, h2, h3⟩
        · subst h1; rw [hb] at h2; cases h2
        · exact ⟨x, h1, h2, h3⟩
    | true =>
      simp only [cond_true]
      rw [show Nat.lor (Nat.shiftLeft 1 e.on) (depE r) = Nat.lor (depE r) (Nat.shiftLeft 1 e.on) from Nat.or_comm _ _, bit_or, Bool.or_eq_true, ih]
      constructor
      · rintro (⟨x, h1, h2⟩ | h)
        · exact ⟨x, List.mem_cons_of_mem _ h1, h2⟩
        · exact ⟨e, List.mem_cons_self, hb, of_decide_eq_true h⟩
      · rintro ⟨x, h1, h2, h3⟩
        rcases List.mem_cons.1 h1 with h | h
        · subst h; right; exact decide_eq_true h3
        · left; exact ⟨x, h, h2, h3⟩
theorem depsOf_get : (l : List Oper) → (j : Nat) → (depsOf l)[j]? = (l[j]?).map fun o => depE o.after.toList
  | [], j => by simp [depsOf]
  | o :: r, 0 => by simp [depsOf]
  | o :: r, j + 1 => by simpa [depsOf] using depsOf_get r j
structure MaskOf (ops : Array Oper) (m : Nat) (l : Array Bool) : Prop where
  size : l.size = ops.size
  bit : ∀ i, i < ops.size → l[i]? = some (m.testBit i)
  out : ∀ i, ops.size ≤ i → m.testBit i = false
theorem MaskOf.zero (ops : Array Oper) : MaskOf ops 0 (Array.replicate ops.size false) :=
  ⟨by simp, fun i hi => by simp [hi], fun i _ => by simp⟩
theorem MaskOf.set {m : Nat} {l : Array Bool} (h : MaskOf ops m l) {i : Nat} (hi : i < ops.size) : MaskOf ops (Nat.lor m (Nat.shiftLeft 1 i)) (l.setIfInBounds i true) := by
  refine ⟨by simpa using h.size, fun j hj => ?_, fun j hj => ?_⟩
  · rw [bit_or, Array.getElem?_setIfInBounds]
    by_cases hij : i = j
    · subst hij; simp [h.size, hi]
    · simp [hij, h.bit j hj]
  · rw [bit_or, h.out j hj]
    have : ¬ i = j := by omega
    simp [this]
theorem MaskOf.getF {m : Nat} {l : Array Bool} (h : MaskOf ops m l) (i : Nat) : l.getD i false = m.testBit i := by
  rcases Nat.lt_or_ge i ops.size with hi | hi
  · rw [Array.getD_eq_getD_getElem?, h.bit i hi]; rfl
  · rw [Array.getD_eq_getD_getElem?, Array.getElem?_eq_none (by rw [h.size]; exact hi), h.out i hi]; rfl
theorem MaskOf.getT {m : Nat} {l : Array Bool} (h : MaskOf ops m l) {i : Nat} (hi : i < ops.size) : l.getD i true = m.testBit i := by
  rw [Array.getD_eq_getD_getElem?, h.bit i hi]; rfl
theorem readyL_mem {m : Nat} : (l : List Nat) → (k i : Nat) → (i ∈ readyL m l k ↔ ∃ d, k ≤ i ∧ l[i - k]? = some d ∧ m.testBit i = false ∧ subM d m = true)
  | [], k, i => by simp [readyL]
  | d :: r, k, i => by
    have ih := readyL_mem (m := m) r (k + 1) i
    have tail : (i ∈ readyL m r (k + 1)) ↔ ∃ x, k + 1 ≤ i ∧ (d :: r)[i - k]? = some x ∧ m.testBit i = false ∧ subM x m = true := by
      rw [ih]
      constructor
      · rintro ⟨x, h1, h2, h3⟩
        refine ⟨x, h1, ?_, h3⟩
        rw [show i - k = (i - (k + 1)) + 1 by omega]
        simpa using h2
      · rintro ⟨x, h1, h2, h3⟩
        refine ⟨x, h1, ?_, h3⟩
        rw [show i - k = (i - (k + 1)) + 1 by omega] at h2
        simpa using h2
    unfold readyL
    cases hb : (!(tb m k) && subM d m) with
    | true =>
      simp only [cond_true, List.mem_cons, tail]
      rw [Bool.and_eq_true, Bool.not_eq_true', tb_eq] at hb
      constructor
      · rintro (h | ⟨x, h1, h2⟩)
        · subst h; exact ⟨d, Nat.le_refl _, by simp, hb.1, hb.2⟩
        · exact ⟨x, by omega, h2⟩
      · rintro ⟨x, h1, h2⟩
        rcases Nat.lt_or_ge k i with h | h
        · right; exact ⟨x, h, h2⟩
        · left; omega
    | false =>
      simp only [cond_false, tail]
      constructor
      · rintro ⟨x, h1, h2⟩; exact ⟨x, by omega, h2⟩
      · rintro ⟨x, h1, h2, h3, h4⟩
        refine ⟨x, ?_, h2, h3, h4⟩
        rcases Nat.lt_or_ge k i with h | h
        · exact h
        · have e : i = k := by omega
          subst e
          simp at h2
          subst h2
          rw [tb_eq, h3, h4] at hb
          simp at hb
theorem ready_iff {m : Nat} {l : Array Bool} (h : MaskOf ops m l) (i : Nat) : i ∈ readyL m (depsOf ops.toList) 0 ↔ i ∈ Region.ready .any ops l := by
  rw [readyL_mem, mem_ready]
  simp only [Nat.zero_le, true_and, Nat.sub_zero, depsOf_get]
  constructor
  · rintro ⟨d, h1, h2, h3⟩
    cases ho : ops[i]? with
    | none => simp [ho] at h1
    | some o =>
      have hi : i < ops.size := (Array.getElem?_eq_some_iff.1 ho).1
      refine ⟨by rw [h.getT hi, h2], o, rfl, fun e he hb => ?_⟩
      simp [ho] at h1
      subst h1
      rw [h.getF]
      exact subM_iff.1 h3 _ ((depE_bit _ _).2 ⟨e, by simpa using he, hb, rfl⟩)
  · rintro ⟨h1, o, ho, h2⟩
    have hi : i < ops.size := (Array.getElem?_eq_some_iff.1 ho).1
    refine ⟨depE o.after.toList, by simp [ho], by rw [← h.getT hi, h1], subM_iff.2 fun j hj => ?_⟩
    obtain ⟨e, he, hb, rfl⟩ := (depE_bit _ _).1 hj
    rw [← h.getF]
    exact h2 e (by simpa using he) hb
theorem readyL_nil {m : Nat} {l : Array Bool} (h : MaskOf ops m l) (hr : readyL m (depsOf ops.toList) 0 = []) : Region.ready .any ops l = [] := by
  cases hq : Region.ready .any ops l with
  | nil => rfl
  | cons i r =>
    have := (ready_iff h i).2 (by rw [hq]; exact List.mem_cons_self)
    rw [hr] at this
    cases this
theorem orAll_bit (dep : Nat) : (l : List Nat) → (k j : Nat) → ((orAll dep l k).testBit j = true ↔ ∃ i t, l[i]? = some t ∧ dep.testBit (k + i) = true ∧ t.testBit j = true)
  | [], k, j => by simp [orAll]
  | t :: r, k, j => by
    have ih := orAll_bit dep r (k + 1) j
    have tail : (orAll dep r (k + 1)).testBit j = true ↔ ∃ i u, (t :: r)[i + 1]? = some u ∧ dep.testBit (k + (i + 1)) = true ∧ u.testBit j = true := by
      rw [ih]
      constructor
      · rintro ⟨i, u, h1, h2, h3⟩; exact ⟨i, u, by simpa using h1, by rw [show k + (i + 1) = k + 1 + i by omega]; exact h2, h3⟩
      · rintro ⟨i, u, h1, h2, h3⟩; exact ⟨i, u, by simpa using h1, by rw [show k + 1 + i = k + (i + 1) by omega]; exact h2, h3⟩
    unfold orAll
    cases hb : tb dep k with
    | true =>
      rw [tb_eq] at hb
      simp only [cond_true]
      rw [show Nat.lor t (orAll dep r (k + 1)) = t ||| orAll dep r (k + 1) from rfl, Nat.testBit_or, Bool.or_eq_true, tail]
      constructor
      · rintro (h | ⟨i, u, h1, h2, h3⟩)
        · exact ⟨0, t, by simp, by simpa using hb, h⟩
        · exact ⟨i + 1, u, h1, h2, h3⟩
      · rintro ⟨i, u, h1, h2, h3⟩
        cases i with
        | zero => left; simp at h1; subst h1; exact h3
        | succ i => right; exact ⟨i, u, h1, h2, h3⟩
    | false =>
      rw [tb_eq] at hb
      simp only [cond_false, tail]
      constructor
      · rintro ⟨i, u, h⟩; exact ⟨i + 1, u, h⟩
      · rintro ⟨i, u, h1, h2, h3⟩
        cases i with
        | zero => simp at h2; rw [hb] at h2; cases h2
        | succ i => exact ⟨i, u, h1, h2, h3⟩
def ClosedM (deps : List Nat) (S : Nat → Prop) : Prop := ∀ (j d : Nat), S j → deps[j]? = some d → ∀ k, d.testBit k = true → S k
theorem tcGo_ok {deps : List Nat} {S : Nat → Prop} (hS : ClosedM deps S) : (l acc : List Nat) → (∀ (j : Nat) (d : Nat), l[j]? = some d → deps[acc.length + j]? = some d) →
    (∀ (j t d : Nat), acc[j]? = some t → deps[j]? = some d → (∀ k, d.testBit k = true → S k) → ∀ k, t.testBit k = true → S k) →
    ∀ (j t d : Nat), (tcGo l acc)[j]? = some t → deps[j]? = some d → (∀ k, d.testBit k = true → S k) → ∀ k, t.testBit k = true → S k
  | [], acc, _, ha => ha
  | d0 :: r, acc, hl, ha => by
    unfold tcGo
    have h0 : deps[acc.length]? = some d0 := by simpa using hl 0 d0 rfl
    refine tcGo_ok hS r _ (fun j d hj => ?_) ?_
    · have := hl (j + 1) d (by simpa using hj)
      rw [List.length_append, List.length_singleton, show acc.length + 1 + j = acc.length + (j + 1) by omega]
      exact this
    · intro j t d hj hd hsub k hk
      rcases Nat.lt_or_ge j acc.length with hlt | hge
      · rw [List.getElem?_append_left hlt] at hj
        exact ha j t d hj hd hsub k hk
      · rw [List.getElem?_append_right hge] at hj
        have e : j - acc.length = 0 := by
          rcases Nat.eq_zero_or_pos (j - acc.length) with h | h
          · exact h
          · rw [List.getElem?_eq_none (by simp; omega)] at hj; cases hj
        have e' : j = acc.length := by omega
        subst e'
        rw [e] at hj
        simp at hj
        subst hj
        have hdd : d = d0 := Option.some.inj (hd.symm.trans h0)
        subst hdd
        rw [Nat.testBit_or, Bool.or_eq_true] at hk
        rcases hk with hk | hk
        · exact hsub k hk
        · obtain ⟨i, u, h1, h2, h3⟩ := (orAll_bit d acc 0 k).1 hk
          rw [Nat.zero_add] at h2
          have hi := hsub i h2
          have hil : i < acc.length := (List.getElem?_eq_some_iff.1 h1).1
          cases hdi : deps[i]? with
          | none =>
            have h5 := List.getElem?_eq_none_iff.1 hdi
            have h6 := (List.getElem?_eq_some_iff.1 h0).1
            omega
          | some di => exact ha i u di h1 hdi (fun k hk => hS i di hi hdi k hk) k h3
theorem waits_of_tc {i d t : Nat} (ht : (tcGo (depsOf ops.toList) [])[d]? = some t) (hb : t.testBit i = true) : Waits ops i d := by
  intro listed hc hsz hun hd
  obtain ⟨_, od, hod, hall⟩ := mem_ready.1 hd
  have hS : ClosedM (depsOf ops.toList) (fun j => listed.getD j false = true) := by
    intro j dj hj hdj k hk
    rw [depsOf_get] at hdj
    cases ho : ops.toList[j]? with
    | none => simp [ho] at hdj
    | some o =>
      simp [ho] at hdj
      subst hdj
      obtain ⟨e, he, hbb, rfl⟩ := (depE_bit _ _).1 hk
      exact hc j o (by simpa using ho) hj e (by simpa using he) hbb
  have := tcGo_ok hS (depsOf ops.toList) [] (fun j d h => by simpa using h) (fun j t d h => by simp at h) d t (depE od.after.toList) ht (by rw [depsOf_get]; simp [hod]) (fun k hk => by
    obtain ⟨e, he, hbb, rfl⟩ := (depE_bit _ _).1 hk
    exact hall e (by simpa using he) hbb) i hb
  rcases Nat.lt_or_ge i listed.size with h | h
  · simp [h] at this hun
    rw [this] at hun; cases hun
  · simp [Array.getElem?_eq_none h] at this
end
section
variable {P : Program} {I : Ini} {C : Ctx} {ops : Array Oper}
def LastD (C : Ctx) (ops : Array Oper) (d : Nat) : Prop := ∃ o, ops[d]? = some o ∧ lightOp o.op = false ∧ keepOp C o.op = false
theorem lastL_ok {m i : Nat} : (l : List Oper) → (ts : List Nat) → (k : Nat) → lastL C m i l ts k = true →
    ∀ (j : Nat) (o : Oper), l[j]? = some o → lightOp o.op = false → keepOp C o.op = false → m.testBit (k + j) = true ∨ ∃ t, ts[j]? = some t ∧ t.testBit i = true
  | [], _, _, _, j, o, h => by simp at h
  | x :: l, [], _, h, _, _, _ => by simp [lastL] at h
  | x :: l, t :: r, k, h, j, o, hj => by
    simp only [lastL, Bool.and_eq_true, Bool.or_eq_true, tb_eq] at h
    intro h1 h2
    cases j with
    | zero =>
      simp at hj
      subst hj
      rcases h.1 with ((h3 | h3) | h3) | h3
      · rw [h1] at h3; cases h3
      · rw [h2] at h3; cases h3
      · exact .inl h3
      · exact .inr ⟨t, rfl, h3⟩
    | succ j =>
      have := lastL_ok l r (k + 1) h.2 j o (by simpa using hj) h1 h2
      rw [show k + 1 + j = k + (j + 1) by omega] at this
      simpa using this
theorem freeL_ok {x : Oper} {m i : Nat} : (l : List Oper) → (ds : List Nat) → (k : Nat) → freeL ops x m i l ds k = true →
    ∀ (j : Nat) (y : Oper), l[j]? = some y → m.testBit (k + j) = true ∨ k + j = i ∨ (∃ d, ds[j]? = some d ∧ d.testBit i = true) ∨ x.apart ops y = true
  | [], _, _, _, j, o, h => by simp at h
  | _ :: l, [], _, h, _, _, _ => by simp [freeL] at h
  | z :: l, d :: r, k, h, j, y, hj => by
    simp only [freeL, Bool.and_eq_true, Bool.or_eq_true, tb_eq] at h
    cases j with
    | zero =>
      simp at hj
      subst hj
      rcases h.1 with ((h3 | h3) | h3) | h3
      · exact .inl h3
      · exact .inr (.inl (Nat.eq_of_beq_eq_true h3))
      · exact .inr (.inr (.inl ⟨d, rfl, h3⟩))
      · exact .inr (.inr (.inr h3))
    | succ j =>
      have := freeL_ok l r (k + 1) h.2 j y (by simpa using hj)
      rw [show k + 1 + j = k + (j + 1) by omega] at this
      simpa using this
theorem allL_mem {p : Nat → Prop} : (l : List Nat) → allL l p → ∀ i ∈ l, p i
  | [], _, i, h => by cases h
  | [x], h, i, hi => by simp at hi; subst hi; exact h
  | x :: y :: r, h, i, hi => by
    rcases List.mem_cons.1 hi with h' | h'
    · subst h'; exact h.1
    · exact allL_mem (y :: r) h.2 i h'
theorem pickL_spec {deps tcs : List Nat} {m : Nat} : (l : List Nat) → {i : Nat} → pickL C ops deps tcs m l = some i → i ∈ l ∧ pickOK C ops deps tcs m i = true
  | [], i, h => by cases h
  | x :: r, i, h => by
    unfold pickL at h
    cases hb : pickOK C ops deps tcs m x with
    | true => rw [hb] at h; simp at h; subst h; exact ⟨List.mem_cons_self, hb⟩
    | false =>
      rw [hb] at h
      obtain ⟨h1, h2⟩ := pickL_spec r h
      exact ⟨List.mem_cons_of_mem _ h1, h2⟩
theorem guard_sound (_hC : CtxOK P C) {o : Oper} {st : St} {R : St → Prop} {a : Act} {w : World} (h : execOps C ops [o] st R) (hh : Holds I st a w) :
    (∃ st', Holds I st' a w ∧ Region.wanted o (yielded ops a.tmps) = true ∧ opStep C o.op st'.ev st'.h fun v H => R (st'.put o.dst (v.con C.con) H)) ∨
    (∃ st', Holds I st' (a.put o.dst undef) w ∧ Region.wanted o (yielded ops a.tmps) = false ∧ R st') := by
  have hskip : ∀ {st : St}, Holds I st a w → Holds I (st.put o.dst (.c (.raw undef)) st.h) (a.put o.dst undef) w := by
    rintro st ⟨h1, h2, hn, g, hs, hev, ht⟩
    exact Holds.put h1 h2 hn hev ht hs (Evo.refl _ _ _) (sv := .c (.raw undef)) rfl o.dst
  have hrun : ∀ {st : St}, Holds I st a w → Region.wanted o (yielded ops a.tmps) = true → (runOp C o st fun st => execOps C ops [] st R) → ∃ st', Holds I st' a w ∧ Region.wanted o (yielded ops a.tmps) = true ∧ opStep C o.op st'.ev st'.h fun v H => R (st'.put o.dst (v.con C.con) H) :=
    fun h0 hw h => ⟨_, frzOp_sound C o.op h0, hw, h⟩
  unfold execOps at h
  cases hg : o.guard with
  | none =>
    rw [hg] at h
    exact .inl (hrun hh (by simp [Region.wanted, hg]) h)
  | some p =>
    obtain ⟨j, want⟩ := p
    rw [hg] at h
    simp only at h
    cases hd : (ops[j]?).bind (·.dst) with
    | none => rw [hd] at h; exact h.elim
    | some d =>
      rw [hd] at h
      simp only at h
      cases hb : Nat.blt d st.n with
      | false => rw [hb] at h; exact h.elim
      | true =>
        rw [hb] at h
        simp only [cond_true] at h
        have hlt : d < a.tmps.size := by rw [hh.size]; simpa [Nat.blt_eq] using hb
        have hw : ∀ b, a.tmps.getD d undef = .bool b → Region.wanted o (yielded ops a.tmps) = (b == want) := by
          intro b hv
          have hq : a.tmps[d]? = some (.bool b) := by
            rw [Array.getD_eq_getD_getElem?, Array.getElem?_eq_getElem hlt] at hv
            rw [Array.getElem?_eq_getElem hlt]
            simpa using hv
          simp [Region.wanted, hg, yielded, hd, hq]
        cases hsk : (findT d st.t).skipped with
        | true =>
          rw [hsk] at h
          have hw0 : Region.wanted o (yielded ops a.tmps) = false := by
            obtain ⟨_, _, _, g, _, _, ht⟩ := hh
            exact skipped_wanted hg hd hsk (ht d)
          exact .inr ⟨_, hskip hh, hw0, h⟩
        | false =>
        rw [hsk] at h
        simp only [cond_false] at h
        cases want with
        | true =>
          simp only [cond_true] at h
          obtain ⟨b, hv, hA, hB⟩ := condS_sound hh (fun g _ ht => ht d) h
          cases b with
          | true => obtain ⟨st', k1, k2, _⟩ := hA rfl; exact .inl (hrun k2 (by rw [hw _ hv]; rfl) k1)
          | false => obtain ⟨st', k1, k2, _⟩ := hB rfl; exact .inr ⟨_, hskip k2, by rw [hw _ hv]; rfl, k1⟩
        | false =>
          simp only [cond_false] at h
          obtain ⟨b, hv, hA, hB⟩ := condS_sound hh (fun g _ ht => ht d) h
          cases b with
          | true => obtain ⟨st', k1, k2, _⟩ := hA rfl; exact .inr ⟨_, hskip k2, by rw [hw _ hv]; rfl, k1⟩
          | false => obtain ⟨st', k1, k2, _⟩ := hB rfl; exact .inl (hrun k2 (by rw [hw _ hv]; rfl) k1)
theorem light_step (hC : CtxOK P C) {o : Oper} {st : St} {R : St → Prop} {a : Act} {w : World} (hl : lightOp o.op = true) (h : execOps C ops [o] st R) (hh : Holds I st a w) :
    ∃ v st', YieldsIf P ops (fun w' => pureOp o.op = true ∨ Later w w') o v a ∧ Holds I st' (a.put o.dst v) w ∧ R st' := by
  rcases guard_sound hC h hh with ⟨st', k1, k2, k3⟩ | ⟨st', k1, k2, k3⟩
  · obtain ⟨h1, h2, hn, g, hs, hev, ht⟩ := k1
    obtain ⟨v, sv, r1, r2, r3⟩ := opStep_light hC hs (ev_rep ht) hl k3
    exact ⟨v, _, .inl ⟨k2, r1⟩, Holds.put h1 h2 hn hev ht hs (Evo.refl _ _ _) (SV.con_rep r2) o.dst, r3⟩
  · exact ⟨undef, st', .inr ⟨k2, rfl⟩, k1, k3⟩
theorem op_step (hC : CtxOK P C) {Q : Exit → Act → World → Prop} {i : Nat} {o : Oper} {st : St} {R : St → Prop} {a : Act} {w : World} (ho : ops[i]? = some o) (h : execOps C ops [o] st R) (hh : Holds I st a w)
    {K : Act → World → Prop} (hK : ∀ st' a' w', R st' → Holds I st' a' w' → (¬ LastD C ops i → Later w w') → K a' w') : wpOp P ops Q i K a w := by
  unfold wpOp
  simp only [ho]
  rcases guard_sound hC h hh with ⟨st', k1, k2, k3⟩ | ⟨st', k1, k2, k3⟩
  · rw [if_pos k2]
    refine .inl ?_
    obtain ⟨h1, h2, hn, g, hs, hev, ht⟩ := k1
    cases hl : lightOp o.op with
    | true =>
      obtain ⟨v, sv, r1, r2, r3⟩ := opStep_light hC hs (ev_rep ht) hl k3
      refine Runs.value (R := fun v' w' => v' = v ∧ w' = w) (r1 w (.inr (Later.refl w))) ⟨rfl, rfl⟩ K Q ?_
      rintro v' w' ⟨rfl, rfl⟩
      exact hK _ _ _ r3 (Holds.put h1 h2 hn hev ht hs (Evo.refl _ _ _) (SV.con_rep r2) o.dst) fun _ => Later.refl _
    | false =>
      cases hk : keepOp C o.op with
      | true =>
        refine opStep_keep hC hs (ev_rep ht) hk k3 K Q ?_
        rintro v w' ⟨⟨sv, H', g', q1, q2, q3, q4⟩, hlat⟩
        exact hK _ _ _ q1 (Holds.put h1 h2 hn hev ht q2 q3 (SV.con_rep q4) o.dst) fun _ => hlat
      | false =>
        refine opStep_sound hC hs (ev_rep ht) k3 K Q ?_
        rintro v w' ⟨sv, H', g', q1, q2, q3, q4⟩
        exact hK _ _ _ q1 (Holds.put h1 h2 hn hev ht q2 q3 (SV.con_rep q4) o.dst) fun hn => absurd ⟨o, ho, hl, hk⟩ hn
  · rw [if_neg (by rw [k2]; simp)]
    exact hK _ _ _ k3 k1 fun _ => Later.refl _
theorem execAny_sound (hC : CtxOK P C) {Q : Exit → Act → World → Prop} (hQ : ∀ c a w, ¬ Q (.panic c) a w) {R : St → Prop} (hR : ∀ st a w, R st → Holds I st a w → Q .normal a w) (hsel : Region.noSelect ops = true) :
    (f : Nat) → {m : Nat} → {l : Array Bool} → {st : St} → {a : Act} → {w : World} → execAny C ops (depsOf ops.toList) (tcGo (depsOf ops.toList) []) f m st R → MaskOf ops m l → Closed ops l → Holds I st a w →
    wpR P ops Q (LastD C ops) f l a w
  | 0, m, l, st, a, w, h, hm, hc, hh => by
    unfold execAny at h
    split at h
    · rename_i heq; exact wpR_done (readyL_nil hm heq) (hR _ _ _ h hh) 0
    · exact h.elim
  | f + 1, m, l, st, a, w, h, hm, hc, hh => by
    unfold execAny at h
    split at h
    · rename_i heq; exact wpR_done (readyL_nil hm heq) (hR _ _ _ h hh) _
    · rename_i i0 r0 heq
      have hne : Region.ready .any ops l ≠ [] := fun e => by
        have := (ready_iff hm i0).1 (by rw [heq]; exact List.mem_cons_self)
        rw [e] at this; cases this
      split at h
      · rename_i i hp
        obtain ⟨p1, p2⟩ := pickL_spec _ hp
        have hri : i ∈ Region.ready .any ops l := (ready_iff hm i).1 (by rw [heq]; exact p1)
        cases ho : ops[i]? with
        | none => rw [ho] at h; exact h.elim
        | some o =>
          have hil : i < ops.size := (Array.getElem?_eq_some_iff.1 ho).1
          rw [ho] at h
          simp only at h
          unfold pickOK at p2
          rw [ho] at p2
          simp only [Bool.and_eq_true] at p2
          obtain ⟨⟨q1, q2⟩, q3⟩ := p2
          obtain ⟨v, st', y1, y2, y3⟩ := light_step hC q1 h hh
          refine wpR_first ho (Region.noSelect_spec hsel) (fun c a w hq => absurd hq (hQ c _ w)) f l a w hm.size ?_ hc ?_ hri y1 (execAny_sound hC hQ hR hsel f y3 (hm.set hil) (hc.set hri) y2)
          · intro j oj hj hji hun hno
            have hjl : j < ops.size := (Array.getElem?_eq_some_iff.1 hj).1
            have := freeL_ok ops.toList _ 0 q3 j oj (by simpa using hj)
            rw [Nat.zero_add] at this
            rcases this with h1 | h1 | ⟨d, h1, h2⟩ | h1
            · rw [hm.getT hjl, h1] at hun; cases hun
            · exact absurd h1 hji
            · rw [depsOf_get] at h1
              simp [hj] at h1
              subst h1
              obtain ⟨e, he, hb, hon⟩ := (depE_bit _ _).1 h2
              exact absurd hon (hno e (by simpa using he) hb)
            · exact h1
          · rintro hpu d ⟨od, hod, hd1, hd2⟩ hun
            have hdl : d < ops.size := (Array.getElem?_eq_some_iff.1 hod).1
            rw [Bool.or_eq_true, hpu] at q2
            rcases lastL_ok ops.toList _ 0 (q2.resolve_left Bool.false_ne_true) d od (by simpa using hod) hd1 hd2 with h1 | ⟨t, h1, h2⟩
            · rw [Nat.zero_add] at h1; rw [hm.getT hdl, h1] at hun; cases hun
            · exact waits_of_tc h1 h2
      · rename_i hp
        refine wpR_all hne fun i hi => ?_
        have hi' := (ready_iff hm i).2 hi
        rw [heq] at hi'
        have h1 := allL_mem _ h i hi'
        cases ho : ops[i]? with
        | none => rw [ho] at h1; exact h1.elim
        | some o =>
          have hil : i < ops.size := (Array.getElem?_eq_some_iff.1 ho).1
          rw [ho] at h1
          simp only at h1
          exact op_step hC ho h1 hh fun st' a' w' k1 k2 k3 => ⟨k3, execAny_sound hC hQ hR hsel f k1 (hm.set hil) (hc.set hi) k2⟩
theorem execDraw_any (hC : CtxOK P C) {Q : Exit → Act → World → Prop} (hQ : ∀ c a w, ¬ Q (.panic c) a w) {R : St → Prop} (hR : ∀ st a w, R st → Holds I st a w → Q .normal a w) {st : St} {a : Act} {w : World}
    (h : execDraw C ops st R) (hh : Holds I st a w) : wpAny P .any ops Q ops.size (Array.replicate ops.size false) a { w with drawn := w.drawn + 1 } := by
  unfold execDraw at h
  cases hs : Region.noSelect ops with
  | false => rw [hs] at h; exact h.elim
  | true =>
    rw [hs] at h
    simp only [cond_true] at h
    refine wpAny_of_R (D := LastD C ops) _ _ _ _ (execAny_sound hC hQ hR hs _ h (MaskOf.zero ops) (fun j oj _ hl => ?_) ?_)
    · rw [(MaskOf.zero ops).getF] at hl; simp at hl
    · obtain ⟨h1, h2, hn, g, hsat, hev, ht⟩ := hh
      obtain ⟨b1, b2⟩ := Sat.same (w1 := { w with drawn := w.drawn + 1 }) hsat rfl rfl rfl (Nat.le_refl _) (fun _ _ => rfl)
      exact ⟨h1, h2, hn, g, b1, hev.trans b2, fun d => (ht d).evo b2⟩
def FR : Option Nat → Fence
  | none => Fence.wide
  | some l => Fence.wide.inRound l
theorem FR_fn (ro : Option Nat) (f : FuncId) : (FR ro).fn f := by cases ro <;> trivial
theorem FR_depth (ro : Option Nat) : (FR ro).depth = none := by cases ro <;> rfl
theorem calls_FR {ro : Option Nat} {n : Nat} {f : FuncId} {args : Array Value} {w : World} {R : Ending → World → Prop} (h : Calls P f args w R) : CallsIn (FR ro) n P f args w R := by
  cases ro <;> exact callsIn_wide.2 h
theorem rows_FR {ro : Option Nat} {n : Nat} {row : String} {args : Array Value} {w : World} {R : Value → World → Prop} (h : Rows P row args w R) : RowsIn (FR ro) n P row args w R := by
  cases ro <;> exact fun c cs _ => let ⟨v, w', r, s⟩ := h c cs; ⟨v, w', r, stepsIn_wide.2 s⟩
theorem wp_FR {o : Oper} {ro : Option Nat} {n : Nat} {a : Act} {w : World} {next next' : Act → World → Prop} {Q : Exit → Act → World → Prop} (hnd : ∀ c, o.op ≠ .defer c) (hn : ∀ a w, next a w → next' a w) (h : o.wp P a w next Q) : o.wpIn (FR ro) n P a w next' Q := by
  refine ⟨fun f _ => FR_fn ro f, ?_⟩
  rw [Oper.semAt_eq _ _ _ hnd]
  unfold Oper.wp at h
  have hd : (FR ro).depth.isSome = true → 1 ≤ n := fun h => by rw [FR_depth] at h; cases h
  generalize (execOp a.eval o).run P w = r at h
  cases r with
  | ok x w' =>
    cases x with
    | value v => exact hn _ _ h
    | skip => exact hn _ _ h
    | defer d => exact hn _ _ h
    | enter f args =>
      refine ⟨hd, calls_FR (h.mono fun e w'' he => ?_)⟩
      cases e with
      | returned v => exact hn _ _ he
      | panicked c => exact he
      | outgrown => exact he
    | row row args => exact ⟨hd, rows_FR (h.mono fun v w'' he => hn _ _ he)⟩
    | _ => exact h.elim
  | halt x w' => cases x <;> first | exact h | exact h.elim
theorem wpOps_FR {Q : Exit → Act → World → Prop} {ro : Option Nat} {n : Nat} (hnd : ∀ (i : Nat) (o : Oper), ops[i]? = some o → ∀ c, o.op ≠ .defer c) (hQ : ¬ LetsOut Q) : (l : List Nat) → {a : Act} → {w : World} → wpOps P ops Q l a w → wpOpsIn (FR ro) n P ops Q l a w
  | [], a, w, h => h
  | i :: r, a, w, h => by
    unfold wpOps at h
    unfold wpOpsIn
    cases ho : ops[i]? with
    | none => rw [ho] at h; exact wpOps_FR hnd hQ r h
    | some o =>
      rw [ho] at h
      simp only at h ⊢
      split
      · rename_i hw
        rw [if_pos hw] at h
        exact wp_FR (hnd i o ho) (fun a w h => wpOps_FR hnd hQ r h) (h.resolve_right fun h => hQ h.2)
      · rename_i hw
        rw [if_neg hw] at h
        exact ⟨fun f _ => FR_fn ro f, wpOps_FR hnd hQ r h⟩
theorem noDefer_get : {l : List Oper} → noDefer l = true → ∀ (i : Nat) (o : Oper), l[i]? = some o → ∀ c, o.op ≠ .defer c
  | [], _, i, o, h, c => by simp at h
  | x :: r, hn, i, o, h, c => by
    unfold noDefer at hn
    rw [Bool.and_eq_true] at hn
    cases i with
    | zero => simp at h; subst h; intro e; rw [e] at hn; exact absurd hn.1 (by simp)
    | succ i => exact noDefer_get hn.2 i o (by simpa using h) c
theorem execDraw_sound (hC : CtxOK P C) {Q : Exit → Act → World → Prop} (hQ : ∀ c a w, ¬ Q (.panic c) a w) (hQo : ¬ LetsOut Q) {R : St → Prop} (hR : ∀ st a w, R st → Holds I st a w → Q .normal a w) {id : Nat} {st : St} {a : Act} {w : World}
    {ro : Option Nat} {n : Nat} (hnd : noDefer ops.toList = true) (h : execDraw C ops st R) (hh : Holds I st a w) : (Code.region id ops true).wpIn (FR ro) n P Q a w := by
  refine wpIn_region_draw fun t => ?_
  simp only [Region.schedule, hC.mixed, Bool.true_or, if_true]
  exact wpOps_FR (fun i o ho => noDefer_get hnd i o (by simpa using ho)) hQo _ (wpAny_sound ops.size t _ a _ (execDraw_any hC hQ hR h hh))
theorem Runs.inR {o : Oper} {a : Act} {w : World} {R : Value → World → Prop} (h : Runs P o a w R) (ro : Option Nat) (n : Nat) (next : Act → World → Prop) (Q : Exit → Act → World → Prop) (hn : ∀ v w', R v w' → next (a.put o.dst v) w') : o.wpIn (FR ro) n P a w next Q := by
  have h1 := h (fun a' w' => ∃ v, R v w' ∧ a' = a.put o.dst v) (fun _ _ _ => False) fun v w' hr => ⟨v, hr, rfl⟩
  have hnd : ∀ c, o.op ≠ .defer c := by
    intro c hc
    unfold Oper.wp execOp at h1
    rw [hc] at h1
    simp only [Sem.run_bind] at h1
    cases hr : (resolve a.eval c o.type).run P w with
    | halt x w' => rw [hr] at h1; cases x <;> exact h1.elim
    | ok d w' =>
      rw [hr] at h1
      simp only [Result.andThen_ok, Sem.run_pure] at h1
      obtain ⟨v, _, e⟩ := h1
      have := congrArg Act.defers e
      rw [put_defers, put_defers] at this
      simp at this
  have h2 := wp_FR (ro := ro) (n := n) (next' := next) hnd (fun a' w' ⟨v, hr, e⟩ => by subst e; exact hn v w' hr) h1
  refine ⟨h2.1, ?_⟩
  have h3 := h2.2
  generalize (o.semAt (FR ro).round a.eval).run P w = r at h3 ⊢
  cases r with
  | ok x w' =>
    cases x with
    | enter f args =>
      refine ⟨h3.1, h3.2.mono fun e w'' he => ?_⟩
      cases e with
      | returned v => exact he
      | panicked c => exact he.elim
      | outgrown => obtain ⟨_, _, he⟩ := he; exact he.elim
    | round l f tmps assign body =>
      refine ⟨h3.1, h3.2.mono fun e w'' he => ?_⟩
      cases e with
      | returned v => exact he
      | panicked c => exact he.elim
      | outgrown => obtain ⟨_, _, he⟩ := he; exact he.elim
    | _ => exact h3
  | halt x w' => cases x <;> first | exact h3 | exact h3.elim
end
end Go.SX

/- SX, part KY: who is called back. -/
namespace Go.SX
open Go Go.RowKit
section
variable {P : Program} {I : Ini} {C : Ctx} {B : Nat} {X : Nat → Prop} {w0 w : World} {H : List Ent} {g : Gh}
theorem yieldS_sound (hC : CtxOK P C) (hs : Sat B X w0 H g w) {x : SV} {vx : Value} (hx : x.Rep w H g vx) {u : Value} {K : SV → List Ent → Prop} : (l : List Ent) → (i : Nat) → (∀ k, l[k]? = H[i + k]?) → yieldS C u x H i l K →
    ∃ lk, u = .func (.yield lk) #[] #[] ∧ ∃ (fn : FuncId) (tmps : Array Value) (assign body : Code), (Instr.yield lk #[vx]).run P w = .ok (.round lk fn tmps assign body) w ∧
      RoundIn Fence.wide 0 P lk fn tmps assign body w fun e w' => ∃ v, e = .returned v ∧ Post B X w0 K w H g v w'
  | [], _, _, h => h.elim
  | .ext a T E true pre :: r, i, hl, h => by
    unfold yieldS at h
    obtain ⟨rfl, hmay, h⟩ := h
    have hi : H[i]? = some (.ext a T E true pre) := by have := hl 0; simpa using this.symm
    obtain ⟨lk, hyv, hcall⟩ := hC.may _ _ _ hmay
    obtain ⟨y, H1, d2, d3, d4, d5, hm, d6⟩ := elem_sound hs hx h
    rcases d4 i with hi1 | hi1
    · rw [hi] at hi1
      rw [hi1] at d6
      simp only at d6
      obtain ⟨hO, hinv⟩ := d2.ents i _ hi1
      have hcs : ∃ cs : List Value, (if a = true then vx = .agg cs.toArray else cs = [vx]) ∧ T.Rep w (Stable H1 g) y cs := by
        unfold ERep at d5
        cases a with
        | true => rw [if_pos rfl] at d5; obtain ⟨cs, e, h⟩ := d5; exact ⟨cs, by rw [if_pos rfl]; exact e, h⟩
        | false => rw [if_neg Bool.false_ne_true] at d5; exact ⟨[vx], by rw [if_neg Bool.false_ne_true], d5⟩
      obtain ⟨cs, hv, hrep⟩ := hcs
      obtain ⟨fn, tmps, assign, body, hy, hround⟩ := hcall pre y w _ _ cs vx hinv hm hrep (Ty.Rep.one T hrep) hv fun b hb => ⟨(hO b hb).1, fun hst => hst.2 ⟨i, _, hi1, hb⟩⟩
      refine ⟨lk, hyv, fn, tmps, assign, body, hy, hround.mono ?_⟩
      rintro e w' ⟨v', rfl, k1, k2, k3, ⟨k4, k5, k6⟩, k7⟩
      refine ⟨_, rfl, ?_⟩
      let g1 : Gh := ⟨g.b, fun j => if j = i then v' else g.v j, g.ok⟩
      have hv1 : g1.v i = v' := if_pos rfl
      obtain ⟨b1, b2⟩ := Sat.upd (g1 := g1) (w1 := w') d2 i _ (.ext a T E (E.go pre y) (pre ++ [y])) hi1 rfl (fun _ => rfl) (fun j hj => if_neg hj) k4 k5 k6 k3 (fun b hb hno => k2 b hb hno)
        (fun b hb => by
          have hb : xblocks (g1.v i) b := hb
          rw [hv1] at hb
          exact (k1 b hb).2) (fun _ _ _ _ h => by cases h) (fun hev => by
          refine ⟨fun b hb => ?_, ?_⟩
          · rw [hv1] at hb
            refine ⟨(k1 b hb).1, ?_⟩
            rcases (k1 b hb).2 with h1 | h1
            · exact (hO b h1).2
            · exact .inl (Nat.le_trans d2.hB h1)
          · rw [hv1]
            refine E.mono _ _ _ _ _ _ _ k7 (fun _ _ => rfl) ⟨Nat.le_refl _, fun b hb hst => ⟨⟨?_, ?_⟩, rfl⟩⟩
            · rcases hst.1 with h1 | h1 | h1
              · exact h1.1
              · exact d2.okB b (hO b h1).2
              · exact d2.okB b (.inl (Nat.le_trans d2.hB h1))
            · rintro ⟨j, e, q1, q2⟩
              by_cases hj : j = i
              · subst hj
                rw [List.getElem?_set_self (List.getElem?_eq_some_iff.1 hi1).1] at q1
                cases q1
                have q2 : xblocks (g1.v j) b := q2
                rw [hv1] at q2
                exact hst.2 q2
              · rw [List.getElem?_set_ne (Ne.symm hj)] at q1
                have q3 := (Ent.blocks_congr (g := g) (g1 := g1) rfl (if_neg hj)).1 q2
                rcases hst.1 with h1 | h1 | h1
                · exact h1.2 ⟨j, e, q1, q3⟩
                · exact hj (d2.apart j i _ _ b q1 hi1 q3 h1)
                · have := (d2.ents j e q1).lt b q3; omega)
      exact ⟨_, _, g1, d6, b1, d3.trans b2, rfl⟩
    · rw [hi1] at d6; exact d6.elim
  | .ext a T E false pre :: r, i, hl, h => yieldS_sound hC hs hx r (i + 1) (fun k => by have := hl (k + 1); rw [show i + 1 + k = i + (k + 1) by omega]; simpa using this) h
  | .dead :: r, i, hl, h => yieldS_sound hC hs hx r (i + 1) (fun k => by have := hl (k + 1); rw [show i + 1 + k = i + (k + 1) by omega]; simpa using this) h
  | .blk .. :: r, i, hl, h => yieldS_sound hC hs hx r (i + 1) (fun k => by have := hl (k + 1); rw [show i + 1 + k = i + (k + 1) by omega]; simpa using this) h
  | .row .. :: r, i, hl, h => yieldS_sound hC hs hx r (i + 1) (fun k => by have := hl (k + 1); rw [show i + 1 + k = i + (k + 1) by omega]; simpa using this) h
  | .tab .. :: r, i, hl, h => yieldS_sound hC hs hx r (i + 1) (fun k => by have := hl (k + 1); rw [show i + 1 + k = i + (k + 1) by omega]; simpa using this) h
  | .iter .. :: r, i, hl, h => yieldS_sound hC hs hx r (i + 1) (fun k => by have := hl (k + 1); rw [show i + 1 + k = i + (k + 1) by omega]; simpa using this) h
  | .mtab .. :: r, i, hl, h => yieldS_sound hC hs hx r (i + 1) (fun k => by have := hl (k + 1); rw [show i + 1 + k = i + (k + 1) by omega]; simpa using this) h
  | .gl .. :: r, i, hl, h => yieldS_sound hC hs hx r (i + 1) (fun k => by have := hl (k + 1); rw [show i + 1 + k = i + (k + 1) by omega]; simpa using this) h
  | .con .. :: r, i, hl, h => yieldS_sound hC hs hx r (i + 1) (fun k => by have := hl (k + 1); rw [show i + 1 + k = i + (k + 1) by omega]; simpa using this) h
  | .obj .. :: r, i, hl, h => yieldS_sound hC hs hx r (i + 1) (fun k => by have := hl (k + 1); rw [show i + 1 + k = i + (k + 1) by omega]; simpa using this) h
theorem round_FR {ro : Option Nat} {n l : Nat} {f : FuncId} {tmps : Array Value} {assign body : Code} {R : Ending → World → Prop} (h : RoundIn Fence.wide n P l f tmps assign body w R) : RoundIn (FR ro) n P l f tmps assign body w R := by
  cases ro <;> exact h
theorem roundIn_n {F : Fence} {n m l : Nat} {f : FuncId} {tmps : Array Value} {assign body : Code} {R : Ending → World → Prop} (hd : F.depth = none) (h : RoundIn F n P l f tmps assign body w R) : RoundIn F m P l f tmps assign body w R :=
  ⟨h.1, fun c cs _ => h.2 c cs fun d hd' => by rw [hd] at hd'; cases hd'⟩
theorem execOpsY_sound (hC : CtxOK P C) {ro : Option Nat} {n : Nat} {all : Array Oper} (Q : Exit → Act → World → Prop) : (l : List Oper) → {st : St} → {R : St → Prop} → {a : Act} → {w : World} → (∀ st a w, R st → Holds I st a w → Q .normal a w) →
    execOpsY C all l st R → Holds I st a w → wpListIn (FR ro) n P all Q l a w
  | [], st, R, a, w, hQ, h, hh => wpListIn_nil (hQ st a w h hh)
  | o :: r, st, R, a, w, hQ, h, hh => by
    have plain : execOps C all [o] st (fun st => execOpsY C all r st R) → wpListIn (FR ro) n P all Q (o :: r) a w := by
      intro h
      refine wpListIn_step fun K hK => ?_
      rcases guard_sound hC h hh with ⟨st', k1, k2, k3⟩ | ⟨st', k1, k2, k3⟩
      · rw [if_pos k2]
        obtain ⟨h1, h2, hn, g, hs, hev, ht⟩ := k1
        refine (opStep_sound hC hs (ev_rep ht) k3).inR ro n K Q ?_
        rintro v w' ⟨sv, H', g', q1, q2, q3, q4⟩
        exact hK _ _ (execOpsY_sound hC Q r hQ q1 (Holds.put h1 h2 hn hev ht q2 q3 (SV.con_rep q4) o.dst))
      · rw [if_neg (by rw [k2]; simp)]
        exact ⟨fun f _ => FR_fn ro f, hK _ _ (execOpsY_sound hC Q r hQ k3 k1)⟩
    unfold execOpsY at h
    cases hg : o.guard with
    | some p => rw [hg] at h; exact plain h
    | none =>
      rw [hg] at h
      simp only at h
      have plain' : runOp C o st (fun st => execOpsY C all r st R) → wpListIn (FR ro) n P all Q (o :: r) a w := fun h => plain (by unfold execOps; rw [hg]; exact h)
      unfold runOpY at h
      split at h
      · rename_i c hop
        split at h
        · rename_i f hcal
          split at h
          · rename_i u hu
            split at h
            · rename_i x hargs
              refine wpListIn_plain hg fun K hK => ?_
              obtain ⟨h1, h2, hn, g, hs, hev, ht⟩ := hh
              have hf := ev_rep ht f
              rw [hu] at hf
              have hf : a.eval f = u := hf
              obtain ⟨lk, e, fn, tmps, assign, body, hy, hround⟩ := yieldS_sound hC hs (ev_rep ht x) st.h 0 (fun k => by rw [Nat.zero_add]) h
              rw [e] at hf
              have hargs' : c.args = #[x] := by apply Array.toList_inj.1; rw [hargs]
              refine ⟨fun f _ => FR_fn ro f, ?_⟩
              have hnd : ∀ d, o.op ≠ .defer d := fun d hd => by rw [hop] at hd; cases hd
              rw [Oper.semAt_eq _ _ _ hnd]
              have hrun : (execOp a.eval o).run P w = .ok (.round lk fn tmps assign body) w := by
                simp only [execOp, hop, resolve, hcal, hf, Deferred.ofValue, Sem.run_bind, Sem.run_pure, Result.andThen_ok, invoke, hargs']
                simpa using hy
              rw [hrun]
              refine ⟨fun h => (by rw [FR_depth] at h; cases h), roundIn_n (FR_depth ro) (round_FR (hround.mono ?_))⟩
              rintro e w' ⟨v, rfl, sv, H', g', q1, q2, q3, q4⟩
              exact hK _ _ (execOpsY_sound hC Q r hQ q1 (Holds.put h1 h2 hn hev ht q2 q3 q4 o.dst))
            · exact h.elim
          · exact plain' h
        · exact plain' h
      · exact plain' h
end
end Go.SX

/- SX, part L: loops; the executor over code is sound. -/
namespace Go.SX
open Go Go.RowKit
section
variable {P : Program} {I : Ini} {C : Ctx} {w : World} {H H' : List Ent} {g : Gh} {fresh : Nat → Bool} {B0 : Nat} {X0 : Nat → Prop} {v0 : World}
def LeH (fresh : Nat → Bool) (H H' : List Ent) : Prop := ∀ (i : Nat) (e' : Ent), H'[i]? = some e' → ∃ e, H[i]? = some e ∧ Ent.le H H' (fresh i) e e'
theorem entsLe_sound : (H0 : List Ent) → (H1 : List Ent) → (k : Nat) → entsLe fresh H H' k H0 H1 → ∀ (i : Nat) (e' : Ent), H1[i]? = some e' → ∃ e, H0[i]? = some e ∧ Ent.le H H' (fresh (k + i)) e e'
  | _, [], _, _, i, e', h => by simp at h
  | [], _ :: _, _, h, _, _, _ => h.elim
  | a :: r, b :: s, k, h, i, e', hi => by
    cases i with
    | zero => simp at hi; subst hi; exact ⟨a, rfl, h.1⟩
    | succ i =>
      obtain ⟨e, h1, h2⟩ := entsLe_sound r s (k + 1) h.2 i e' (by simpa using hi)
      exact ⟨e, by simpa using h1, by rw [show k + (i + 1) = k + 1 + i by omega]; exact h2⟩
theorem Ent.le_blocks {f : Bool} {i b : Nat} : {e e' : Ent} → Ent.le H H' f e e' → e'.blocks g i b → e.blocks g i b
  | _, .dead, _, h => h.elim
  | .blk .., .blk .., _, h => h
  | .obj .., .obj .., _, h => h
  | .row .., .row .., _, h => h
  | .tab .., .tab .., _, h => h
  | .iter .., .iter .., _, h => h
  | .dead, .blk .., h, _ => h.elim
  | .dead, .row .., h, _ => h.elim
  | .dead, .tab .., h, _ => h.elim
  | .blk .., .row .., h, _ => h.elim
  | .blk .., .tab .., h, _ => h.elim
  | .row .., .blk .., h, _ => h.elim
  | .row .., .tab .., h, _ => h.elim
  | .tab .., .blk .., h, _ => h.elim
  | .tab .., .row .., h, _ => h.elim
  | .dead, .iter .., h, _ => h.elim
  | .blk .., .iter .., h, _ => h.elim
  | .row .., .iter .., h, _ => h.elim
  | .tab .., .iter .., h, _ => h.elim
  | .iter .., .blk .., h, _ => h.elim
  | .iter .., .row .., h, _ => h.elim
  | .iter .., .tab .., h, _ => h.elim
  | .dead, .ext .., h, _ => h.elim
  | .blk .., .ext .., h, _ => h.elim
  | .row .., .ext .., h, _ => h.elim
  | .tab .., .ext .., h, _ => h.elim
  | .iter .., .ext .., h, _ => h.elim
  | .ext .., .blk .., h, _ => by have h : Ent.blk .. = Ent.ext .. := h; cases h
  | .ext .., .row .., h, _ => by have h : Ent.row .. = Ent.ext .. := h; cases h
  | .ext .., .tab .., h, _ => by have h : Ent.tab .. = Ent.ext .. := h; cases h
  | .ext .., .iter .., h, _ => by have h : Ent.iter .. = Ent.ext .. := h; cases h
  | .ext .., .ext .., _, h => h
  | .mtab .., .mtab .., h, hb => by
    have h : Ent.mtab .. = Ent.mtab .. := h
    cases h
    exact hb
  | .mtab e t es none, .tab .., _, hb => .inl hb
  | .dead, .mtab .., h, _ => h.elim
  | .blk .., .mtab .., h, _ => h.elim
  | .row .., .mtab .., h, _ => h.elim
  | .tab .., .mtab .., h, _ => h.elim
  | .iter .., .mtab .., h, _ => h.elim
  | .ext .., .mtab .., h, _ => by have h : Ent.mtab .. = Ent.ext .. := h; cases h
  | .mtab e t es none, .blk .., h, _ => h.elim
  | .mtab e t es none, .row .., h, _ => h.elim
  | .mtab e t es none, .iter .., h, _ => h.elim
  | .mtab e t es none, .ext .., h, _ => h.elim
  | .mtab e t es (some _), .blk .., h, _ => h.elim
  | .mtab e t es (some _), .row .., h, _ => h.elim
  | .mtab e t es (some _), .tab .., h, _ => h.elim
  | .mtab e t es (some _), .iter .., h, _ => h.elim
  | .mtab e t es (some _), .ext .., h, _ => h.elim
theorem LeH.owned (h : LeH fresh H H') {b : Nat} (ho : Owned H' g b) : Owned H g b := by
  obtain ⟨i, e', h1, h2⟩ := ho
  obtain ⟨e, h3, h4⟩ := h i e' h1
  exact ⟨i, e, h3, Ent.le_blocks h4 h2⟩
theorem LeH.keeps (h : LeH fresh H H') : Keeps w (Stable H g) w (Stable H' g) := ⟨Nat.le_refl _, fun _ _ hs => ⟨⟨hs.1, fun ho => hs.2 (h.owned ho)⟩, rfl⟩⟩
theorem decide_iff {p q : Prop} {dp : Decidable p} {dq : Decidable q} (h : p ↔ q) : @decide p dp = @decide q dq := by
  by_cases hp : p
  · have hq := h.1 hp
    simp [hp, hq]
  · have hq : ¬ q := fun hq => hp (h.2 hq)
    simp [hp, hq]
theorem bool_iff {b : Bool} {p : Prop} {d : Decidable p} (h : b = true ↔ p) : b = @decide p d := by
  cases b with
  | true => exact (decide_eq_true (h.1 rfl)).symm
  | false => exact (decide_eq_false (fun hp => by have := h.2 hp; cases this)).symm
theorem SC.le_sound (hs : Sat B0 X0 v0 H g w) (hH : LeH fresh H H') {x y : SC} {v : Value} (h : SC.le H H' x y) (hr : x.Rep w H g v) : y.Rep w H' g v := by
  cases y with
  | any => trivial
  | int k' n' =>
    cases x with
    | int k n =>
      by_cases e : k = k'
      · subst e
        have hn : n = n' := by simpa [SC.le] using h
        subst hn
        exact hr
      · simp only [SC.le, decide_eq_false e, cond_false] at h
    | _ => exact h.elim
  | prop id q dq =>
    cases x with
    | prop _ p d => have e : v = _ := hr; rw [e]; show Value.bool _ = Value.bool _; rw [decide_iff h]
    | bool _ b =>
      have e : v = .bool _ := hr
      rw [e]; show Value.bool _ = Value.bool _
      rw [bool_iff h]
    | kb b =>
      have e : v = .bool _ := hr
      rw [e]; show Value.bool _ = Value.bool _
      rw [bool_iff h]
    | _ => exact h.elim
  | bool id b' =>
    cases x with
    | prop _ p d =>
      have h' : @decide p d = b' := h
      have e : v = _ := hr
      rw [e]; show Value.bool _ = Value.bool _; rw [h']
    | bool _ b => have h' : b = b' := h; subst h'; exact hr
    | kb b => have h' : b = b' := h; subst h'; exact hr
    | _ => exact h.elim
  | kb b' =>
    cases x with
    | kb b =>
      have h' : (bif b == b' then True else False) := h
      cases hb : b == b' with
      | false => rw [hb] at h'; exact h'.elim
      | true =>
        have : b = b' := by simpa using hb
        subst this; exact hr
    | prop id p d =>
      have e : v = .bool (@decide p d) := hr
      rw [e]; show Value.bool _ = Value.bool _
      congr 1
      cases b' with
      | true => exact decide_eq_true (p := p) h
      | false => exact decide_eq_false (p := p) h
    | bool _ b =>
      have h' : b = b' := h
      have e : v = .bool _ := hr
      rw [e]; show Value.bool _ = Value.bool _
      rw [h']
    | _ => exact h.elim
  | str s' =>
    cases x with
    | str s => have h' : s = s' := h; subst h'; exact hr
    | _ => exact h.elim
  | ptr j o' =>
    cases x with
    | ptr i o =>
      have h' : (bif Nat.beq i j && Nat.beq o o' && Nat.blt j H'.length then True else False) := h
      cases hb : (Nat.beq i j && Nat.beq o o' && Nat.blt j H'.length) with
      | false => rw [hb] at h'; exact h'.elim
      | true =>
        rw [Bool.and_eq_true, Bool.and_eq_true] at hb
        have h1 := Nat.eq_of_beq_eq_true hb.1.1
        have h2 := Nat.eq_of_beq_eq_true hb.1.2
        have h3 : j < H'.length := by simpa [Nat.blt_eq] using hb.2
        subst h1; subst h2
        exact ⟨h3, hr.2⟩
    | _ => exact h.elim
  | tab j =>
    cases x with
    | tab i =>
      have h' : (bif Nat.beq i j && Nat.blt j H'.length then True else False) := h
      cases hb : (Nat.beq i j && Nat.blt j H'.length) with
      | false => rw [hb] at h'; exact h'.elim
      | true =>
        rw [Bool.and_eq_true] at hb
        have h1 := Nat.eq_of_beq_eq_true hb.1
        have h3 : j < H'.length := by simpa [Nat.blt_eq] using hb.2
        subst h1
        exact ⟨h3, hr.2⟩
    | _ => exact h.elim
  | ro t' xs' =>
    cases x with
    | ro t xs =>
      have h' : if h : t = t' then (h ▸ xs) = xs' else False := h
      split at h'
      · rename_i ht
        subst ht
        subst h'
        exact Ty.Rep.mono hH.keeps (.slice t) hr
      · exact h'.elim
    | raw u =>
      have h' : (bif isNil u then xs' = [] else False) := h
      cases hu : isNil u with
      | false => rw [hu] at h'; exact h'.elim
      | true =>
        rw [hu] at h'
        have hx : xs' = [] := h'
        subst hx
        have e : v = u := hr
        exact ⟨none, 0, by rw [e, isNil_eq hu]; rfl, Nat.le_refl _, fun h => absurd rfl h⟩
    | own i ver =>
      have h' : (match H[i]? with
        | some (.row _ t ver1 xs) => bif Nat.beq ver ver1 && goneE H'[i]? then (if h : t = t' then (h ▸ xs) = xs' else False) else False
        | _ => False) := h
      cases he : H[i]? with
      | none => rw [he] at h'; exact h'.elim
      | some en =>
        rw [he] at h'
        cases en <;> try exact h'.elim
        case row e t ver1 xs =>
          simp only at h'
          cases hb : (Nat.beq ver ver1 && goneE H'[i]?) with
          | false => rw [hb] at h'; exact h'.elim
          | true =>
            rw [hb] at h'
            simp only [cond_true] at h'
            rw [Bool.and_eq_true] at hb
            split at h'
            · rename_i ht
              subst ht
              subst h'
              have hx : Reps w H g [.own i ver] [v] := ⟨rfl, fun j c u h1 h2 => by
                cases j with
                | zero => simp at h1 h2; subst h1; subst h2; exact hr
                | succ j => simp at h1⟩
              obtain ⟨y, cs, r, vr, H1, a1, a2, a3, _, _, _, a6, _, a8⟩ := dat_sound (ok := fun _ => True) false (.slice t) hs hx (K := fun y r H1 => y = xs ∧ r = [] ∧ H1 = H.set i .dead) (by
                simp only [Ty.dat, he, hb.1, cond_true, cond_false]
                rw [dif_pos trivial]
                simp) (fun h => by cases h)
              obtain ⟨e1, e2, e3⟩ := a8
              subst e1
              subst e2
              subst e3
              have hcs := a6 rfl
              have hl := Ty.Rep.len _ hcs
              have e4 : cs = [v] := by
                cases cs with
                | nil => simp [Ty.size] at hl
                | cons c cr =>
                  have : cr = [] := by
                    have h3 : (c :: cr).length = 1 := hl
                    exact List.eq_nil_of_length_eq_zero (by simpa using h3)
                  subst this
                  simp at a1
                  rw [a1.1]
              rw [e4] at hcs
              refine Ty.Rep.mono ⟨Nat.le_refl _, fun b _ hst => ⟨⟨hst.1, ?_⟩, rfl⟩⟩ (.slice t) hcs
              rintro ⟨j, f, hj, hbj⟩
              obtain ⟨f0, k1, k2⟩ := hH j f hj
              have hji : j ≠ i := by
                rintro rfl
                rw [hj] at hb
                cases f with
                | dead => exact hbj
                | blk => exact absurd hb.2 (by simp [goneE])
                | row => exact absurd hb.2 (by simp [goneE])
                | tab => exact absurd hb.2 (by simp [goneE])
                | iter => exact absurd hb.2 (by simp [goneE])
                | ext => exact absurd hb.2 (by simp [goneE])
                | mtab => exact absurd hb.2 (by simp [goneE])
                | con => exact absurd hb.2 (by simp [goneE])
                | gl => exact absurd hb.2 (by simp [goneE])
                | obj => exact absurd hb.2 (by simp [goneE])
              exact hst.2 ⟨j, f0, by rw [List.getElem?_set_ne (Ne.symm hji)]; exact k1, Ent.le_blocks k2 hbj⟩
            · exact h'.elim
    | _ => exact h.elim
  | raw u' =>
    cases x with
    | raw u => have h' : u = u' := h; subst h'; exact hr
    | _ => exact h.elim
  | own j ver' =>
    cases x with
    | own i ver =>
      cases hb : Nat.beq i j with
      | false => simp only [SC.le, hb, cond_false] at h
      | true =>
        simp only [SC.le, hb, cond_true] at h
        have hij := Nat.eq_of_beq_eq_true hb
        subst hij
        obtain ⟨h1, hr⟩ := hr
        unfold OwnRep at hr
        cases q1 : H[i]? with
        | none => rw [q1] at hr; exact hr.elim
        | some en =>
          cases q2 : H'[i]? with
          | none => rw [q1, q2] at h; cases en <;> exact h.elim
          | some en' =>
            rw [q1, q2] at h
            cases en <;> try exact h.elim
            case row e t v1 xs =>
              cases en' with
              | dead => exact h.elim
              | blk => exact h.elim
              | tab => exact h.elim
              | iter => exact h.elim
              | ext => exact h.elim
              | mtab => exact h.elim
              | con => exact h.elim
              | gl => exact h.elim
              | obj => exact h.elim
              | row e' t' v2 xs' =>
                simp only at h
                rw [q1] at hr
                cases hb2 : (Nat.beq ver v1 && Nat.beq ver' v2) with
                | false => rw [hb2] at h; exact h.elim
                | true =>
                  rw [Bool.and_eq_true] at hb2
                  have e1 := Nat.eq_of_beq_eq_true hb2.1
                  have e2 := Nat.eq_of_beq_eq_true hb2.2
                  refine ⟨h1, ?_⟩
                  unfold OwnRep
                  rw [q2]
                  exact ⟨by omega, fun _ => hr.2 e1⟩
    | _ => exact h.elim
  | fn f' cs' =>
    cases x with
    | fn f cs =>
      have h' : (bif Nat.beq f f' && natsEq cs cs' && cs.all (fun i => Nat.blt i H'.length) then True else False) := h
      cases hb : (Nat.beq f f' && natsEq cs cs' && cs.all (fun i => Nat.blt i H'.length)) with
      | false => rw [hb] at h'; exact h'.elim
      | true =>
        rw [Bool.and_eq_true, Bool.and_eq_true] at hb
        have hf := Nat.eq_of_beq_eq_true hb.1.1
        have hc : cs = cs' := natsEq_eq hb.1.2
        subst hf; subst hc
        exact ⟨hr.1, fun i hi => by have := List.all_eq_true.1 hb.2 i hi; simpa [Nat.blt_eq] using this⟩
    | _ => exact h.elim
  | bfn f' cs' =>
    cases x with
    | bfn f cs =>
      have h' : (bif Nat.beq f f' && natsEq cs cs' && cs.all (fun i => Nat.blt i H'.length) then True else False) := h
      cases hb : (Nat.beq f f' && natsEq cs cs' && cs.all (fun i => Nat.blt i H'.length)) with
      | false => rw [hb] at h'; exact h'.elim
      | true =>
        rw [Bool.and_eq_true, Bool.and_eq_true] at hb
        have hf := Nat.eq_of_beq_eq_true hb.1.1
        have hc : cs = cs' := natsEq_eq hb.1.2
        subst hf; subst hc
        exact ⟨hr.1, fun i hi => by have := List.all_eq_true.1 hb.2 i hi; simpa [Nat.blt_eq] using this⟩
    | _ => exact h.elim
  | roc t xs => cases x <;> exact h.elim
  | bptr i p z k => cases x <;> exact h.elim
  | bsl i n => cases x <;> exact h.elim
  | reg i p z k o n => cases x <;> exact h.elim
  | nro t' b' xs' =>
    cases x with
    | nro t b xs =>
      have h' : bif b == b' then (if h : t = t' then (h ▸ xs) = xs' else False) else False := h
      cases hb : b == b' with
      | false => rw [hb] at h'; exact h'.elim
      | true =>
        rw [hb] at h'
        simp only [cond_true] at h'
        have hb := eq_of_beq hb
        subst hb
        split at h'
        · rename_i ht
          subst ht
          subst h'
          exact ⟨Ty.Rep.mono hH.keeps (.slice t) hr.1, hr.2⟩
        · exact h'.elim
    | ro t xs =>
      have h' : if h : t = t' then (h ▸ xs) = xs' ∧ (bif b' then xs' ≠ [] else True) else False := h
      split at h'
      · rename_i ht
        subst ht
        obtain ⟨h', hne⟩ := h'
        subst h'
        exact ⟨Ty.Rep.mono hH.keeps (.slice t) hr, fun hb e => by subst hb; exact absurd e hne⟩
      · exact h'.elim
    | raw u =>
      have h' : (bif isNil u then xs' = [] else False) := h
      cases hu : isNil u with
      | false => rw [hu] at h'; exact h'.elim
      | true =>
        rw [hu] at h'
        have hx : xs' = [] := h'
        subst hx
        have e : v = u := hr
        exact ⟨⟨none, 0, by rw [e, isNil_eq hu]; rfl, Nat.le_refl _, fun h => absurd rfl h⟩, fun _ _ => by rw [e, isNil_eq hu]⟩
    | _ => exact h.elim
  | suf j ver' n' =>
    cases x with
    | suf i ver n =>
      cases hb : Nat.beq i j with
      | false => simp only [SC.le, hb, cond_false] at h
      | true =>
        simp only [SC.le, hb, cond_true] at h
        have hij := Nat.eq_of_beq_eq_true hb
        subst hij
        obtain ⟨h1, hr⟩ := hr
        unfold SufRep at hr
        cases q1 : H[i]? with
        | none => rw [q1] at hr; exact hr.elim
        | some en =>
          cases q2 : H'[i]? with
          | none => rw [q1, q2] at h; cases en <;> exact h.elim
          | some en' =>
            rw [q1, q2] at h
            cases en <;> try exact h.elim
            case row e t v1 xs =>
              cases en' with
              | dead => exact h.elim
              | blk => exact h.elim
              | tab => exact h.elim
              | iter => exact h.elim
              | ext => exact h.elim
              | mtab => exact h.elim
              | con => exact h.elim
              | gl => exact h.elim
              | obj => exact h.elim
              | row e' t' v2 xs' =>
                simp only at h
                rw [q1] at hr
                cases hb2 : (Nat.beq ver v1 && Nat.beq ver' v2 && Nat.beq t.size t'.size) with
                | false => rw [hb2] at h; exact h.elim
                | true =>
                  rw [hb2] at h
                  simp only [cond_true] at h
                  rw [Bool.and_eq_true, Bool.and_eq_true] at hb2
                  have e1 := Nat.eq_of_beq_eq_true hb2.1.1
                  have e2 := Nat.eq_of_beq_eq_true hb2.1.2
                  have e3 := Nat.eq_of_beq_eq_true hb2.2
                  obtain ⟨h3, h4⟩ := h
                  subst h3
                  refine ⟨h1, ?_⟩
                  unfold SufRep
                  rw [q2]
                  exact ⟨by omega, fun _ => by rw [← h4, ← e3]; exact hr.2 e1⟩
    | _ => exact h.elim
  | mid j ver' n' k' =>
    cases x with
    | mid i ver n k =>
      cases hb : Nat.beq i j with
      | false => simp only [SC.le, hb, cond_false] at h
      | true =>
        simp only [SC.le, hb, cond_true] at h
        have hij := Nat.eq_of_beq_eq_true hb
        subst hij
        obtain ⟨h1, Q, m, c, hr, hv, hm⟩ := hr
        unfold SufRep at hr
        cases q1 : H[i]? with
        | none => rw [q1] at hr; exact hr.elim
        | some en =>
          cases q2 : H'[i]? with
          | none => rw [q1, q2] at h; cases en <;> exact h.elim
          | some en' =>
            rw [q1, q2] at h
            cases en <;> try exact h.elim
            case row e t v1 xs =>
              cases en' with
              | dead => exact h.elim
              | blk => exact h.elim
              | tab => exact h.elim
              | iter => exact h.elim
              | ext => exact h.elim
              | mtab => exact h.elim
              | con => exact h.elim
              | gl => exact h.elim
              | obj => exact h.elim
              | row e' t' v2 xs' =>
                simp only at h
                rw [q1] at hr
                cases hb2 : (Nat.beq ver v1 && Nat.beq ver' v2 && Nat.beq t.size t'.size) with
                | false => rw [hb2] at h; exact h.elim
                | true =>
                  rw [hb2] at h
                  simp only [cond_true] at h
                  rw [Bool.and_eq_true, Bool.and_eq_true] at hb2
                  have e1 := Nat.eq_of_beq_eq_true hb2.1.1
                  have e2 := Nat.eq_of_beq_eq_true hb2.1.2
                  have e3 := Nat.eq_of_beq_eq_true hb2.2
                  obtain ⟨⟨h3, h3'⟩, h4⟩ := h
                  subst h3; subst h3'
                  refine ⟨h1, Q, m, c, ?_, hv, hm⟩
                  unfold SufRep
                  rw [q2]
                  exact ⟨by omega, fun _ => by rw [← h4, ← e3]; exact hr.2 e1⟩
    | _ => exact h.elim
  | roa => cases x <;> exact h.elim
  | owna => cases x <;> exact h.elim
  | pre => cases x <;> exact h.elim
theorem leL_sound (hs : Sat B0 X0 v0 H g w) (hH : LeH fresh H H') : {l m : List SC} → {vs : List Value} → leL H H' l m → Reps w H g l vs → Reps w H' g m vs
  | [], [], vs, _, hr => ⟨hr.1, fun j c v h1 _ => by simp at h1⟩
  | x :: r, y :: s, vs, h, hr => by
    match vs, hr with
    | [], hr => exact absurd hr.1 (by simp)
    | v :: vs, hr =>
      have ih := leL_sound hs hH (vs := vs) h.2 ⟨by simpa using hr.1, fun j c u h1 h2 => hr.2 (j + 1) c u (by simpa using h1) (by simpa using h2)⟩
      refine ⟨by simp [ih.1], fun j c u h1 h2 => ?_⟩
      cases j with
      | zero => simp at h1 h2; subst h1; subst h2; exact SC.le_sound hs hH h.1 (hr.2 0 x v rfl rfl)
      | succ j => exact ih.2 j c u (by simpa using h1) (by simpa using h2)
  | [], _ :: _, _, h, _ => h.elim
  | _ :: _, [], _, h, _ => h.elim
theorem SV.le_sound (hs : Sat B0 X0 v0 H g w) (hH : LeH fresh H H') {x y : SV} {v : Value} (h : SV.le H H' x y) (hr : x.Rep w H g v) : y.Rep w H' g v := by
  unfold SV.le at h
  split at h
  · trivial
  · exact SC.le_sound hs hH h hr
  · obtain ⟨vs, h1, h2, h3⟩ := hr; exact ⟨vs, h1, leL_sound hs hH h h2, h3⟩
  · exact h.elim
theorem Ent.le_OK {B : Nat} {X : Nat → Prop} (hs : Sat B0 X0 v0 H g w) (hH : LeH fresh H H') {i : Nat} {f : Bool} : {e e' : Ent} → H[i]? = some e → H'[i]? = some e' → Ent.le H H' f e e' → e.OK B X w H g i → e'.OK B X w H' g i
  | _, .dead, _, _, _, _ => trivial
  | .blk t cs, .blk t' cs', _, _, h, ⟨vs, h1, h2, h3, h4⟩ => by
    simp only [Ent.le] at h
    cases hb : Nat.beq t t' with
    | false => rw [hb] at h; exact h.elim
    | true =>
      rw [hb] at h
      have := Nat.eq_of_beq_eq_true hb
      subst this
      exact ⟨vs, h1, leL_sound hs hH h h2, h3, h4⟩
  | .row e t ver xs, .row e' t' ver' xs', _, _, h, ⟨cells, h1, h2, h3, h4⟩ => by
    simp only [Ent.le] at h
    cases hb : (Nat.beq e e' && (f || Nat.beq ver ver')) with
    | false => rw [hb] at h; exact h.elim
    | true =>
      rw [hb] at h
      rw [Bool.and_eq_true] at hb
      have := Nat.eq_of_beq_eq_true hb.1
      subst this
      simp only [cond_true] at h
      split at h
      · rename_i ht
        subst ht
        subst h
        exact ⟨cells, h1, h2.mono (fun _ _ h => Ty.Rep.mono hH.keeps t h) (fun _ _ h => h), h3, h4⟩
      · exact h.elim
  | .tab a t es, .tab a' t' es', _, _, h, ⟨ents, c, h1, h2, h3⟩ => by
    simp only [Ent.le] at h
    cases hb : (a == a') with
    | false => rw [hb] at h; exact h.elim
    | true =>
      rw [hb] at h
      simp only [cond_true] at h
      have : a = a' := by simpa using hb
      subst this
      split at h
      · rename_i ht
        subst ht
        subst h
        exact ⟨ents, c, h1, ⟨h2.1.mono hH.keeps, h2.2⟩, h3⟩
      · exact h.elim
  | .iter j a t l c, .iter j' a' t' l' c', _, _, h, ⟨es, ents, clock, since, c0, seen, h1, h2, h3, ⟨h4, h5, h6, ⟨h7, h8⟩, h9⟩, h10⟩ => by
    simp only [Ent.le] at h
    cases hb : (Nat.beq j j' && a == a') with
    | false => rw [hb] at h; exact h.elim
    | true =>
      rw [hb] at h
      simp only [cond_true] at h
      rw [Bool.and_eq_true] at hb
      have hj := Nat.eq_of_beq_eq_true hb.1
      have ha : a = a' := by simpa using hb.2
      subst hj; subst ha
      split at h
      · rename_i ht
        subst ht
        obtain ⟨⟨k1, k2⟩, k3⟩ := h
        have k1 : l = l' := k1
        subst k1
        rw [h1] at k3
        cases q : H'[j]? with
        | none => rw [q] at k3; exact k3.elim
        | some en =>
          rw [q] at k3
          cases en <;> try exact k3.elim
          case tab a2 t2 es2 =>
            simp only at k3
            cases hb2 : (a == a2) with
            | false => rw [hb2] at k3; exact k3.elim
            | true =>
              rw [hb2] at k3
              simp only [cond_true] at k3
              have ha2 : a = a2 := by simpa using hb2
              subst ha2
              split at k3
              · rename_i ht2
                subst ht2
                have k3 : es = es2 := k3
                subst k3
                have hc : ∀ p, c' = some p → c = some p := fun p hp => by subst hp; exact k2
                exact ⟨es, ents, clock, since, c0, seen, q, h2, h3, ⟨h4, h5, h6, ⟨h7, fun p hp => h8 p (hc p hp)⟩, fun hne => by
                  cases c' with
                  | none => exact absurd rfl hne
                  | some p => exact h9 (by rw [hc p rfl]; simp)⟩, h10⟩
              · exact k3.elim
      · exact h.elim
  | .dead, .blk .., _, _, h, _ => h.elim
  | .dead, .row .., _, _, h, _ => h.elim
  | .dead, .tab .., _, _, h, _ => h.elim
  | .blk .., .row .., _, _, h, _ => h.elim
  | .blk .., .tab .., _, _, h, _ => h.elim
  | .row .., .blk .., _, _, h, _ => h.elim
  | .row .., .tab .., _, _, h, _ => h.elim
  | .tab .., .blk .., _, _, h, _ => h.elim
  | .tab .., .row .., _, _, h, _ => h.elim
  | .dead, .iter .., _, _, h, _ => h.elim
  | .blk .., .iter .., _, _, h, _ => h.elim
  | .row .., .iter .., _, _, h, _ => h.elim
  | .tab .., .iter .., _, _, h, _ => h.elim
  | .iter .., .blk .., _, _, h, _ => h.elim
  | .iter .., .row .., _, _, h, _ => h.elim
  | .iter .., .tab .., _, _, h, _ => h.elim
  | .dead, .ext .., _, _, h, _ => h.elim
  | .blk .., .ext .., _, _, h, _ => h.elim
  | .row .., .ext .., _, _, h, _ => h.elim
  | .tab .., .ext .., _, _, h, _ => h.elim
  | .iter .., .ext .., _, _, h, _ => h.elim
  | .ext .., .blk .., _, _, h, _ => by have h : Ent.blk .. = Ent.ext .. := h; cases h
  | .ext .., .row .., _, _, h, _ => by have h : Ent.row .. = Ent.ext .. := h; cases h
  | .ext .., .tab .., _, _, h, _ => by have h : Ent.tab .. = Ent.ext .. := h; cases h
  | .ext .., .iter .., _, _, h, _ => by have h : Ent.iter .. = Ent.ext .. := h; cases h
  | .ext a T E o pre, .ext a' T' E' o' pre', _, _, h, ⟨h1, h2⟩ => by
    have h : Ent.ext a' T' E' o' pre' = Ent.ext a T E o pre := h
    rw [h]
    exact ⟨h1, E.mono _ _ _ _ _ _ _ h2 (fun _ _ => rfl) hH.keeps⟩
  | .obj e pre t x post, .obj e' pre' t' x' post', _, _, h, ⟨v1, v2, v3, h1, h2, h3, h4, h5, h6⟩ => by
    simp only [Ent.le] at h
    cases hb : Nat.beq e e' with
    | false => rw [hb] at h; exact h.elim
    | true =>
      rw [hb] at h
      have ee := Nat.eq_of_beq_eq_true hb
      subst ee
      simp only [cond_true] at h
      obtain ⟨q1, q2, h⟩ := h
      split at h
      · rename_i ht
        subst ht
        have h : x = x' := h
        subst h
        exact ⟨v1, v2, v3, h1, leL_sound hs hH q1 h2, Ty.Rep.mono hH.keeps t h3, leL_sound hs hH q2 h4, h5, h6⟩
      · exact h.elim
  | .gl b e v, .gl b' e' v', _, _, h, ⟨h1, h3⟩ => by
    have h : Ent.gl b' e' v' = Ent.gl b e v := h
    cases h
    exact ⟨h1, (hH.keeps (w := w) (g := g)).block _ (Array.getElem?_eq_some_iff.1 h1).1 h3 |>.1⟩
  | .con e t x, .con e' t' x', _, _, h, ⟨vs, h1, h2, h3⟩ => by
    simp only [Ent.le] at h
    cases hb : Nat.beq e e' with
    | false => rw [hb] at h; exact h.elim
    | true =>
      rw [hb] at h
      have ee := Nat.eq_of_beq_eq_true hb
      subst ee
      simp only [cond_true] at h
      split at h
      · rename_i ht
        subst ht
        have h : x = x' := h
        subst h
        exact ⟨vs, h1, Ty.Rep.mono hH.keeps t h2, (hH.keeps.block _ (Array.getElem?_eq_some_iff.1 h1).1 h3).1⟩
      · exact h.elim
  | .mtab e t es hole, .mtab e' t' es' hole', _, _, h, hO => by
    have h : Ent.mtab e' t' es' hole' = Ent.mtab e t es hole := by cases hole <;> exact h
    rw [h]
    obtain ⟨ents, c, h1, ⟨⟨q1, q2, q3, q4⟩, h2⟩, h3, h4, h5⟩ := hO
    exact ⟨ents, c, h1, ⟨⟨q1, q2, fun k p m r1 r2 => ⟨(q3 k p m r1 r2).1, fun r3 => ((q3 k p m r1 r2).2 r3).mono hH.keeps fun _ _ => rfl⟩, q4⟩, h2⟩, h3, h4, h5⟩
  | .mtab e t es none, .tab a' t' es', hi, hi', h, ⟨ents, c, h1, ⟨⟨q1, q2, q3, q4⟩, h2⟩, h3, h4, h5⟩ => by
    simp only [Ent.le] at h
    cases a' with
    | true => exact h.elim
    | false =>
      simp only [cond_false] at h
      split at h
      · rename_i ht
        subst ht
        have h : es' = es := h
        subst h
        refine ⟨ents, c, h1, ⟨⟨q1, q2, fun k p m r1 r2 => ⟨(q3 k p m r1 r2).1, ?_⟩⟩, h2⟩, h5 _ (.inl rfl)⟩
        rw [if_neg Bool.false_ne_true]
        obtain ⟨cells, ho, hE, h6⟩ := (q3 k p m r1 r2).2 (by simp)
        rcases ho.2 with ⟨e1, e2⟩ | ⟨gb, cap, cur, e1, _, e2, e3, e4, e5, e6⟩
        · exact ⟨none, 0, by rw [e1, e2], by omega, fun hne => absurd (List.eq_nil_of_length_eq_zero e2) hne⟩
        · have hx : xblocks (g.v i) gb := (h3 gb).2 ⟨k, p, m, r1, r2, by simp, by rw [e1]; rfl⟩
          refine ⟨some ⟨gb, 0, none⟩, cap, by rw [e1], e3, fun hne => ⟨⟨gb, 0, none⟩, rfl, (Array.getElem?_eq_some_iff.1 e2).1, ⟨hs.okB gb ((hs.ents i _ hi).mine gb (.inr hx)), ?_⟩, ?_⟩⟩
          · rintro ⟨j, f, k1, k2⟩
            obtain ⟨f0, k3, k4⟩ := hH j f k1
            have hji := hs.apart j i f0 _ gb k3 hi (Ent.le_blocks k4 k2) (.inr hx)
            subst hji
            rw [hi'] at k1
            cases k1
            have k2 : gb = g.b j := k2
            exact h4 (by rw [← k2]; exact hx)
          · refine hE.mono (fun _ _ h => Ty.Rep.mono hH.keeps t h) fun k u hu => ?_
            have hk := (List.getElem?_eq_some_iff.1 hu).1
            rw [add_plain, Nat.zero_add, cell_at e2, ← hu, ← e6, List.getElem?_take, if_pos (by rw [← ho.1]; exact hk), Array.getElem?_toList]
      · exact h.elim
  | .dead, .mtab .., _, _, h, _ => h.elim
  | .blk .., .mtab .., _, _, h, _ => h.elim
  | .row .., .mtab .., _, _, h, _ => h.elim
  | .tab .., .mtab .., _, _, h, _ => h.elim
  | .iter .., .mtab .., _, _, h, _ => h.elim
  | .ext .., .mtab .., _, _, h, _ => by have h : Ent.mtab .. = Ent.ext .. := h; cases h
  | .mtab e t es none, .blk .., _, _, h, _ => h.elim
  | .mtab e t es none, .row .., _, _, h, _ => h.elim
  | .mtab e t es none, .iter .., _, _, h, _ => h.elim
  | .mtab e t es none, .ext .., _, _, h, _ => h.elim
  | .mtab e t es (some _), .blk .., _, _, h, _ => h.elim
  | .mtab e t es (some _), .row .., _, _, h, _ => h.elim
  | .mtab e t es (some _), .tab .., _, _, h, _ => h.elim
  | .mtab e t es (some _), .iter .., _, _, h, _ => h.elim
  | .mtab e t es (some _), .ext .., _, _, h, _ => h.elim
theorem slotsLe_sound (hs : Sat B0 X0 v0 H g w) (hH : LeH fresh H H') {t : List (Nat × SV)} {get : Nat → Value} (ht : ∀ d, (findT d t).Rep w H g (get d)) : (l : List (Nat × SV)) → slotsLe t H H' l → ∀ d, (findT d l).Rep w H' g (get d)
  | [], _, d => trivial
  | (k, v) :: r, h, d => by
    unfold findT
    cases hk : Nat.beq k d with
    | true =>
      have := Nat.eq_of_beq_eq_true hk
      subst this
      exact SV.le_sound hs hH h.1 (ht k)
    | false => exact slotsLe_sound hs hH ht r h.2 d
theorem St.le_sound {st inv : St} {a : Act} (hn : st.n = inv.n) (h : St.le fresh st inv) (hlen : I.Hi.length ≤ inv.h.length)
    (hver : ∀ i e t ver xs, i < I.Hi.length → fresh i = true → inv.h[i]? = some (.row e t ver xs) → ∀ ver0 xs0, I.Hi[i]? = some (.row e t ver0 xs0) → ver0 < ver)
    (hh : Holds I st a w) : Holds I inv a w := by
  obtain ⟨h1, h2, hn0, g, hs, hev, ht⟩ := hh
  have hH : LeH fresh st.h inv.h := fun i e' hi => by
    obtain ⟨e, q1, q2⟩ := entsLe_sound st.h inv.h 0 h.1 i e' hi
    rw [Nat.zero_add] at q2
    exact ⟨e, q1, q2⟩
  refine ⟨h1, h2.trans hn, hn.symm.trans hn0, g, ⟨hs.os, hs.tape, hs.output, hs.size0, hs.hB, hs.okB, hs.old, fun i e' hi => ?_, fun i j e' f' b hi hj hbi hbj => ?_⟩, ⟨hev.ok, hev.keeps.trans hH.keeps, hlen, fun i hi => hev.ptr i hi, fun i e t ver xs hi hr => ?_⟩, slotsLe_sound hs hH ht inv.t h.2⟩
  · obtain ⟨e, q1, q2⟩ := hH i e' hi
    exact Ent.le_OK hs hH q1 hi q2 (hs.ents i e q1)
  · obtain ⟨e, q1, q2⟩ := hH i e' hi
    obtain ⟨f, q3, q4⟩ := hH j f' hj
    exact hs.apart i j e f b q1 q3 (Ent.le_blocks q2 hbi) (Ent.le_blocks q4 hbj)
  · obtain ⟨e0, q1, q2⟩ := hH i _ hr
    cases e0 with
    | dead => exact q2.elim
    | blk => exact q2.elim
    | tab => exact q2.elim
    | iter => exact q2.elim
    | ext a T E o pre =>
      have q2 : Ent.row .. = Ent.ext a T E o pre := q2
      cases q2
    | mtab _ _ _ ho => cases ho <;> exact q2.elim
    | con => exact q2.elim
    | gl => exact q2.elim
    | obj => exact q2.elim
    | row e1 t1 ver1 xs1 =>
      simp only [Ent.le] at q2
      cases hb : (Nat.beq e1 e && (fresh i || Nat.beq ver1 ver)) with
      | false => rw [hb] at q2; exact q2.elim
      | true =>
        rw [hb] at q2
        rw [Bool.and_eq_true] at hb
        have e1e := Nat.eq_of_beq_eq_true hb.1
        subst e1e
        simp only [cond_true] at q2
        split at q2
        · rename_i htt
          subst htt
          subst q2
          obtain ⟨ver0, xs0, r1, r2⟩ := hev.row i _ _ _ _ hi q1
          refine ⟨ver0, xs0, r1, ?_⟩
          cases hf : fresh i with
          | true => exact .inl (hver i _ _ _ _ hi hf hr ver0 xs0 r1)
          | false =>
            rw [hf] at hb
            have : ver1 = ver := Nat.eq_of_beq_eq_true (by simpa using hb.2)
            subst this
            exact r2
        · exact q2.elim
theorem setEnts_length (H0 : List Ent) : (l : List (Nat × Ent)) → (H : List Ent) → (setEnts H0 l H).length = H.length
  | [], _ => rfl
  | (i, e) :: r, H => by
    unfold setEnts
    split
    · rw [setEnts_length]; simp
    · exact setEnts_length H0 r H
theorem setEnts_old (H0 : List Ent) : (l : List (Nat × Ent)) → (H : List Ent) → (i : Nat) → (∀ p ∈ l, p.1 ≠ i) → (setEnts H0 l H)[i]? = H[i]?
  | [], _, _, _ => rfl
  | (k, e) :: r, H, i, h => by
    unfold setEnts
    have hk : k ≠ i := h (k, e) (by simp)
    split
    · rw [setEnts_old H0 r _ i (fun p hp => h p (by simp [hp])), List.getElem?_set_ne hk]
    · exact setEnts_old H0 r H i (fun p hp => h p (by simp [hp]))
theorem setEnts_new (H0 : List Ent) : (l : List (Nat × Ent)) → (H : List Ent) → H.length = H0.length → (i : Nat) → i < H0.length → (∃ p ∈ l, p.1 = i) → ∃ old e, (i, e) ∈ l ∧ H0[i]? = some old ∧ (setEnts H0 l H)[i]? = some (bumpE old e)
  | [], _, _, _, _, h => by obtain ⟨p, hp, _⟩ := h; simp at hp
  | (k, e) :: r, H, hl, i, hi, h => by
    by_cases hr : ∃ p ∈ r, p.1 = i
    · unfold setEnts
      split
      · obtain ⟨o, e', q1, q2⟩ := setEnts_new H0 r (H.set k (bumpE _ e)) (by simp [hl]) i hi hr
        exact ⟨o, e', List.mem_cons_of_mem _ q1, q2⟩
      · obtain ⟨o, e', q1, q2⟩ := setEnts_new H0 r H hl i hi hr
        exact ⟨o, e', List.mem_cons_of_mem _ q1, q2⟩
    · have hki : k = i := by
        obtain ⟨p, hp, hpi⟩ := h
        rcases List.mem_cons.1 hp with h | h
        · rw [h] at hpi; exact hpi
        · exact absurd ⟨p, h, hpi⟩ hr
      subst hki
      have hold : H0[k]? = some H0[k] := List.getElem?_eq_getElem hi
      unfold setEnts
      rw [hold]
      refine ⟨H0[k], e, List.mem_cons_self, rfl, ?_⟩
      simp only
      rw [setEnts_old H0 r _ k (fun p hp hpk => hr ⟨p, hp, hpk⟩), List.getElem?_set_self (by omega)]
theorem head_ver {an : Ann} {st : St} {a : Act} (hh : Holds I st a w) (x : an.τ) : ∀ i e t ver xs, i < I.Hi.length → an.fresh x i = true → (an.head st x).h[i]? = some (.row e t ver xs) → ∀ ver0 xs0, I.Hi[i]? = some (.row e t ver0 xs0) → ver0 < ver := by
  intro i e t ver xs hi hf hr ver0 xs0 h0
  obtain ⟨_, _, _, g, hs, hev, _⟩ := hh
  have hlen : i < st.h.length := Nat.lt_of_lt_of_le hi hev.len
  unfold Ann.fresh at hf
  rw [Bool.and_eq_true, Bool.not_eq_true', List.any_eq_true, List.any_eq_false] at hf
  have hmem : ∃ p ∈ an.ents x, p.1 = i := by
    obtain ⟨p, hp, hpi⟩ := hf.1
    exact ⟨p, hp, Nat.eq_of_beq_eq_true hpi⟩
  obtain ⟨old, e1, q0, q1, q2⟩ := setEnts_new st.h (an.ents x) st.h rfl i hlen hmem
  have hk0 : keepE e1 = false := by
    have := hf.2 _ q0
    simpa using this
  have hr' : (setEnts st.h (an.ents x) st.h)[i]? = some (.row e t ver xs) := hr
  rw [q2] at hr'
  have hb := Option.some.inj hr'
  cases old with
  | dead => cases e1 <;> simp [bumpE] at hb
  | blk => cases e1 <;> simp [bumpE] at hb
  | tab => cases e1 <;> simp [bumpE] at hb
  | iter => cases e1 <;> simp [bumpE] at hb
  | ext => cases e1 <;> simp [bumpE] at hb
  | mtab => cases e1 <;> simp [bumpE] at hb
  | con => cases e1 <;> simp [bumpE] at hb
  | gl => cases e1 <;> simp [bumpE] at hb
  | obj => cases e1 <;> simp [bumpE] at hb
  | row e2 t2 ver2 xs2 =>
    obtain ⟨v0, x0, r1, r2⟩ := hev.row i _ _ _ _ hi q1
    rw [h0] at r1
    have r1' := Option.some.inj r1
    cases e1 with
    | dead => simp [bumpE] at hb
    | blk => simp [bumpE] at hb
    | tab => simp [bumpE] at hb
    | iter => simp [bumpE] at hb
    | ext => simp [bumpE] at hb
    | mtab => simp [bumpE] at hb
    | con => simp [bumpE] at hb
    | gl => simp [bumpE] at hb
    | obj => simp [bumpE] at hb
    | row e3 t3 ver3 xs3 =>
      simp only [bumpE, Ent.row.injEq] at hb r1'
      have hv0 : ver0 = v0 := r1'.2.2.1
      have hk1 : Nat.beq ver3 0 = true := by simpa [keepE] using hk0
      have hv : ver2 + 1 = ver := by have := hb.2.2.1; rw [hk1] at this; exact this
      rcases r2 with r2 | ⟨r2, _⟩ <;> omega
theorem head_len (an : Ann) (st : St) (x : an.τ) : (an.head st x).h.length = st.h.length := setEnts_length _ _ _
theorem matSlots_sound : (l : List (Nat × TypeId × Ty)) → {st : St} → {a : Act} → Holds I st a w → Holds I (matSlots l st) a w
  | [], st, a, h => h
  | (d, e, t) :: r, st, a, h => by
    unfold matSlots
    split
    · rename_i u heq
      cases hb : (isNil u && Nat.blt d st.n) with
      | false => exact matSlots_sound r h
      | true =>
        refine matSlots_sound r ?_
        rw [Bool.and_eq_true] at hb
        obtain ⟨h1, h2, hn, g, hs, hev, ht⟩ := h
        have hd := ht d
        rw [heq] at hd
        have hv : a.tmps.getD d undef = .slice none 0 0 := by
          have : a.tmps.getD d undef = u := hd
          rw [this, isNil_eq hb.1]
        obtain ⟨g', b1, b2, b3⟩ := new_row hs e t (xs := []) (w1 := w) (World.grownBy.refl w none) (v := .slice none 0 0) (cells := []) (World.ownsRow_nil w 0 e t.size) (fun b hb => by simp [Value.ownBlock] at hb)
          (fun i x hx => by simp at hx) (fun u hu => by simp at hu)
        refine ⟨h1, h2, hn, g', b1, hev.trans b2, fun k => ?_⟩
        unfold findT
        cases hk : Nat.beq d k with
        | true =>
          have := Nat.eq_of_beq_eq_true hk
          subst this
          rw [hv]
          exact own_rep (w := w) (e := e) (T := t) (xs := []) (by simp) b3 rfl
        | false => exact (ht k).evo b2
    · exact matSlots_sound r h
theorem matCells_sound : (l : List (Nat × Nat × TypeId × Ty)) → {st : St} → {a : Act} → Holds I st a w → Holds I (matCells l st) a w
  | [], st, a, h => h
  | (i, o, e, t) :: r, st, a, h => by
    unfold matCells
    split
    · rename_i ty cs heq
      split
      · rename_i u hcell
        cases hb : isNil u with
        | false => exact matCells_sound r h
        | true =>
          refine matCells_sound r ?_
          obtain ⟨h1, h2, hn, g, hs, hev, ht⟩ := h
          obtain ⟨g', b1, b2, b3⟩ := new_row hs e t (xs := []) (w1 := w) (World.grownBy.refl w none) (v := .slice none 0 0) (cells := []) (World.ownsRow_nil w 0 e t.size) (fun b hb => by simp [Value.ownBlock] at hb)
            (fun i x hx => by simp at hx) (fun u hu => by simp at hu)
          have hi : i < st.h.length := (List.getElem?_eq_some_iff.1 heq).1
          have heq' : (st.h ++ [Ent.row e t 0 []])[i]? = some (.blk ty cs) := by rw [List.getElem?_append_left hi]; exact heq
          obtain ⟨c1, c2⟩ := Sat.upd (g1 := g') (w1 := w) b1 i _ (.blk ty (cs.set o (.own st.h.length 0))) heq' rfl (fun _ => rfl) (fun _ _ => rfl) rfl rfl rfl (Nat.le_refl _) (fun _ _ _ => rfl) (fun _ h => .inl h) (fun _ _ _ _ h => by cases h) (fun hev' => by
            obtain ⟨vs, k1, k2, k3, k4⟩ := b1.ents i _ heq'
            refine ⟨vs, k1, ?_, k3, k4⟩
            have hr := k2.evo hev'
            refine ⟨by simp [hr.1], fun j c v q1 q2 => ?_⟩
            rw [List.getElem?_set] at q1
            split at q1
            · rename_i hoj
              subst hoj
              split at q1
              · cases q1
                have hu := k2.2 o _ v hcell q2
                have hvn : v = .slice none 0 0 := by have : v = u := hu; rw [this, isNil_eq hb]
                subst hvn
                refine own_rep (w := w) (e := e) (T := t) (xs := []) ?_ b3 rfl
                rw [List.getElem?_set_ne (by omega)]
                simp
              · cases q1
            · exact hr.2 j c v q1 q2)
          exact ⟨h1, h2, hn, g', c1, (hev.trans b2).trans c2, fun k => ((ht k).evo b2).evo c2⟩
      · exact matCells_sound r h
    · exact matCells_sound r h
end
end Go.SX

/- SX, part LQ: a block that holds no cells, and that no entry owns, may change. -/
namespace Go.SX
open Go Go.RowKit
structure Quiet (w w' : World) (l : Nat) : Prop where
  size : w'.heap.size = w.heap.size
  oth : ∀ b, b ≠ l → w'.heap[b]? = w.heap[b]?
  nc : ∀ a : Addr, a.block = l → w.cell? a = none
  os : w'.os = w.os
  tape : w'.tape = w.tape
  output : w'.output = w.output
theorem quiet_put {w : World} {l : Nat} {o : Obj} (o' : Obj) (h : w.heap[l]? = some o) (hc : ∀ (vs : Array Value) ty p, o ≠ .cells vs ty p) : Quiet w (w.putObj l o') l := by
  refine ⟨by simp, fun b hb => World.putObj_heap_other hb, fun a ha => ?_, rfl, rfl, rfl⟩
  unfold World.cell?
  rw [ha, h]
  cases o <;> first | rfl | exact absurd rfl (hc _ _ _)
section
variable {w w' : World} {l : Nat} {H : List Ent} {g : Gh} {B : Nat} {X : Nat → Prop} {w0 : World}
theorem elems_block {α : Type} {R : α → List Value → Prop} {size : Nat} {xs : List α} {ad : Addr} (hq : Quiet w w' l) (hp : 0 < size) (hx : xs ≠ []) (h : ElemsAt R size xs fun k => w.cell? (ad.add k)) : ad.block ≠ l := by
  intro e
  cases xs with
  | nil => exact hx rfl
  | cons x r =>
    obtain ⟨c, _, h2, h3⟩ := h 0 x rfl
    have hc : c[0]? = some c[0] := List.getElem?_eq_getElem (by omega)
    have h4 : w.cell? (ad.add (0 * size + 0)) = some c[0] := h3 0 _ hc
    rw [hq.nc _ (by rw [block_add]; exact e)] at h4
    cases h4
theorem elems_quiet {α : Type} {R R' : α → List Value → Prop} {size : Nat} {xs : List α} {ad : Addr} (hq : Quiet w w' l) (hR : ∀ x c, R x c → R' x c) (hb : ad.block ≠ l) (h : ElemsAt R size xs fun k => w.cell? (ad.add k)) : ElemsAt R' size xs fun k => w'.cell? (ad.add k) :=
  h.mono hR fun k u hu => by rw [← hu]; exact World.cell?_of_block (by rw [block_add]; exact hq.oth _ hb)
theorem Ty.Rep.quiet (hq : Quiet w w' l) {ok : Nat → Prop} : (t : Ty) → {x : t.den} → {cs : List Value} → t.Rep w ok x cs → t.Rep w' (fun b => ok b ∧ b ≠ l) x cs
  | .int _, _, _, h | .bool, _, _, h | .str, _, _, h => h
  | .pair a b, _, _, ⟨c1, c2, e, h1, h2⟩ => ⟨c1, c2, e, Ty.Rep.quiet hq a h1, Ty.Rep.quiet hq b h2⟩
  | .slice t, _, _, ⟨A, cap, e, h1, h2⟩ => ⟨A, cap, e, h1, fun hx => by
    obtain ⟨ad, k1, k2, k3, k4⟩ := h2 hx
    have hb := elems_block hq t.size_pos hx k4
    exact ⟨ad, k1, by rw [hq.size]; exact k2, ⟨k3, hb⟩, elems_quiet hq (fun _ _ h => Ty.Rep.quiet hq t h) hb k4⟩⟩
  | .arr _ t, _, _, ⟨h1, h2, h3⟩ => ⟨h1, h2, h3.mono (fun _ _ h => Ty.Rep.quiet hq t h) fun _ _ h => h⟩
theorem Ty.Rep.sub {t : Ty} {x : t.den} {cs : List Value} {ok ok' : Nat → Prop} (h : t.Rep w ok x cs) (hk : ∀ b, b < w.heap.size → ok b → ok' b) : t.Rep w ok' x cs :=
  Ty.Rep.mono ⟨Nat.le_refl _, fun b hb ho => ⟨hk b hb ho, rfl⟩⟩ t h
def Gh.less (g : Gh) (l : Nat) : Gh := ⟨g.b, g.v, fun b => g.ok b ∧ b ≠ l⟩
theorem less_stable {b : Nat} (h : Stable H g b ∧ b ≠ l) : Stable H (g.less l) b := ⟨⟨h.1.1, h.2⟩, h.1.2⟩
theorem SC.Rep.quiet (hq : Quiet w w' l) : {x : SC} → {v : Value} → x.Rep w H g v → x.Rep w' H (g.less l) v
  | .any, _, h | .int .., _, h | .prop .., _, h | .bool .., _, h | .kb _, _, h | .str _, _, h | .raw _, _, h => h
  | .ptr i o, _, h => h
  | .ro t xs, _, h => (Ty.Rep.quiet hq (.slice t) h).sub fun _ _ h => less_stable h
  | .roa t xs k off, _, ⟨h0, ad, h1, h2, h3, h4⟩ => by
    have hb := elems_block hq t.size_pos (by intro e; subst e; simp at h0) h4
    exact ⟨h0, ad, h1, by rw [hq.size]; exact h2, less_stable ⟨h3, hb⟩, elems_quiet hq (fun _ _ h => (Ty.Rep.quiet hq t h).sub fun _ _ h => less_stable h) hb h4⟩
  | .roc t xs, _, h => ⟨(Ty.Rep.quiet hq (.slice t) h.1).sub fun _ _ h => less_stable h, h.2⟩
  | .nro t b xs, _, h => ⟨(Ty.Rep.quiet hq (.slice t) h.1).sub fun _ _ h => less_stable h, h.2⟩
  | .own i ver, v, h => h
  | .owna i ver k off, v, h => h
  | .pre i ver n, v, h => h
  | .suf i ver n, v, h => h
  | .mid i ver o n, v, h => h
  | .tab i, _, h => h
  | .fn f caps, v, h => h
  | .bfn f bs, v, h => h
  | .bptr i p z k, v, h => h
  | .bsl i n, v, h => h
  | .reg i p z k o n, v, h => h
theorem Reps.quiet (hq : Quiet w w' l) {xs : List SC} {vs : List Value} (h : Reps w H g xs vs) : Reps w' H (g.less l) xs vs := ⟨h.1, fun j c v h1 h2 => (h.2 j c v h1 h2).quiet hq⟩
theorem CompRep.quiet (hq : Quiet w w' l) {p : Bool × List SC} {v : Value} (h : CompRep w H g p v) : CompRep w' H (g.less l) p v := by
  obtain ⟨vs, h1, h2, h3⟩ := h
  exact ⟨vs, h1.quiet hq, h2, h3⟩
theorem SV.Rep.quiet (hq : Quiet w w' l) : {x : SV} → {v : Value} → x.Rep w H g v → x.Rep w' H (g.less l) v
  | .c _, _, h => SC.Rep.quiet hq h
  | .agg _, _, ⟨vs, h1, h2, h3⟩ => ⟨vs, h1, h2.quiet hq, h3⟩
  | .tup _, _, ⟨vs, h1, h2, h3⟩ => ⟨vs, h1, h2, fun j p u hp hu => (h3 j p u hp hu).quiet hq⟩
  | .dt t _, _, ⟨vs, h1, h2⟩ => ⟨vs, h1, (Ty.Rep.quiet hq t h2).sub fun _ _ h => less_stable h⟩
  | .obj _ t _ _, _, ⟨v1, v2, v3, h1, h2, h3, h4, h5⟩ => ⟨v1, v2, v3, h1, h2.quiet hq, (Ty.Rep.quiet hq t h3).sub fun _ _ h => less_stable h, h4.quiet hq, h5⟩
def isExt : Ent → Bool
  | .ext .. => true
  | _ => false
theorem Ent.OK.quiet (hq : Quiet w w' l) (hno : ¬ Owned H g l) {i : Nat} : {e : Ent} → isExt e = false → H[i]? = some e → e.OK B X w H g i → e.OK B X w' H (g.less l) i
  | .dead, _, _, _ => trivial
  | .blk ty cs, _, hi, ⟨vs, h1, h2, h3, h4⟩ => ⟨vs, (hq.oth (g.b i) fun e => hno ⟨i, _, hi, e.symm⟩).trans h1, h2.quiet hq, h3, h4⟩
  | .row e t ver xs, _, hi, ⟨cells, ⟨ho, h1⟩, h2, h3, h4⟩ => by
    refine ⟨cells, ⟨ho, ?_⟩, h2.mono (fun _ _ h => (Ty.Rep.quiet hq t h).sub fun _ _ h => less_stable h) (fun _ _ h => h), h3, h4⟩
    rcases h1 with h1 | ⟨gb, cap, cur, e1, e2, e3, r⟩
    · exact .inl h1
    · refine .inr ⟨gb, cap, cur, e1, e2, ?_, r⟩
      rw [hq.oth gb fun e => hno ⟨i, _, hi, by subst e; show (g.v i).ownBlock = some gb; rw [show g.v i = _ from e1]; rfl⟩]
      exact e3
  | .tab a t es, _, hi, ⟨ents, c, h1, h2, h3⟩ => by
    refine ⟨ents, c, (hq.oth (g.b i) fun e => hno ⟨i, _, hi, e.symm⟩).trans h1, ⟨?_, h2.2⟩, h3⟩
    obtain ⟨q1, q2, q4⟩ := h2.1
    refine ⟨q1, q2, fun k p m hp hm => ?_⟩
    obtain ⟨r1, r2⟩ := q4 k p m hp hm
    refine ⟨r1, ?_⟩
    split
    · rename_i ha; rw [if_pos ha] at r2; obtain ⟨cs, e, r2⟩ := r2; exact ⟨cs, e, (Ty.Rep.quiet hq t r2).sub fun _ _ h => less_stable h⟩
    · rename_i ha; rw [if_neg ha] at r2; exact (Ty.Rep.quiet hq t r2).sub fun _ _ h => less_stable h
  | .iter j a t l' cu, _, hi, ⟨es, ents, c, since, c0, seen, h1, h2, h3, h4, h5⟩ =>
    ⟨es, ents, c, since, c0, seen, h1, (hq.oth (g.b j) fun e => hno ⟨j, _, h1, e.symm⟩).trans h2, (hq.oth (g.b i) fun e => hno ⟨i, _, hi, e.symm⟩).trans h3, h4, h5⟩
  | .ext .., h, _, _ => by cases h
  | .obj ty pre t x post, _, hi, ⟨v1, v2, v3, h1, h2, h3, h4, h5, h6⟩ => ⟨v1, v2, v3, (hq.oth (g.b i) fun e => hno ⟨i, _, hi, e.symm⟩).trans h1, h2.quiet hq, (Ty.Rep.quiet hq t h3).sub fun _ _ h => less_stable h, h4.quiet hq, h5, h6⟩
  | .gl b ty v, _, _, ⟨h1, h3⟩ => by
    have hne : b ≠ l := fun e => by
      have h4 := hq.nc ⟨b, 0, none⟩ e
      rw [cell_at h1] at h4
      simp at h4
    exact ⟨(hq.oth b hne).trans h1, less_stable ⟨h3, hne⟩⟩
  | .con ty t x, _, _, ⟨vs, h1, h2, h3⟩ => by
    have hne : g.b i ≠ l := fun e => by
      have hl := Ty.Rep.len t h2
      have hp := t.size_pos
      have h4 := hq.nc ⟨g.b i, 0, none⟩ e
      rw [cell_at h1] at h4
      have h5 : vs.length = 0 := by simpa using h4
      omega
    exact ⟨vs, (hq.oth _ hne).trans h1, (Ty.Rep.quiet hq t h2).sub fun _ _ h => less_stable h, less_stable ⟨h3, hne⟩⟩
  | .mtab e t es hole, _, hi, ⟨ents, c, h1, ⟨⟨q1, q2, q3, q4⟩, h2⟩, h3, h4, h5⟩ => by
    refine ⟨ents, c, (hq.oth (g.b i) fun e => hno ⟨i, _, hi, .inl e.symm⟩).trans h1, ⟨⟨q1, q2, fun k p m r1 r2 => ⟨(q3 k p m r1 r2).1, fun r3 => ?_⟩, q4⟩, h2⟩, h3, h4, h5⟩
    obtain ⟨cells, ⟨ho, k1⟩, k2, k3⟩ := (q3 k p m r1 r2).2 r3
    refine ⟨cells, ⟨ho, ?_⟩, k2.mono (fun _ _ h => (Ty.Rep.quiet hq t h).sub fun _ _ h => less_stable h) (fun _ _ h => h), k3⟩
    rcases k1 with k1 | ⟨gb, cap, cur, e1, e2, e3, r⟩
    · exact .inl k1
    · refine .inr ⟨gb, cap, cur, e1, e2, ?_, r⟩
      rw [hq.oth gb fun e => hno ⟨i, _, hi, .inr ((h3 l).2 ⟨k, p, m, r1, r2, r3, by rw [e1, ← e]; rfl⟩)⟩]
      exact e3
theorem less_evo (w : World) (H : List Ent) (g : Gh) (l : Nat) : EvoR w H (g.less l) w H g :=
  ⟨⟨Nat.le_refl _, fun _ _ h => ⟨⟨h.1.1, h.2⟩, rfl⟩⟩, Nat.le_refl _, fun _ _ => rfl, fun _ _ _ ver xs _ h => ⟨ver, xs, h, .inr ⟨rfl, rfl, rfl⟩⟩⟩
theorem same_iter {H : List Ent} {g g' : Gh} {w : World} (hb : g'.b = g.b) {e : Ent} : ∀ (j : Nat) (a : Bool) (t : Ty) (l : List (Int × t.den)) (c : Option (Int × t.den)) (es : List (Int × t.den)), e = Ent.iter j a t l c → H[j]? = some (Ent.tab a t es) → H[j]? = H[j]? ∧ g'.b j = g.b j ∧ w.heap[g.b j]? = w.heap[g.b j]? :=
  fun j _ _ _ _ _ _ _ => ⟨rfl, by rw [hb], rfl⟩
theorem noExt_get : {H : List Ent} → noExt H = true → ∀ (i : Nat) (e : Ent), H[i]? = some e → isExt e = false
  | [], _, i, e, h => by simp at h
  | x :: r, hn, 0, e, h => by
    simp at h
    subst h
    cases x <;> first | rfl | simp [noExt] at hn
  | x :: r, hn, i + 1, e, h => by
    refine noExt_get (H := r) ?_ i e (by simpa using h)
    cases x <;> first | exact hn | simp [noExt] at hn
theorem noWalk_get : {H : List Ent} → noWalk H = true → ∀ (k j : Nat) (a : Bool) (t : Ty) (l : List (Int × t.den)) (c : Option (Int × t.den)), H[k]? ≠ some (Ent.iter j a t l c)
  | [], _, k, j, a, t, l, c, h => by simp at h
  | e :: r, hn, 0, j, a, t, l, c, h => by
    simp at h
    subst h
    simp [noWalk] at hn
  | e :: r, hn, k + 1, j, a, t, l, c, h => by
    refine noWalk_get (H := r) ?_ k j a t l c (by simpa using h)
    cases e with
    | iter => simp [noWalk] at hn
    | ext => exact hn
    | mtab => exact hn
    | con => exact hn
    | gl => exact hn
    | obj => exact hn
    | dead => exact hn
    | blk => exact hn
    | row => exact hn
    | tab => exact hn
theorem Sat.quiet (hs : Sat B X w0 H g w) (hq : Quiet w w' l) (hno : ¬ Owned H g l) (hl : B ≤ l ∨ X l) (hx : noExt H = true) : Sat B X w0 H g w' := by
  refine ⟨hq.os.trans hs.os, hq.tape.trans hs.tape, hq.output.trans hs.output, by rw [hq.size]; exact hs.size0, by rw [hq.size]; exact hs.hB, hs.okB, fun b hb hxb => ?_, fun i e hi => ?_, hs.apart⟩
  · rw [hq.oth b fun e => ?_]
    · exact hs.old b hb hxb
    · subst e; rcases hl with hl | hl
      · omega
      · exact hxb hl
  · exact Ent.OK.evoR (less_evo w' H g l) rfl rfl (same_iter rfl) (Ent.OK.quiet hq hno (noExt_get hx i e hi) hi (hs.ents i e hi)) fun _ _ => rfl
theorem SV.Rep.quiet' (hq : Quiet w w' l) {x : SV} {v : Value} (h : x.Rep w H g v) : x.Rep w' H g v := (h.quiet hq).evoR (less_evo w' H g l)
theorem Ent.OK.move {i : Nat} {B' : Nat} {X' : Nat → Prop} : {e : Ent} → e.OK B X w H g i → (∀ b, e.blocks g i b → B' ≤ b ∨ X' b) → e.OK B' X' w H g i
  | .dead, _, _ => trivial
  | .blk .., ⟨vs, h1, h2, h3, _⟩, h => ⟨vs, h1, h2, h3, h _ rfl⟩
  | .row .., ⟨cells, h1, h2, h3, _⟩, h => ⟨cells, h1, h2, h3, fun b hb => h b hb⟩
  | .tab .., ⟨ents, c, h1, h2, _⟩, h => ⟨ents, c, h1, h2, h _ rfl⟩
  | .iter .., ⟨es, ents, c, since, c0, seen, h1, h2, h3, h4, _⟩, h => ⟨es, ents, c, since, c0, seen, h1, h2, h3, h4, h _ rfl⟩
  | .ext .., ⟨h1, h2⟩, h => ⟨fun b hb => ⟨(h1 b hb).1, h b hb⟩, h2⟩
  | .con .., h1, _ => h1
  | .gl .., h1, _ => h1
  | .obj .., ⟨v1, v2, v3, h1, h2, h3, h4, h5, _⟩, h => ⟨v1, v2, v3, h1, h2, h3, h4, h5, h _ rfl⟩
  | .mtab .., ⟨ents, c, h1, h2, h3, h4, _⟩, h => ⟨ents, c, h1, h2, h3, h4, fun b hb => h b hb⟩
end
end Go.SX

/- SX, part LR: the rounds of a range over a function. -/
namespace Go.SX
open Go Go.RowKit
theorem any_beq {js : List Nat} {i : Nat} : js.any (Nat.beq i) = true ↔ i ∈ js := by
  rw [List.any_eq_true]
  exact ⟨fun ⟨j, h1, h2⟩ => by rw [Nat.eq_of_beq_eq_true h2]; exact h1, fun h => ⟨i, h, Nat.beq_refl i⟩⟩
theorem any_nbeq {js : List Nat} {i : Nat} (h : i ∉ js) : js.any (Nat.beq i) = false := by
  cases hb : js.any (Nat.beq i) with
  | false => rfl
  | true => exact absurd (any_beq.1 hb) h
theorem hideAt_get (js : List Nat) : (l : List Ent) → (k i : Nat) → (hideAt js k l)[i]? = (l[i]?).map fun e => bif js.any (Nat.beq (k + i)) && !(isCon e) then .dead else e
  | [], k, i => by simp [hideAt]
  | e :: r, k, 0 => by simp [hideAt]
  | e :: r, k, i + 1 => by simp only [hideAt, List.getElem?_cons_succ]; rw [hideAt_get js r (k + 1) i, show k + 1 + i = k + (i + 1) by omega]
theorem keepAt_get (js : List Nat) : (l : List Ent) → (k i : Nat) → (keepAt js k l)[i]? = (l[i]?).map fun e => bif js.any (Nat.beq (k + i)) then e else .dead
  | [], k, i => by simp [keepAt]
  | e :: r, k, 0 => by simp [keepAt]
  | e :: r, k, i + 1 => by simp only [keepAt, List.getElem?_cons_succ]; rw [keepAt_get js r (k + 1) i, show k + 1 + i = k + (i + 1) by omega]
theorem joinAt_get (js : List Nat) : (l m : List Ent) → l.length = m.length → (k i : Nat) → (joinAt js k l m)[i]? = bif js.any (Nat.beq (k + i)) then l[i]? else m[i]?
  | [], [], _, k, i => by simp [joinAt]
  | c :: r, e :: s, h, k, 0 => by cases hb : js.any (Nat.beq k) <;> simp [joinAt, hb]
  | c :: r, e :: s, h, k, i + 1 => by
    simp only [joinAt, List.getElem?_cons_succ]
    rw [joinAt_get js r s (by simpa using h) (k + 1) i, show k + 1 + i = k + (i + 1) by omega]
  | [], _ :: _, h, _, _ => by simp at h
  | _ :: _, [], h, _, _ => by simp at h
theorem hideAt_length (js : List Nat) : (l : List Ent) → (k : Nat) → (hideAt js k l).length = l.length
  | [], _ => rfl
  | e :: r, k => by simp [hideAt, hideAt_length js r (k + 1)]
theorem keepAt_length (js : List Nat) : (l : List Ent) → (k : Nat) → (keepAt js k l).length = l.length
  | [], _ => rfl
  | e :: r, k => by simp [keepAt, keepAt_length js r (k + 1)]
theorem joinAt_length (js : List Nat) : (l m : List Ent) → l.length = m.length → (k : Nat) → (joinAt js k l m).length = l.length
  | [], [], _, _ => rfl
  | c :: r, e :: s, h, k => by simp [joinAt, joinAt_length js r s (by simpa using h) (k + 1)]
  | [], _ :: _, h, _ => by simp at h
  | _ :: _, [], h, _ => by simp at h
theorem con_blocks {e : Ent} (h : isCon e = true) (g : Gh) (i b : Nat) : ¬ e.blocks g i b := by
  cases e <;> first | cases h; done | exact id
theorem hide_some {js : List Nat} {l : List Ent} {i : Nat} {e : Ent} (h : (hideAt js 0 l)[i]? = some e) : e = .dead ∨ ((i ∈ js → isCon e = true) ∧ l[i]? = some e) := by
  rw [hideAt_get, Nat.zero_add] at h
  cases hl : l[i]? with
  | none => rw [hl] at h; simp at h
  | some e' =>
    rw [hl] at h
    cases hb : (js.any (Nat.beq i) && !(isCon e')) with
    | true => simp only [Option.map_some, hb, cond_true, Option.some.injEq] at h; exact .inl h.symm
    | false =>
      simp only [Option.map_some, hb, cond_false, Option.some.injEq] at h
      subst h
      refine .inr ⟨fun hm => ?_, rfl⟩
      rw [any_beq.2 hm] at hb
      simpa using hb
theorem hide_of {js : List Nat} {l : List Ent} {i : Nat} {e : Ent} (hi : i ∉ js) (h : l[i]? = some e) : (hideAt js 0 l)[i]? = some e := by
  rw [hideAt_get, Nat.zero_add, h]
  simp [any_nbeq hi]
theorem keep_some {js : List Nat} {l : List Ent} {i : Nat} {e : Ent} (h : (keepAt js 0 l)[i]? = some e) : e = .dead ∨ (i ∈ js ∧ l[i]? = some e) := by
  rw [keepAt_get, Nat.zero_add] at h
  cases hl : l[i]? with
  | none => rw [hl] at h; simp at h
  | some e' =>
    rw [hl] at h
    cases hb : js.any (Nat.beq i) with
    | false => rw [hb] at h; simp at h; exact .inl h.symm
    | true =>
      rw [hb] at h
      simp at h
      subst h
      exact .inr ⟨any_beq.1 hb, rfl⟩
theorem sameAt_get {H H' : List Ent} : {js : List Nat} → sameAt js H H' → ∀ i ∈ js, H[i]? = H'[i]?
  | [], _, i, h => by simp at h
  | j :: r, hs, i, h => by
    rcases List.mem_cons.1 h with h | h
    · subst h; exact hs.1
    · exact sameAt_get hs.2 i h
theorem flatAt_get {H : List Ent} : {js : List Nat} → flatAt js H = true → ∀ i ∈ js, (∃ ty cs, H[i]? = some (.blk ty cs) ∧ cs.all SC.noOwn = true) ∨ ∃ ty t x, H[i]? = some (.con ty t x)
  | [], _, i, h => by simp at h
  | j :: r, hs, i, h => by
    unfold flatAt at hs
    rw [Bool.and_eq_true] at hs
    rcases List.mem_cons.1 h with h | h
    · subst h
      have h1 := hs.1
      split at h1
      · rename_i ty cs heq; exact .inl ⟨ty, cs, heq, h1⟩
      · rename_i ty t x heq; exact .inr ⟨ty, t, x, heq⟩
      · cases h1
    · exact flatAt_get hs.2 i h
theorem SC.Rep.flat {w w' : World} {H H' : List Ent} {g g' : Gh} (hk : Keeps w (Stable H g) w' (Stable H' g')) (hl : H.length ≤ H'.length) (hp : ∀ i, i < H.length → g'.b i = g.b i) : {x : SC} → {v : Value} → x.noOwn = true → x.Rep w H g v → x.Rep w' H' g' v
  | .any, _, _, h | .int .., _, _, h | .prop .., _, _, h | .bool .., _, _, h | .kb _, _, _, h | .str _, _, _, h | .raw _, _, _, h => h
  | .ptr i o, _, _, ⟨h1, h2⟩ => ⟨Nat.lt_of_lt_of_le h1 hl, by rw [hp i h1]; exact h2⟩
  | .ro t xs, _, _, h => Ty.Rep.mono hk (.slice t) h
  | .roa t xs k off, _, _, ⟨h0, ad, h1, h2, h3, h4⟩ => by
    obtain ⟨k1, k2⟩ := hk.block _ h2 h3
    refine ⟨h0, ad, h1, Nat.lt_of_lt_of_le h2 hk.size, k1, h4.mono (fun _ _ h => Ty.Rep.mono hk t h) fun j u hu => ?_⟩
    rw [← hu]
    exact World.cell?_of_block (by rw [block_add]; exact k2)
  | .roc t xs, _, _, h => ⟨Ty.Rep.mono hk (.slice t) h.1, h.2⟩
  | .nro t b xs, _, _, h => ⟨Ty.Rep.mono hk (.slice t) h.1, h.2⟩
  | .own .., _, hn, _ | .owna .., _, hn, _ | .pre .., _, hn, _ | .suf .., _, hn, _ | .mid .., _, hn, _ => by cases hn
  | .tab i, _, _, ⟨h1, h2⟩ => ⟨Nat.lt_of_lt_of_le h1 hl, by rw [hp i h1]; exact h2⟩
  | .bsl i n, _, _, ⟨h1, h2⟩ => ⟨Nat.lt_of_lt_of_le h1 hl, by rw [hp i h1]; exact h2⟩
  | .bptr i p z k, _, _, ⟨h1, h2⟩ => ⟨Nat.lt_of_lt_of_le h1 hl, by rw [hp i h1]; exact h2⟩
  | .reg i p z k o n, _, _, ⟨h1, Q, h2, h3⟩ => ⟨Nat.lt_of_lt_of_le h1 hl, Q, h2, fun hn => by rw [hp i h1]; exact h3 hn⟩
  | .fn f caps, v, _, ⟨h1, h2⟩ => by
    refine ⟨?_, fun i hi => Nat.lt_of_lt_of_le (h2 i hi) hl⟩
    rw [h1]
    congr 2
    exact List.map_congr_left fun i hi => by rw [hp i (h2 i hi)]
  | .bfn f bs, v, _, ⟨h1, h2⟩ => by
    refine ⟨?_, fun i hi => Nat.lt_of_lt_of_le (h2 i hi) hl⟩
    rw [h1]
    congr 2
    exact List.map_congr_left fun i hi => by rw [hp i (h2 i hi)]
theorem owned_list (g : Gh) : (l : List Ent) → (k : Nat) → noExt l = true → ∃ L : List Nat, ∀ b, b ∈ L ↔ ∃ i e, l[i]? = some e ∧ Ent.blocks g (k + i) e b
  | [], k, _ => ⟨[], fun b => by simp⟩
  | e :: r, k, hn => by
    have hr : noExt r = true := by cases e <;> first | exact hn | simp [noExt] at hn
    obtain ⟨L, hL⟩ := owned_list g r (k + 1) hr
    have he : ∃ M : List Nat, ∀ b, b ∈ M ↔ e.blocks g k b := by
      cases e with
      | dead => exact ⟨[], fun b => by simp [Ent.blocks]⟩
      | blk => exact ⟨[g.b k], fun b => by simp [Ent.blocks]⟩
      | obj => exact ⟨[g.b k], fun b => by simp [Ent.blocks]⟩
      | tab => exact ⟨[g.b k], fun b => by simp [Ent.blocks]⟩
      | iter => exact ⟨[g.b k], fun b => by simp [Ent.blocks]⟩
      | row =>
        cases hq : (g.v k).ownBlock with
        | none => exact ⟨[], fun b => by simp [Ent.blocks, hq]⟩
        | some c => exact ⟨[c], fun b => by simp [Ent.blocks, hq]; exact eq_comm⟩
      | ext => simp [noExt] at hn
      | con => exact ⟨[], fun b => by simp [Ent.blocks]⟩
      | gl => exact ⟨[], fun b => by simp [Ent.blocks]⟩
      | mtab =>
        obtain ⟨L, hL⟩ := xblocks_list (g.v k)
        exact ⟨g.b k :: L, fun b => by rw [List.mem_cons]; exact or_congr Iff.rfl (hL b).symm⟩
    obtain ⟨M, hM⟩ := he
    refine ⟨M ++ L, fun b => ?_⟩
    rw [List.mem_append, hM, hL]
    constructor
    · rintro (h | ⟨i, f, h1, h2⟩)
      · exact ⟨0, e, rfl, h⟩
      · exact ⟨i + 1, f, by simpa using h1, by rw [show k + (i + 1) = k + 1 + i by omega]; exact h2⟩
    · rintro ⟨i, f, h1, h2⟩
      cases i with
      | zero => simp at h1; subst h1; exact .inl h2
      | succ i => exact .inr ⟨i, f, by simpa using h1, by rw [show k + 1 + i = k + (i + 1) by omega]; exact h2⟩
theorem owned_code (g : Gh) {H : List Ent} (hn : noExt H = true) (l : Nat) : ∃ v : Value, ∀ b, xblocks v b ↔ Owned H g b ∨ b = l := by
  obtain ⟨L, hL⟩ := owned_list g H 0 hn
  refine ⟨_, fun b => (xblocks_code (l :: L) b).trans ?_⟩
  rw [List.mem_cons, hL]
  simp only [Nat.zero_add]
  exact ⟨fun h => h.elim .inr .inl, fun h => h.elim .inr .inl⟩
structure Link (H0 : List Ent) (g0 : Gh) (H : List Ent) (g : Gh) : Prop where
  len : H.length = H0.length
  ptr : ∀ i, i < H0.length → g.b i = g0.b i
  row : ∀ i e t ver xs, i < H0.length → H[i]? = some (.row e t ver xs) → ∃ ver0 xs0, H0[i]? = some (.row e t ver0 xs0) ∧
    (ver0 < ver ∨ (ver0 = ver ∧ xs0.length = xs.length ∧ g.v i = g0.v i))
theorem fresh_ver {H0 : List Ent} {L : List (Nat × Ent)} {i : Nat} {e : TypeId} {t : Ty} {ver : Nat} {xs : List t.den} (hf : freshL L i = true) (hr : (setEnts H0 L H0)[i]? = some (.row e t ver xs))
    {e0 : TypeId} {t0 : Ty} {ver0 : Nat} {xs0 : List t0.den} (h0 : H0[i]? = some (.row e0 t0 ver0 xs0)) : ver0 < ver := by
  have hlen : i < H0.length := (List.getElem?_eq_some_iff.1 h0).1
  unfold freshL at hf
  rw [Bool.and_eq_true, Bool.not_eq_true', List.any_eq_true, List.any_eq_false] at hf
  have hmem : ∃ p ∈ L, p.1 = i := by
    obtain ⟨p, hp, hpi⟩ := hf.1
    exact ⟨p, hp, Nat.eq_of_beq_eq_true hpi⟩
  obtain ⟨old, e1, q0, q1, q2⟩ := setEnts_new H0 L H0 rfl i hlen hmem
  have hk0 : keepE e1 = false := by
    have := hf.2 _ q0
    simpa using this
  rw [q2] at hr
  rw [h0] at q1
  cases q1
  have hb := Option.some.inj hr
  cases e1 with
  | dead => simp [bumpE] at hb
  | blk => simp [bumpE] at hb
  | tab => simp [bumpE] at hb
  | iter => simp [bumpE] at hb
  | ext => simp [bumpE] at hb
  | mtab => simp [bumpE] at hb
  | con => simp [bumpE] at hb
  | gl => simp [bumpE] at hb
  | obj => simp [bumpE] at hb
  | row e3 t3 ver3 xs3 =>
    simp only [bumpE, Ent.row.injEq] at hb
    have hk1 : Nat.beq ver3 0 = true := by simpa [keepE] using hk0
    have hv := hb.2.2.1
    rw [hk1] at hv
    simp only [cond_true] at hv
    omega
theorem Link.step {H0 H1 H2 : List Ent} {g0 g1 g2 : Gh} {L : List (Nat × Ent)} {caps : List Nat} (hl : Link H0 g0 H1 g1) (hptr : ∀ i, i < H1.length → g2.b i = g1.b i)
    (hrow : ∀ i e t ver xs, i < H1.length → H2[i]? = some (.row e t ver xs) → ∃ ver0 xs0, H1[i]? = some (.row e t ver0 xs0) ∧ (ver0 < ver ∨ (ver0 = ver ∧ xs0.length = xs.length ∧ g2.v i = g1.v i)))
    (hle : ∀ i e t ver xs, (hideAt caps 0 (setEnts H0 L H0))[i]? = some (.row e t ver xs) → ∃ Hx Hy e1, H2[i]? = some e1 ∧ Ent.le Hx Hy (freshL L i) e1 (.row e t ver xs)) : Link H0 g0 (hideAt caps 0 (setEnts H0 L H0)) g2 := by
  refine ⟨by rw [hideAt_length, setEnts_length], fun i hi => (hptr i (by rw [hl.len]; exact hi)).trans (hl.ptr i hi), fun i e t ver xs hi hr => ?_⟩
  obtain ⟨Hx, Hy, e1, q1, q2⟩ := hle i _ _ _ _ hr
  cases e1 with
  | dead => exact q2.elim
  | blk => exact q2.elim
  | tab => exact q2.elim
  | iter => exact q2.elim
  | ext a T E o pre =>
    have q2 : Ent.row .. = Ent.ext a T E o pre := q2
    cases q2
  | mtab _ _ _ ho => cases ho <;> exact q2.elim
  | con => exact q2.elim
  | gl => exact q2.elim
  | obj => exact q2.elim
  | row e1 t1 ver1 xs1 =>
    simp only [Ent.le] at q2
    cases hb : (Nat.beq e1 e && (freshL L i || Nat.beq ver1 ver)) with
    | false => rw [hb] at q2; exact q2.elim
    | true =>
      rw [hb] at q2
      rw [Bool.and_eq_true] at hb
      have e1e := Nat.eq_of_beq_eq_true hb.1
      subst e1e
      simp only [cond_true] at q2
      split at q2
      · rename_i htt
        subst htt
        subst q2
        obtain ⟨v1, x1, r1, d1⟩ := hrow i _ _ _ _ (by rw [hl.len]; exact hi) q1
        obtain ⟨v0, x0, r0, d0⟩ := hl.row i _ _ _ _ hi r1
        refine ⟨v0, x0, r0, ?_⟩
        cases hf : freshL L i with
        | true =>
          rcases hide_some hr with h | ⟨_, h⟩
          · cases h
          · exact .inl (fresh_ver hf h r0)
        | false =>
          rw [hf] at hb
          have : ver1 = ver := Nat.eq_of_beq_eq_true (by simpa using hb.2)
          subst this
          rcases d0 with d0 | ⟨e0, l0, k0⟩ <;> rcases d1 with d1 | ⟨e1, l1, k1⟩
          · exact .inl (by omega)
          · exact .inl (by omega)
          · exact .inl (by omega)
          · exact .inr ⟨e0.trans e1, l0.trans l1, k1.trans k0⟩
      · exact q2.elim
theorem le_isExt {f : Bool} {H H' : List Ent} : {e e' : Ent} → Ent.le H H' f e e' → isExt e = false → isExt e' = false
  | e, e', h, he => by
    cases e' with
    | ext a T E o pre => cases e <;> first | exact h.elim | cases he
    | _ => rfl
theorem noExt_of : {H : List Ent} → (∀ (i : Nat) (e : Ent), H[i]? = some e → isExt e = false) → noExt H = true
  | [], _ => rfl
  | e :: r, h => by
    have h0 := h 0 e rfl
    have hr : noExt r = true := noExt_of fun i e' hi => h (i + 1) e' (by simpa using hi)
    cases e <;> first | exact hr | cases h0
structure RInv (w0 : World) (H0 : List Ent) (g0 : Gh) (l : Nat) (rec : Loop) (Hh : List Ent) (O S : Nat → Prop) (w : World) (gh : Gh) : Prop where
  st : ∀ b, Stable Hh gh b → b < w.heap.size ∧ S b
  own : ∀ b, O b ↔ Owned Hh gh b ∨ b = l
  ents : ∀ (i : Nat) (e : Ent), Hh[i]? = some e → e.OK 0 (fun _ => False) w Hh gh i
  apart : ∀ (i j : Nat) (e f : Ent) (b : Nat), Hh[i]? = some e → Hh[j]? = some f → e.blocks gh i b → f.blocks gh j b → i = j
  link : Link H0 g0 Hh gh
  lp : w.heap[l]? = some (.loop rec)
  nl : ¬ Owned Hh gh l
  old : ∀ b, b < w0.heap.size → Stable H0 g0 b → S b ∧ w.heap[b]? = w0.heap[b]?
  noext : noExt Hh = true
  sz : w0.heap.size ≤ w.heap.size
theorem RInv.mono {w0 : World} {H0 : List Ent} {g0 : Gh} {l : Nat} {rec : Loop} {Hh : List Ent} {O S S' : Nat → Prop} {w w' : World} {gh : Gh} (h : RInv w0 H0 g0 l rec Hh O S w gh)
    (hO : ∀ b, O b → w'.heap[b]? = w.heap[b]?) (hk : Keeps w S w' S') : RInv w0 H0 g0 l rec Hh O S' w' gh where
  st b hb := ⟨Nat.lt_of_lt_of_le (h.st b hb).1 hk.size, (hk.block b (h.st b hb).1 (h.st b hb).2).1⟩
  own := h.own
  ents i e hi := by
    have hev : EvoR w Hh gh w' Hh gh := ⟨⟨hk.size, fun b hb hst => ⟨hst, (hk.block b hb (h.st b hst).2).2⟩⟩, Nat.le_refl _, fun _ _ => rfl, fun _ _ _ ver xs _ h => ⟨ver, xs, h, .inr ⟨rfl, rfl, rfl⟩⟩⟩
    exact Ent.OK.evoR hev rfl rfl (fun j a t l c es _ hj => ⟨rfl, rfl, hO _ ((h.own _).2 (.inl ⟨j, _, hj, rfl⟩))⟩) (h.ents i e hi) fun b hb => hO b ((h.own b).2 (.inl ⟨i, e, hi, hb⟩))
  apart := h.apart
  link := h.link
  lp := by rw [← h.lp]; exact hO l ((h.own l).2 (.inr rfl))
  nl := h.nl
  old b hb hst := by
    obtain ⟨q1, q2⟩ := h.old b hb hst
    obtain ⟨r1, r2⟩ := hk.block b (Nat.lt_of_lt_of_le hb h.sz) q1
    exact ⟨r1, r2.trans q2⟩
  noext := h.noext
  sz := Nat.le_trans h.sz hk.size
def Ex.code : Ex → Code
  | .normal => .skip
  | .exit id => .exit id
  | .ret => .ret
section
variable {P : Program} {an : RAnn} {H : List Ent} {caps : List Nat} {st : St} {p l : Nat} {a : Act} {w : World} {g0 : Gh} {assign body : Code} {X Y : St → (Ex → St → Prop) → Prop} {fn0 : FuncId} {D : Nat}
def recOf (an : RAnn) (fn0 : FuncId) (a : Act) (p : Nat) (assign body : Code) (D : Nat) (o : Bool) : Loop :=
  { state := if o then .ready else .done, pending := if o then none else some an.ex.code, fn := fn0, tmps := a.tmps, params := #[p], assign, body, defers := D }
def hid (an : RAnn) (caps : List Nat) (H : List Ent) (o : Bool) (pre : List an.T.den) : List Ent := hideAt caps 0 (bif o then an.head H pre else an.stop H pre)
theorem round_call (hn : a.tmps.size = st.n) (hp : p < st.n) (hslots : ∀ d, (findT d st.t).Rep w H g0 (a.tmps.getD d undef))
    (hX : ∀ {l : Nat} {I : Ini} {st : St} {a : Act} {w : World} {Q : Ex → St → Prop}, X st Q → Holds I st a w → assign.wpIn (FR (some l)) 0 P (QR I false Q) a w)
    (hY : ∀ {l : Nat} {I : Ini} {st : St} {a : Act} {w : World} {Q : Ex → St → Prop}, Y st Q → Holds I st a w → body.wpIn (FR (some l)) 0 P (QR I false Q) a w)
    {pre : List an.T.den} {x : an.T.den} (hbody : X ⟨st.n, (p, mkV an.a (an.T.scs x)) :: st.t, hideAt caps 0 (an.head H pre)⟩ (an.midK caps H Y pre x))
    {wr : World} {O S : Nat → Prop} {cs : List Value} {v : Value} {gh : Gh} (hinv : RInv w H g0 l (recOf an fn0 a p assign body D true) (hid an caps H true pre) O S wr gh)
    (hrep : an.T.Rep wr S x cs) (hv : if an.a = true then v = .agg cs.toArray else cs = [v]) (hO : ∀ b, O b → b < wr.heap.size ∧ ¬ S b) :
    ∃ (fn : FuncId) (tmps : Array Value) (as1 bd1 : Code), (Instr.yield l #[v]).run P wr = .ok (.round l fn tmps as1 bd1) wr ∧
      RoundIn Fence.wide 0 P l fn tmps as1 bd1 wr fun e w' => ∃ v', e = .returned (.bool (an.go pre x)) ∧ (∀ b, xblocks v' b → b < w'.heap.size ∧ (O b ∨ wr.heap.size ≤ b)) ∧
        (∀ b, b < wr.heap.size → ¬ O b → w'.heap[b]? = wr.heap[b]?) ∧ wr.heap.size ≤ w'.heap.size ∧ (w'.os = wr.os ∧ w'.tape = wr.tape ∧ w'.output = wr.output) ∧
        ∃ gh', RInv w H g0 l (recOf an fn0 a p assign body D (an.go pre x)) (hid an caps H (an.go pre x) (pre ++ [x])) (xblocks v') (fun b => (S b ∨ O b ∨ wr.heap.size ≤ b) ∧ ¬ xblocks v' b) w' gh' := by
  refine ⟨_, _, _, _, run_yield hinv.lp (by simp [recOf]), roundIn_of_wpIn trivial ?_⟩
  have hlr : l < wr.heap.size := (Array.getElem?_eq_some_iff.1 hinv.lp).1
  have hOl : O l := (hinv.own l).2 (.inr rfl)
  let g1 : Gh := ⟨gh.b, gh.v, fun b => S b ∨ O b ∨ wr.heap.size ≤ b⟩
  let I1 : Ini := ⟨st.n, wr.heap.size, O, wr, wr, hid an caps H true pre, g1, [], []⟩
  have hev1 : EvoR wr (hid an caps H true pre) gh wr (hid an caps H true pre) g1 :=
    ⟨⟨Nat.le_refl _, fun b hb hst => ⟨⟨.inl (hinv.st b hst).2, hst.2⟩, rfl⟩⟩, Nat.le_refl _, fun _ _ => rfl, fun _ _ _ ver xs _ h => ⟨ver, xs, h, .inr ⟨rfl, rfl, rfl⟩⟩⟩
  have hs1 : Sat wr.heap.size O wr (hid an caps H true pre) g1 wr := by
    refine ⟨rfl, rfl, rfl, Nat.le_refl _, Nat.le_refl _, fun b hb => hb.elim (fun h => .inr (.inr h)) (fun h => .inr (.inl h)), fun _ _ _ => rfl, fun i e hi => ?_, hinv.apart⟩
    exact Ent.OK.move (Ent.OK.evoR hev1 rfl rfl (same_iter rfl) (hinv.ents i e hi) fun _ _ => rfl) fun b hb => .inr ((hinv.own b).2 (.inl ⟨i, e, hi, hb⟩))
  have hslot : EvoR w H g0 wr (hid an caps H true pre) g1 := by
    refine ⟨⟨hinv.sz, fun b hb hst => ?_⟩, by rw [hinv.link.len]; exact Nat.le_refl _, hinv.link.ptr, hinv.link.row⟩
    obtain ⟨q1, q2⟩ := hinv.old b hb hst
    exact ⟨⟨.inl q1, fun ho => (hO b ((hinv.own b).2 (.inl ho))).2 q1⟩, q2⟩
  have hh1 : Holds I1 ⟨st.n, (p, mkV an.a (an.T.scs x)) :: st.t, hid an caps H true pre⟩ { tmps := (#[p].zip #[v]).foldl (fun tmps (t, a) => tmps.setIfInBounds t a) a.tmps, defers := [] } wr := by
    refine ⟨rfl, by simp [hn], rfl, g1, hs1, Evo.refl _ _ _, fun d => ?_⟩
    have hget : ((#[p].zip #[v]).foldl (fun (tmps : Array Value) (x : Nat × Value) => tmps.setIfInBounds x.1 x.2) a.tmps).getD d undef = if p = d then v else a.tmps.getD d undef := by
      simp [Array.getD_eq_getD_getElem?, Array.getElem?_setIfInBounds]
      by_cases hpd : p = d
      · subst hpd; simp [hn, hp]
      · simp [hpd]
    show (findT d ((p, mkV an.a (an.T.scs x)) :: st.t)).Rep wr _ g1 _
    unfold findT
    cases hb : Nat.beq p d with
    | true =>
      have := Nat.eq_of_beq_eq_true hb
      simp only [cond_true]
      refine (congrArg (SV.Rep wr (hid an caps H true pre) g1 (mkV an.a (an.T.scs x))) (hget.trans (if_pos this))).mpr ?_
      have hr2 : an.T.Rep wr (Stable (hid an caps H true pre) g1) x cs := hrep.sub fun b _ hSb => ⟨.inl hSb, fun ho => (hO b ((hinv.own b).2 (.inl ho))).2 hSb⟩
      exact mkV_rep (Ty.scs_rep an.T hr2) (Ty.Rep.one an.T hr2) hv
    | false =>
      have : ¬ p = d := Nat.ne_of_beq_eq_false hb
      simp only [cond_false]
      refine (congrArg (SV.Rep wr (hid an caps H true pre) g1 (findT d st.t)) (hget.trans (if_neg this))).mpr ?_
      exact (hslots d).evoR hslot
  refine wpIn_mono (hX (l := l) hbody hh1) ?_
  rintro e a1 w1 ⟨ex, st1, I', rfl, hq, hh, _, hI⟩
  obtain rfl := hI rfl
  cases ex with
  | exit id => exact hq.elim
  | ret => exact hq.elim
  | normal =>
  obtain ⟨hx1, hq⟩ := hq
  obtain ⟨k1, k2, kn, g2, hs2, hev2, ht2⟩ := hh
  have hst1 : Stable (hid an caps H true pre) g1 l := ⟨.inr (.inl hOl), hinv.nl⟩
  obtain ⟨hst2, hl1⟩ := hev2.keeps.block l hlr hst1
  have hl1 : w1.heap[l]? = some (.loop (recOf an fn0 a p assign body D true)) := hl1.trans hinv.lp
  refine ⟨_, run_beginRound hl1 (by simp [recOf]), ?_⟩
  have hq12 := quiet_put (o' := .loop { recOf an fn0 a p assign body D true with state := .busy }) hl1 (fun _ _ _ h => by cases h)
  generalize hw2 : w1.putObj l (.loop { recOf an fn0 a p assign body D true with state := .busy }) = w2 at hq12
  have hs2' : Sat wr.heap.size O wr st1.h g2 w2 := hs2.quiet hq12 hst2.2 (.inr hOl) hx1
  let I2 : Ini := ⟨st.n, wr.heap.size, O, wr, w2, st1.h, g2, [], []⟩
  have hh2 : Holds I2 st1 a1 w2 := ⟨k1, k2, kn, g2, hs2', Evo.refl _ _ _, fun d => (ht2 d).quiet' hq12⟩
  have hl2 : w2.heap[l]? = some (.loop { recOf an fn0 a p assign body D true with state := .busy }) := by rw [← hw2]; exact World.putObj_heap_same (Array.getElem?_eq_some_iff.1 hl1).1
  have hlw2 : l < w2.heap.size := (Array.getElem?_eq_some_iff.1 hl2).1
  refine wpIn_mono (hY (l := l) hq hh2) ?_
  rintro e a3 w3 ⟨ex, st3, I', rfl, hq3, hh3, _, hI⟩
  obtain rfl := hI rfl
  obtain ⟨_, _, _, g3, hs3, hev3, _⟩ := hh3
  obtain ⟨hst3, hl3⟩ := hev3.keeps.block l hlw2 hst2
  have hl3 : w3.heap[l]? = some (.loop { recOf an fn0 a p assign body D true with state := .busy }) := hl3.trans hl2
  have hlw3 : l < w3.heap.size := (Array.getElem?_eq_some_iff.1 hl3).1
  have hok3 : g3.ok = g1.ok := hev3.ok.trans hev2.ok
  have fin : ∀ (o : Bool) (L : List (Nat × Ent)), an.go pre x = o → noExt st3.h = true → hid an caps H o (pre ++ [x]) = hideAt caps 0 (setEnts H L H) → entsLe (freshL L) st3.h (hideAt caps 0 (setEnts H L H)) 0 st3.h (hideAt caps 0 (setEnts H L H)) →
      ∃ v w', (Instr.endRound l (if o then none else some an.ex.code)).run P w3 = .ok v w' ∧ ∃ v', (Ending.returned v = .returned (.bool (an.go pre x))) ∧ (∀ b, xblocks v' b → b < w'.heap.size ∧ (O b ∨ wr.heap.size ≤ b)) ∧
        (∀ b, b < wr.heap.size → ¬ O b → w'.heap[b]? = wr.heap[b]?) ∧ wr.heap.size ≤ w'.heap.size ∧ (w'.os = wr.os ∧ w'.tape = wr.tape ∧ w'.output = wr.output) ∧
        ∃ gh', RInv w H g0 l (recOf an fn0 a p assign body D (an.go pre x)) (hid an caps H (an.go pre x) (pre ++ [x])) (xblocks v') (fun b => (S b ∨ O b ∨ wr.heap.size ≤ b) ∧ ¬ xblocks v' b) w' gh' := by
    intro o L ho hx3 hhid hle
    have hq34 := quiet_put (o' := .loop (recOf an fn0 a p assign body D o)) hl3 (fun _ _ _ h => by cases h)
    refine ⟨.bool o, w3.putObj l (.loop (recOf an fn0 a p assign body D o)), ?_, ?_⟩
    · have := run_endRound (P := P) (if o then none else some an.ex.code) hl3
      rw [this]
      cases o <;> simp [recOf]
    have hl4 : (w3.putObj l (.loop (recOf an fn0 a p assign body D o))).heap[l]? = some (.loop (recOf an fn0 a p assign body D o)) := World.putObj_heap_same hlw3
    rw [ho, hhid]
    generalize w3.putObj l (.loop (recOf an fn0 a p assign body D o)) = w4 at hq34 hl4 ⊢
    generalize hHn : hideAt caps 0 (setEnts H L H) = Hn at hle
    have hH : LeH (freshL L) st3.h Hn := fun i e' hi => by
      obtain ⟨e, q1, q2⟩ := entsLe_sound st3.h Hn 0 hle i e' hi
      rw [Nat.zero_add] at q2
      exact ⟨e, q1, q2⟩
    have hxn : noExt Hn = true := noExt_of fun i e' hi => by
      obtain ⟨e, q1, q2⟩ := hH i e' hi
      exact le_isExt q2 (noExt_get hx3 i e q1)
    have hnl : ¬ Owned Hn g3 l := fun h => hst3.2 (hH.owned h)
    obtain ⟨v', hv'⟩ := owned_code g3 hxn l
    have hmine : ∀ b, xblocks v' b → b < w4.heap.size ∧ (O b ∨ wr.heap.size ≤ b) := fun b hb => by
      rcases (hv' b).1 hb with h1 | h1
      · obtain ⟨i, e, q1, q2⟩ := hH.owned h1
        exact ⟨by rw [hq34.size]; exact (hs3.ents i e q1).lt b q2, ((hs3.ents i e q1).mine b q2).elim .inr .inl⟩
      · subst h1; exact ⟨by rw [hq34.size]; exact hlw3, .inl hOl⟩
    have hkept : ∀ b, b < wr.heap.size → ¬ O b → w4.heap[b]? = wr.heap[b]? := fun b hb hno => (hq34.oth b fun e => hno (by subst e; exact hOl)).trans (hs3.old b hb hno)
    have hsz : wr.heap.size ≤ w4.heap.size := by rw [hq34.size]; exact hs3.size0
    let gn : Gh := ⟨g3.b, g3.v, fun b => (g3.ok b ∧ b ≠ l) ∧ b < w4.heap.size⟩
    refine ⟨v', rfl, hmine, hkept, hsz, ⟨hq34.os.trans hs3.os, hq34.tape.trans hs3.tape, hq34.output.trans hs3.output⟩, gn, ?_⟩
    refine ⟨fun b hb => ⟨hb.1.2, ?_, ?_⟩, hv', fun i e' hi => ?_, fun i j e f b hi hj hbi hbj => ?_, ?_, hl4, hnl, fun b hb hst => ?_, hxn, Nat.le_trans hinv.sz hsz⟩
    · have := hb.1.1.1; rw [hok3] at this; exact this
    · intro hx
      rcases (hv' b).1 hx with h1 | h1
      · exact hb.2 h1
      · exact hb.1.1.2 h1
    · obtain ⟨e, q1, q2⟩ := hH i e' hi
      have h1 := Ent.le_OK hs3 hH q1 hi q2 (hs3.ents i e q1)
      have h2 := Ent.OK.quiet hq34 hnl (noExt_get hxn i e' hi) hi h1
      have hev4 : EvoR w4 Hn (g3.less l) w4 Hn gn := ⟨⟨Nat.le_refl _, fun b hb hst => ⟨⟨⟨hst.1, hb⟩, hst.2⟩, rfl⟩⟩, Nat.le_refl _, fun _ _ => rfl, fun _ _ _ ver xs _ h => ⟨ver, xs, h, .inr ⟨rfl, rfl, rfl⟩⟩⟩
      exact Ent.OK.move (Ent.OK.evoR hev4 rfl rfl (same_iter rfl) h2 fun _ _ => rfl) fun b _ => .inl (Nat.zero_le b)
    · obtain ⟨e1, q1, q2⟩ := hH i e hi
      obtain ⟨f1, q3, q4⟩ := hH j f hj
      exact hs3.apart i j e1 f1 b q1 q3 (Ent.le_blocks q2 ((Ent.blocks_congr (g := g3) (g1 := gn) rfl rfl).1 hbi)) (Ent.le_blocks q4 ((Ent.blocks_congr (g := g3) (g1 := gn) rfl rfl).1 hbj))
    · subst hHn
      have h3 := Link.step (g2 := g3) hinv.link (fun i hi => (hev3.ptr i (Nat.lt_of_lt_of_le hi hev2.len)).trans (hev2.ptr i hi)) (fun i e t ver xs hi hr => by
        obtain ⟨v1, x1, r1, d1⟩ := hev3.row i e t ver xs (Nat.lt_of_lt_of_le hi hev2.len) hr
        obtain ⟨v0, x0, r0, d0⟩ := hev2.row i e t v1 x1 hi r1
        refine ⟨v0, x0, r0, ?_⟩
        rcases d0 with d0 | ⟨e0, l0, k0⟩ <;> rcases d1 with d1 | ⟨e1, l1, k1⟩
        · exact .inl (by omega)
        · exact .inl (by omega)
        · exact .inl (by omega)
        · exact .inr ⟨e0.trans e1, l0.trans l1, k1.trans k0⟩) (fun i e t ver xs hi => by
        obtain ⟨e1, q1, q2⟩ := hH i _ hi
        exact ⟨_, _, e1, q1, q2⟩)
      exact ⟨h3.len, h3.ptr, h3.row⟩
    · obtain ⟨q1, q2⟩ := hinv.old b hb hst
      have hnO : ¬ O b := fun h => (hO b h).2 q1
      refine ⟨⟨.inl q1, fun hx => ?_⟩, (hkept b (Nat.lt_of_lt_of_le hb hinv.sz) hnO).trans q2⟩
      rcases (hmine b hx).2 with h1 | h1
      · exact hnO h1
      · have := hinv.sz; omega
  cases ex with
  | normal =>
    obtain ⟨⟨h1, h2⟩, h3⟩ := hq3
    obtain ⟨v, w', r1, v', r2⟩ := fin true _ h1 h2 rfl h3
    exact ⟨v, w', r1, v', r2⟩
  | ret =>
    obtain ⟨⟨h0, h1, h2⟩, h3⟩ := hq3
    obtain ⟨v, w', r1, v', r2⟩ := fin false _ h1 h2 rfl h3
    rw [← h0] at r1
    exact ⟨v, w', r1, v', r2⟩
  | exit id =>
    obtain ⟨⟨h0, h1, h2⟩, h3⟩ := hq3
    obtain ⟨v, w', r1, v', r2⟩ := fin false _ h1 h2 rfl h3
    rw [← h0] at r1
    exact ⟨v, w', r1, v', r2⟩
end
end Go.SX

/- SX, part LT: a range over a function. -/
namespace Go.SX
open Go Go.RowKit
theorem owned_congr {H : List Ent} {g g' : Gh} (hb : g'.b = g.b) (hv : g'.v = g.v) {b : Nat} : Owned H g' b ↔ Owned H g b := by
  constructor
  · rintro ⟨i, e, h1, h2⟩; exact ⟨i, e, h1, (Ent.blocks_congr (by rw [hb]) (by rw [hv])).1 h2⟩
  · rintro ⟨i, e, h1, h2⟩; exact ⟨i, e, h1, (Ent.blocks_congr (by rw [hb]) (by rw [hv])).2 h2⟩
section
variable {P : Program} {I : Ini} {C : Ctx} {an : RAnn} {H : List Ent} {caps : List Nat} {st : St} {p : Nat} {a : Act} {w : World} {assign body : Code} {X Y : St → (Ex → St → Prop) → Prop} {gf : FuncId} {gop : Operand} {Q : Ex → St → Prop} {n : Nat}
theorem execR_sound (hC : CtxOK P C) (hrng : ∀ a T (E : Ext a T), E.Call P → C.may a T E) (hg : st.ev gop = .c (.fn gf caps))
    (hX : ∀ {l : Nat} {I : Ini} {st : St} {a : Act} {w : World} {Q : Ex → St → Prop}, X st Q → Holds I st a w → assign.wpIn (FR (some l)) 0 P (QR I false Q) a w)
    (hY : ∀ {l : Nat} {I : Ini} {st : St} {a : Act} {w : World} {Q : Ex → St → Prop}, Y st Q → Holds I st a w → body.wpIn (FR (some l)) 0 P (QR I false Q) a w)
    (hh : Holds I ⟨st.n, st.t, H⟩ a w) (h : execR C an gf caps p st H X Y Q) : (Code.rangeFunc gop #[p] assign body).wpIn Fence.wide n P (QR I true Q) a w := by
  unfold execR at h
  cases hsp : specFind gf C.fns with
  | none => rw [hsp] at h; exact h.elim
  | some s =>
  rw [hsp] at h
  obtain ⟨hb, hsame, hle0, hbody, hcall, hT, hF⟩ := h
  obtain ⟨⟨fnf, p1, p2, p3⟩, hspec⟩ := hC.fns _ _ hsp
  cases hbb : (noExt H && noWalk H && Nat.blt p st.n && flatAt caps H && Nat.blt an.place H.length && !(caps.any (Nat.beq an.place))) with
  | false => rw [hbb] at hb; exact hb.elim
  | true =>
  simp only [Bool.and_eq_true, Bool.not_eq_true'] at hbb
  obtain ⟨⟨⟨⟨⟨hxH, hwk⟩, hpn⟩, hfl⟩, hpl⟩, hpc⟩ := hbb
  have hpn : p < st.n := Nat.le_of_ble_eq_true hpn
  have hpl : an.place < H.length := Nat.le_of_ble_eq_true hpl
  have hpc : an.place ∉ caps := fun h => by rw [any_beq.2 h] at hpc; cases hpc
  obtain ⟨hdef, hsz, hn, g0, hs0, hev0, ht⟩ := hh
  have hgv := ev_rep (st := ⟨st.n, st.t, H⟩) ht gop
  rw [show St.ev ⟨st.n, st.t, H⟩ gop = .c (.fn gf caps) from (by cases gop <;> exact hg)] at hgv
  obtain ⟨hf1, hf2⟩ := hgv
  have hcl : ∀ i ∈ caps, (∃ ty cs, H[i]? = some (.blk ty cs) ∧ cs.all SC.noOwn = true) ∨ ∃ ty t x, H[i]? = some (.con ty t x) := flatAt_get hfl
  have hclr : ∀ i ∈ caps, ∀ e t ver xs, H[i]? ≠ some (.row e t ver xs) := fun i hi e t ver xs hr => by
    rcases hcl i hi with ⟨_, _, q, _⟩ | ⟨_, _, _, q⟩ <;> rw [hr] at q <;> cases q
  refine wpIn_rangeFunc ?_
  intro fn _
  generalize hW1 : (w.alloc (.deferred (some []))).alloc (.loop (recOf an fn a p assign body w.heap.size true)) = W1
  have hsz1 : W1.heap.size = w.heap.size + 2 := by rw [← hW1]; simp [World.size_alloc]
  have hold1 : ∀ b, b < w.heap.size → W1.heap[b]? = w.heap[b]? := fun b hb => by
    rw [← hW1]
    exact ((Later.alloc _ _).2 b (by simp [World.size_alloc]; omega)).trans ((Later.alloc w _).2 b hb)
  have hD1 : W1.heap[w.heap.size]? = some (.deferred (some [])) := by
    rw [← hW1]
    exact ((Later.alloc _ _).2 _ (by simp [World.size_alloc])).trans (World.alloc_heap_new w _)
  have hl1 : W1.heap[w.heap.size + 1]? = some (.loop (recOf an fn a p assign body w.heap.size true)) := by
    rw [← hW1]
    have := World.alloc_heap_new (w.alloc (.deferred (some []))) (.loop (recOf an fn a p assign body w.heap.size true))
    rwa [World.size_alloc] at this
  have hos1 : W1.os = w.os ∧ W1.tape = w.tape ∧ W1.output = w.output := by rw [← hW1]; exact ⟨rfl, rfl, rfl⟩
  have hH0 : LeH (freshL (an.ents [])) H (an.head H []) := fun i e' hi => by
    obtain ⟨e, q1, q2⟩ := entsLe_sound H (an.head H []) 0 hle0 i e' hi
    rw [Nat.zero_add] at q2
    exact ⟨e, q1, q2⟩
  have hlen0 : (an.head H []).length = H.length := setEnts_length _ _ _
  have hxF : noExt (an.head H []) = true := noExt_of fun i e' hi => by
    obtain ⟨e, q1, q2⟩ := hH0 i e' hi
    exact le_isExt q2 (noExt_get hxH i e q1)
  have hwF : ∀ (k j : Nat) (a : Bool) (t : Ty) (l : List (Int × t.den)) (c : Option (Int × t.den)), (an.head H [])[k]? ≠ some (Ent.iter j a t l c) := fun k j a t l c hk => by
    obtain ⟨e, q1, q2⟩ := hH0 k _ hk
    cases e with
    | iter => exact noWalk_get hwk _ _ _ _ _ _ q1
    | ext a' T' E' o' pre' => have := noExt_get hxH _ _ q1; cases this
    | dead => exact q2.elim
    | blk => exact q2.elim
    | row => exact q2.elim
    | tab => exact q2.elim
    | mtab _ _ _ ho => cases ho <;> exact q2.elim
    | con => exact q2.elim
    | gl => exact q2.elim
    | obj => exact q2.elim
  have hxh : noExt (hid an caps H true []) = true := noExt_of fun i e hi => by
    rcases hide_some hi with h1 | ⟨_, h1⟩
    · subst h1; rfl
    · exact noExt_get hxF i e h1
  have hsub : ∀ b, Owned (hid an caps H true []) g0 b → ∃ i e, i ∉ caps ∧ H[i]? = some e ∧ e.blocks g0 i b := by
    rintro b ⟨i, e, q1, q2⟩
    rcases hide_some q1 with h1 | ⟨h0, h1⟩
    · subst h1; exact q2.elim
    · obtain ⟨e1, r1, r2⟩ := hH0 i e h1
      exact ⟨i, e1, fun hm => con_blocks (h0 hm) g0 i b q2, r1, Ent.le_blocks r2 q2⟩
  have hlt0 : ∀ b, Owned H g0 b → b < w.heap.size := by
    rintro b ⟨i, e, q1, q2⟩; exact (hs0.ents i e q1).lt b q2
  have hltH : ∀ b, Owned (hid an caps H true []) g0 b → b < w.heap.size := fun b hb => by
    obtain ⟨i, e, _, q1, q2⟩ := hsub b hb; exact hlt0 b ⟨i, e, q1, q2⟩
  have hltK : ∀ b, Owned (keepAt caps 0 H) g0 b → ∃ i e, i ∈ caps ∧ H[i]? = some e ∧ e.blocks g0 i b := by
    rintro b ⟨i, e, q1, q2⟩
    rcases keep_some q1 with h1 | ⟨h0, h1⟩
    · subst h1; exact q2.elim
    · exact ⟨i, e, h0, h1, q2⟩
  obtain ⟨v0, hv0⟩ := owned_code g0 hxh (w.heap.size + 1)
  let E : Ext an.a an.T := { go := an.go, may := fun pre x => ∃ r, an.gen = pre ++ x :: r, yv := .func (.yield (w.heap.size + 1)) #[] #[], inv := fun o pre O S w' => ∃ gh, RInv w H g0 (w.heap.size + 1) (recOf an fn a p assign body w.heap.size o) (hid an caps H o pre) O S w' gh, mono := fun o pre O S w S' w' h hO hk => let ⟨gh, h⟩ := h; ⟨gh, h.mono hO hk⟩ }
  have hE : E.Call P := ⟨w.heap.size + 1, rfl, fun pre x wr O S cs v hi hm hrep _ hv hO => by
    obtain ⟨gh, hi⟩ := hi
    obtain ⟨r, hr⟩ := hm
    exact round_call hsz hpn ht hX hY (hbody pre x r hr) hi hrep hv hO⟩
  let g2 : Gh := ⟨g0.b, fun i => if i = an.place then v0 else g0.v i, g0.ok⟩
  generalize hH2 : (keepAt caps 0 H).set an.place (Ent.ext an.a an.T E true []) = H2
  have hlen2 : H2.length = H.length := by rw [← hH2, List.length_set, keepAt_length]
  have hpk : an.place < (keepAt caps 0 H).length := by rw [keepAt_length]; exact hpl
  have hat2 : H2[an.place]? = some (Ent.ext an.a an.T E true []) := by rw [← hH2]; exact List.getElem?_set_self hpk
  have hoth2 : ∀ i, i ≠ an.place → H2[i]? = (keepAt caps 0 H)[i]? := fun i hi => by rw [← hH2]; exact List.getElem?_set_ne (Ne.symm hi)
  have hvp : g2.v an.place = v0 := if_pos rfl
  have hown2 : ∀ b, Owned H2 g2 b → Owned (keepAt caps 0 H) g0 b ∨ Owned (hid an caps H true []) g0 b ∨ b = w.heap.size + 1 := by
    rintro b ⟨i, e, q1, q2⟩
    by_cases hi : i = an.place
    · subst hi
      rw [hat2] at q1
      cases q1
      have q2 : xblocks (g2.v an.place) b := q2
      rw [hvp] at q2
      exact .inr ((hv0 b).1 q2)
    · rw [hoth2 i hi] at q1
      exact .inl ⟨i, e, q1, (Ent.blocks_congr (g := g0) (g1 := g2) rfl (if_neg hi)).1 q2⟩
  have hownH : ∀ b, b < w.heap.size → Owned H2 g2 b → Owned H g0 b := fun b hb ho => by
    rcases hown2 b ho with h1 | h1 | h1
    · obtain ⟨i, e, _, q1, q2⟩ := hltK b h1; exact ⟨i, e, q1, q2⟩
    · obtain ⟨i, e, _, q1, q2⟩ := hsub b h1; exact ⟨i, e, q1, q2⟩
    · omega
  have hk2 : Keeps w (Stable H g0) W1 (Stable H2 g2) := ⟨by omega, fun b hb hst => ⟨⟨hst.1, fun ho => hst.2 (hownH b hb ho)⟩, hold1 b hb⟩⟩
  let gh0 : Gh := ⟨g0.b, g0.v, fun b => (g0.ok b ∧ b < w.heap.size) ∧ ¬ Owned (keepAt caps 0 H) g0 b⟩
  have hinv0 : RInv w H g0 (w.heap.size + 1) (recOf an fn a p assign body w.heap.size true) (hid an caps H true []) (xblocks v0) (Stable H2 g2) W1 gh0 := by
    refine ⟨fun b hb => ⟨by have := hb.1.1.2; omega, hb.1.1.1, fun ho => ?_⟩, fun b => (hv0 b).trans (or_congr (owned_congr rfl rfl).symm Iff.rfl), fun i e hi => ?_, fun i j e f b hi hj hbi hbj => ?_, ?_, hl1, fun ho => ?_, fun b hb hst => hk2.block b hb hst, hxh, by omega⟩
    · rcases hown2 b ho with h1 | h1 | h1
      · exact hb.1.2 h1
      · exact hb.2 ((owned_congr rfl rfl).2 h1)
      · have := hb.1.1.2; omega
    · rcases hide_some hi with h1 | ⟨h0, h1⟩
      · subst h1; trivial
      · obtain ⟨e1, r1, r2⟩ := hH0 i e h1
        have hO := Ent.le_OK hs0 hH0 r1 h1 r2 (hs0.ents i e1 r1)
        have hev : EvoR w (an.head H []) g0 W1 (hid an caps H true []) gh0 := by
          refine ⟨⟨by omega, fun b hb hst => ⟨⟨⟨⟨hst.1, hb⟩, fun ho => ?_⟩, fun ho => ?_⟩, hold1 b hb⟩⟩, by unfold hid; rw [hideAt_length]; exact Nat.le_refl _, fun _ _ => rfl, fun i e t ver xs _ hr => ?_⟩
          · obtain ⟨j, f, q0, q1, q2⟩ := hltK b ho
            exact hst.2 ⟨j, f, by rw [sameAt_get hsame j q0]; exact q1, q2⟩
          · obtain ⟨j, f, q1, q2⟩ := (owned_congr (g := g0) (g' := gh0) rfl rfl).1 ho
            rcases hide_some q1 with h3 | ⟨_, h3⟩
            · subst h3; exact q2.elim
            · exact hst.2 ⟨j, f, h3, q2⟩
          · rcases hide_some hr with h3 | ⟨_, h3⟩
            · cases h3
            · exact ⟨ver, xs, h3, .inr ⟨rfl, rfl, rfl⟩⟩
        exact Ent.OK.move (Ent.OK.evoR hev rfl rfl (fun j a t l c es he _ => by subst he; exact absurd h1 (hwF i j a t l c)) hO fun b hb => hold1 b (hO.lt b hb)) fun b _ => .inl (Nat.zero_le b)
    · rcases hide_some hi with h1 | ⟨_, h1⟩
      · subst h1; exact hbi.elim
      · rcases hide_some hj with h2 | ⟨_, h2⟩
        · subst h2; exact hbj.elim
        · obtain ⟨e1, q1, q2⟩ := hH0 i e h1
          obtain ⟨f1, q3, q4⟩ := hH0 j f h2
          exact hs0.apart i j e1 f1 b q1 q3 (Ent.le_blocks q2 ((Ent.blocks_congr (g := g0) (g1 := gh0) rfl rfl).1 hbi)) (Ent.le_blocks q4 ((Ent.blocks_congr (g := g0) (g1 := gh0) rfl rfl).1 hbj))
    · have h3 := Link.step (H0 := H) (H1 := H) (H2 := H) (g0 := g0) (g1 := g0) (g2 := gh0) (L := an.ents []) (caps := caps) ⟨rfl, fun _ _ => rfl, fun _ _ _ ver xs _ h => ⟨ver, xs, h, .inr ⟨rfl, rfl, rfl⟩⟩⟩ (fun _ _ => rfl) (fun _ _ _ ver xs _ h => ⟨ver, xs, h, .inr ⟨rfl, rfl, rfl⟩⟩) (fun i e t ver xs hi => by
        rcases hide_some hi with h1 | ⟨_, h1⟩
        · cases h1
        · obtain ⟨e1, q1, q2⟩ := hH0 i _ h1
          exact ⟨_, _, e1, q1, q2⟩)
      exact h3
    · have := hltH _ ((owned_congr rfl rfl).1 ho); omega
  have hs2 : Sat I.B I.X I.w0 H2 g2 W1 := by
    refine ⟨hos1.1.trans hs0.os, hos1.2.1.trans hs0.tape, hos1.2.2.trans hs0.output, by have := hs0.size0; omega, by have := hs0.hB; omega, hs0.okB, fun b hb hx => (hold1 b (Nat.lt_of_lt_of_le hb hs0.hB)).trans (hs0.old b hb hx), fun i e hi => ?_, fun i j e f b hi hj hbi hbj => ?_⟩
    · by_cases hip : i = an.place
      · subst hip
        rw [hat2] at hi
        cases hi
        refine ⟨fun b hb => ?_, gh0, ?_⟩
        · rw [hvp] at hb
          rcases (hv0 b).1 hb with h1 | h1
          · obtain ⟨i, e, _, q1, q2⟩ := hsub b h1
            exact ⟨by have := hltH b h1; omega, (hs0.ents i e q1).mine b q2⟩
          · exact ⟨by omega, .inl (by have := hs0.hB; omega)⟩
        · rw [hvp]; exact hinv0
      · rw [hoth2 i hip] at hi
        rcases keep_some hi with h1 | ⟨h0, h1⟩
        · subst h1; trivial
        · rcases (hcl i h0).symm with ⟨ty, t, x, q1⟩ | ⟨ty, cs, q1, q2⟩
          · rw [h1] at q1
            cases q1
            obtain ⟨vs, r1, r2, r3⟩ := hs0.ents i _ h1
            have hlt := (Array.getElem?_eq_some_iff.1 r1).1
            exact ⟨vs, (hold1 _ hlt).trans r1, Ty.Rep.mono hk2 t r2, (hk2.block _ hlt r3).1⟩
          rw [h1] at q1
          cases q1
          obtain ⟨vs, r1, r2, r3, r4⟩ := hs0.ents i _ h1
          exact ⟨vs, (hold1 _ (Array.getElem?_eq_some_iff.1 r1).1).trans r1, ⟨r2.1, fun j c v k1 k2 => SC.Rep.flat hk2 (by rw [hlen2]; exact Nat.le_refl _) (fun _ _ => rfl) (List.all_eq_true.1 q2 c (List.mem_of_getElem? k1)) (r2.2 j c v k1 k2)⟩, r3, r4⟩
    · have key : ∀ (i : Nat) (e : Ent), i ≠ an.place → H2[i]? = some e → e.blocks g2 i b → i ∈ caps ∧ H[i]? = some e ∧ e.blocks g0 i b := fun i e hip hi hb => by
        rw [hoth2 i hip] at hi
        rcases keep_some hi with h1 | ⟨h0, h1⟩
        · subst h1; exact hb.elim
        · exact ⟨h0, h1, (Ent.blocks_congr (g := g0) (g1 := g2) rfl (if_neg hip)).1 hb⟩
      have keyx : ∀ (i : Nat) (e f : Ent), i ≠ an.place → H2[i]? = some e → e.blocks g2 i b → H2[an.place]? = some f → f.blocks g2 an.place b → False := fun i e f hip hi hb hj hbj => by
        obtain ⟨k0, k1, k2⟩ := key i e hip hi hb
        rw [hat2] at hj
        cases hj
        have hbj : xblocks (g2.v an.place) b := hbj
        rw [hvp] at hbj
        rcases (hv0 b).1 hbj with h1 | h1
        · obtain ⟨j, e', q0, q1, q2⟩ := hsub b h1
          exact q0 (hs0.apart i j _ _ b k1 q1 k2 q2 ▸ k0)
        · have := hlt0 b ⟨i, e, k1, k2⟩; omega
      by_cases hip : i = an.place
      · subst hip
        by_cases hjp : j = an.place
        · exact hjp.symm
        · exact (keyx j f e hjp hj hbj hi hbi).elim
      · by_cases hjp : j = an.place
        · subst hjp; exact (keyx i e f hip hi hbi hj hbj).elim
        · obtain ⟨_, k1, k2⟩ := key i e hip hi hbi
          obtain ⟨_, m1, m2⟩ := key j f hjp hj hbj
          exact hs0.apart i j e f b k1 m1 k2 m2
  have hargs : ArgsRep W1 H2 g2 (.c (.raw E.yv) :: caps.map fun i => .c (.ptr i 0)) (E.yv :: caps.map fun i => Value.pointer (some ⟨g0.b i, 0, none⟩)) := by
    refine ⟨by simp, fun j x v h1 h2 => ?_⟩
    cases j with
    | zero => simp at h1 h2; subst h1; subst h2; exact rfl
    | succ j =>
      simp only [List.getElem?_cons_succ, List.getElem?_map] at h1 h2
      cases hq : caps[j]? with
      | none => rw [hq] at h1; simp at h1
      | some m =>
        rw [hq] at h1 h2
        simp at h1 h2
        subst h1; subst h2
        exact ⟨by rw [hlen2]; exact hf2 m (List.mem_of_getElem? hq), rfl⟩
  have hspec' := hcall E rfl (fun pre x r hr => ⟨r, hr⟩) (hrng _ _ E hE)
  rw [hH2] at hspec'
  refine ⟨w.heap.size + 1, [mark w.heap.size], W1, { target := .fn (.func gf) (caps.map fun i => Value.pointer (some ⟨g0.b i, 0, none⟩)).toArray, args := #[E.yv] }, W1, gf, #[E.yv] ++ (caps.map fun i => Value.pointer (some ⟨g0.b i, 0, none⟩)).toArray, W1, ?_, ?_, fun f' _ => trivial, ?_, (fun h => by cases h), ?_⟩
  · rw [← hW1]; exact run_enterLoop_outer _ _ _ _ _
  · simp only [resolve, hf1, Deferred.ofValue, Sem.run_pure]
    simp [Act.eval, E]
  · simp only [invoke, run_callFunc p1 p2 p3]
  refine callsIn_wide.2 ?_
  have hal : #[E.yv] ++ (caps.map fun i => Value.pointer (some ⟨g0.b i, 0, none⟩)).toArray = (E.yv :: caps.map fun i => Value.pointer (some ⟨g0.b i, 0, none⟩)).toArray := by
    apply Array.toList_inj.1; simp
  rw [hal]
  refine (hspec I.B I.X I.w0 H2 g2 W1 _ _ _ hspec' hs2 hargs).mono ?_
  rintro e w' ⟨v, rfl, sv, H3, g3, ⟨hK0, hK1, hK2⟩, hs3, hev3, _⟩
  show ∃ jump w4, (Instr.endLoop (w.heap.size + 1)).run P w' = .ok jump w4 ∧ _
  obtain ⟨hO3, gh, hi3⟩ := hs3.ents _ _ hK1
  generalize (feed an.go [] an.gen).1 = o at hK1 hi3 hT hF
  generalize (feed an.go [] an.gen).2 = pre at hK1 hi3 hT hF
  have hlp := hi3.lp
  refine ⟨_, _, run_endLoop hlp (by cases o <;> simp [recOf]), ?_⟩
  have hq := quiet_put (o' := .loop { recOf an fn a p assign body w.heap.size o with state := .exhausted }) hlp (fun _ _ _ h => by cases h)
  generalize w'.putObj (w.heap.size + 1) (.loop { recOf an fn a p assign body w.heap.size o with state := .exhausted }) = w4 at hq ⊢
  generalize hFe : (bif o then an.head H pre else an.stop H pre) = F at hT hF
  have hhid : hid an caps H o pre = hideAt caps 0 F := by unfold hid; rw [hFe]
  rw [hhid] at hi3
  have hFl : F.length = H.length := by rw [← hFe]; cases o <;> exact setEnts_length _ _ _
  have hlen4 : (joinAt caps 0 H F).length = H.length := joinAt_length _ _ _ hFl.symm _
  have hget4 : ∀ (i : Nat) (e : Ent), (joinAt caps 0 H F)[i]? = some e → (i ∈ caps ∧ H[i]? = some e) ∨ (i ∉ caps ∧ (hideAt caps 0 F)[i]? = some e) := fun i e hi => by
    rw [joinAt_get _ _ _ hFl.symm, Nat.zero_add] at hi
    by_cases hm : i ∈ caps
    · rw [any_beq.2 hm] at hi; exact .inl ⟨hm, hi⟩
    · rw [any_nbeq hm] at hi; exact .inr ⟨hm, hide_of hm hi⟩
  let g4 : Gh := ⟨fun i => if i ∈ caps then g3.b i else gh.b i, fun i => if i ∈ caps then g3.v i else gh.v i, g3.ok⟩
  have hb4c : ∀ i, i ∈ caps → g4.b i = g3.b i := fun i hi => if_pos hi
  have hb4n : ∀ i, i ∉ caps → g4.b i = gh.b i := fun i hi => if_neg hi
  have hv4c : ∀ i, i ∈ caps → g4.v i = g3.v i := fun i hi => if_pos hi
  have hv4n : ∀ i, i ∉ caps → g4.v i = gh.v i := fun i hi => if_neg hi
  have hg3 : ∀ i, i < H.length → g3.b i = g0.b i := fun i hi => hev3.ptr i (by rw [hlen2]; exact hi)
  have hgb : ∀ i, i < H.length → g4.b i = g0.b i := fun i hi => by
    by_cases hm : i ∈ caps
    · rw [hb4c i hm]; exact hg3 i hi
    · rw [hb4n i hm]; exact hi3.link.ptr i hi
  have hcap : ∀ i, i ∈ caps → H3[i]? = H[i]? := fun i hi => sameAt_get hK2 i hi
  have hownO : ∀ b, Owned (hideAt caps 0 F) gh b → xblocks (g3.v an.place) b := fun b hb => (hi3.own b).2 (.inl hb)
  have hownC : ∀ b, Owned (joinAt caps 0 H F) g4 b → (∃ i e, i ∈ caps ∧ H3[i]? = some e ∧ e.blocks g3 i b) ∨ Owned (hideAt caps 0 F) gh b := by
    rintro b ⟨i, e, q1, q2⟩
    rcases hget4 i e q1 with ⟨h0, h1⟩ | ⟨h0, h1⟩
    · exact .inl ⟨i, e, h0, by rw [hcap i h0]; exact h1, (Ent.blocks_congr (hb4c i h0) (hv4c i h0)).1 q2⟩
    · exact .inr ⟨i, e, h1, (Ent.blocks_congr (hb4n i h0) (hv4n i h0)).1 q2⟩
  have hown4 : ∀ b, Owned (joinAt caps 0 H F) g4 b → Owned H3 g3 b := fun b hb => by
    rcases hownC b hb with ⟨i, e, _, q1, q2⟩ | h1
    · exact ⟨i, e, q1, q2⟩
    · exact ⟨an.place, _, hK1, hownO b h1⟩
  have hst34 : ∀ b, Stable H3 g3 b → Stable (joinAt caps 0 H F) g4 b := fun b hb => ⟨hb.1, fun ho => hb.2 (hown4 b ho)⟩
  have hOl : xblocks (g3.v an.place) (w.heap.size + 1) := (hi3.own _).2 (.inr rfl)
  have hcl3 : ∀ i e, i ∈ caps → H3[i]? = some e → ¬ e.blocks g3 i (w.heap.size + 1) := fun i e hi he hb => hpc (hs3.apart i an.place _ _ _ he hK1 hb hOl ▸ hi)
  have hrow4 : ∀ i e t ver xs, i < H.length → (joinAt caps 0 H F)[i]? = some (.row e t ver xs) → ∃ ver0 xs0, H[i]? = some (.row e t ver0 xs0) ∧ (ver0 < ver ∨ (ver0 = ver ∧ xs0.length = xs.length ∧ g4.v i = g0.v i)) := fun i e t ver xs hi hr => by
    rcases hget4 i _ hr with ⟨h0, h1⟩ | ⟨h0, h1⟩
    · exact absurd h1 (hclr i h0 _ _ _ _)
    · rw [hv4n i h0]; exact hi3.link.row i e t ver xs hi h1
  have hkeep : Keeps w (Stable H g0) w4 (Stable (joinAt caps 0 H F) g4) := by
    refine ⟨by rw [hq.size]; exact hi3.sz, fun b hb hst => ?_⟩
    obtain ⟨q1, q2⟩ := hi3.old b hb hst
    exact ⟨hst34 b q1, (hq.oth b (by omega)).trans q2⟩
  have hev4 : Evo w H g0 w4 (joinAt caps 0 H F) g4 := ⟨hev3.ok, hkeep, by rw [hlen4]; exact Nat.le_refl _, hgb, hrow4⟩
  have hs4 : Sat I.B I.X I.w0 (joinAt caps 0 H F) g4 w4 := by
    refine ⟨hq.os.trans hs3.os, hq.tape.trans hs3.tape, hq.output.trans hs3.output, by rw [hq.size]; exact hs3.size0, by rw [hq.size]; exact hs3.hB, hs3.okB, fun b hb hx => ?_, fun i e hi => ?_, fun i j e f b hi hj hbi hbj => ?_⟩
    · exact (hq.oth b (by have := hs0.hB; omega)).trans (hs3.old b hb hx)
    · rcases hget4 i e hi with ⟨h0, h1⟩ | ⟨h0, h1⟩
      · rcases (hcl i h0).symm with ⟨ty, t, x, q1⟩ | ⟨ty, cs, q1, q2⟩
        · rw [h1] at q1
          cases q1
          have h3 : H3[i]? = some (.con ty t x) := by rw [hcap i h0]; exact h1
          obtain ⟨vs, r1, r2, r3⟩ := hs3.ents i _ h3
          have hne : g3.b i ≠ w.heap.size + 1 := fun e => r3.2 ⟨an.place, _, hK1, by rw [e]; exact hOl⟩
          refine ⟨vs, by rw [hb4c i h0, hq.oth _ hne]; exact r1, (Ty.Rep.quiet hq t r2).sub fun b _ h => hst34 b h.1, ?_⟩
          rw [hb4c i h0]; exact hst34 _ r3
        rw [h1] at q1
        cases q1
        have h3 : H3[i]? = some (.blk ty cs) := by rw [hcap i h0]; exact h1
        obtain ⟨vs, r1, r2, r3, r4⟩ := hs3.ents i _ h3
        have hne : g3.b i ≠ w.heap.size + 1 := fun e => hcl3 i _ h0 h3 e.symm
        refine ⟨vs, by rw [hb4c i h0, hq.oth _ hne]; exact r1, ⟨r2.1, fun j c v k1 k2 => ?_⟩, r3, by rw [hb4c i h0]; exact r4⟩
        have hr1 := (r2.2 j c v k1 k2).quiet hq
        refine SC.Rep.flat (g := g3.less (w.heap.size + 1)) ⟨Nat.le_refl _, fun b _ hst => ⟨hst34 b ⟨hst.1.1, hst.2⟩, rfl⟩⟩ (by rw [hlen4, hK0]; exact Nat.le_refl _) (fun m hm => ?_) (List.all_eq_true.1 q2 c (List.mem_of_getElem? k1)) hr1
        rw [hK0] at hm
        exact (hgb m hm).trans (hg3 m hm).symm
      · have hO := Ent.OK.quiet hq hi3.nl (noExt_get hi3.noext i e h1) h1 (hi3.ents i e h1)
        have hev : EvoR w4 (hideAt caps 0 F) (gh.less (w.heap.size + 1)) w4 (joinAt caps 0 H F) g4 := by
          refine ⟨⟨Nat.le_refl _, fun b hb hst => ⟨hst34 b (hi3.st b ⟨hst.1.1, hst.2⟩).2, rfl⟩⟩, by rw [hlen4, hideAt_length, hFl]; exact Nat.le_refl _, fun m hm => ?_, fun m e t ver xs hm hr => ?_⟩
          · rw [hideAt_length, hFl] at hm
            exact (hgb m hm).trans (hi3.link.ptr m hm).symm
          · rcases hget4 m _ hr with ⟨k0, k1⟩ | ⟨k0, k1⟩
            · exact absurd k1 (hclr m k0 _ _ _ _)
            · exact ⟨ver, xs, k1, .inr ⟨rfl, rfl, hv4n m k0⟩⟩
        have hwk3 : ∀ (j : Nat) (a : Bool) (t : Ty) (l : List (Int × t.den)) (c : Option (Int × t.den)) (es : List (Int × t.den)), e = Ent.iter j a t l c → (hideAt caps 0 F)[j]? = some (Ent.tab a t es) → (joinAt caps 0 H F)[j]? = (hideAt caps 0 F)[j]? ∧ g4.b j = (gh.less (w.heap.size + 1)).b j ∧ w4.heap[(gh.less (w.heap.size + 1)).b j]? = w4.heap[(gh.less (w.heap.size + 1)).b j]? := fun j a t l c es _ hj => by
          rcases hide_some hj with k1 | ⟨k0, k1⟩
          · cases k1
          · have k0 : j ∉ caps := fun hm => by have := k0 hm; cases this
            refine ⟨?_, hb4n j k0, rfl⟩
            rw [joinAt_get _ _ _ hFl.symm, Nat.zero_add, any_nbeq k0, hj]
            exact k1
        refine Ent.OK.move (Ent.OK.evoR hev (hb4n i h0) (hv4n i h0) hwk3 hO fun _ _ => rfl) fun b hb => ?_
        have hb' := (Ent.blocks_congr (hb4n i h0) (hv4n i h0)).1 hb
        exact (hO3 b (hownO b ⟨i, e, h1, hb'⟩)).2
    · rcases hget4 i e hi with ⟨h0, h1⟩ | ⟨h0, h1⟩ <;> rcases hget4 j f hj with ⟨m0, m1⟩ | ⟨m0, m1⟩
      · exact hs3.apart i j e f b (by rw [hcap i h0]; exact h1) (by rw [hcap j m0]; exact m1) ((Ent.blocks_congr (hb4c i h0) (hv4c i h0)).1 hbi) ((Ent.blocks_congr (hb4c j m0) (hv4c j m0)).1 hbj)
      · have k1 := (Ent.blocks_congr (hb4c i h0) (hv4c i h0)).1 hbi
        have k2 := (Ent.blocks_congr (hb4n j m0) (hv4n j m0)).1 hbj
        exact absurd (hs3.apart i an.place e _ b (by rw [hcap i h0]; exact h1) hK1 k1 (hownO b ⟨j, f, m1, k2⟩) ▸ h0) hpc
      · have k1 := (Ent.blocks_congr (hb4n i h0) (hv4n i h0)).1 hbi
        have k2 := (Ent.blocks_congr (hb4c j m0) (hv4c j m0)).1 hbj
        exact absurd (hs3.apart j an.place f _ b (by rw [hcap j m0]; exact m1) hK1 k2 (hownO b ⟨i, e, h1, k1⟩) ▸ m0) hpc
      · exact hi3.apart i j e f b h1 m1 ((Ent.blocks_congr (hb4n i h0) (hv4n i h0)).1 hbi) ((Ent.blocks_congr (hb4n j m0) (hv4n j m0)).1 hbj)
  let I4 : Ini := ⟨I.n, I.B, I.X, I.w0, w4, joinAt caps 0 H F, g4, w.heap.size :: I.dl, I.ds⟩
  have hwi : I.wi.heap.size ≤ w.heap.size := hev0.keeps.size
  have hD2 : Stable H2 g2 w.heap.size := ⟨hs0.okB _ (.inl hs0.hB), fun ho => by
    rcases hown2 _ ho with h1 | h1 | h1
    · obtain ⟨i, e, _, q1, q2⟩ := hltK _ h1; have := hlt0 _ ⟨i, e, q1, q2⟩; omega
    · have := hltH _ h1; omega
    · omega⟩
  obtain ⟨hD3, hD4⟩ := hev3.keeps.block w.heap.size (by omega) hD2
  have hle : I.Le I4 := by
    refine ⟨rfl, rfl, rfl, rfl, rfl, hev0.trans hev4, fun h1 h2 => List.nodup_cons.2 ⟨fun hm => ?_, h1⟩, fun b hb => ?_⟩
    · have := h2 _ hm; omega
    · rcases List.mem_cons.1 hb with hb | hb
      · subst hb
        exact .inr ⟨hwi, (hq.oth _ (by omega)).trans (hD4.trans hD1), hst34 _ hD3⟩
      · exact .inl hb
  have hh4 : Holds I4 ⟨st.n, st.t, joinAt caps 0 H F⟩ { a with defers := [mark w.heap.size] ++ a.defers } w4 :=
    ⟨by rw [hdef]; rfl, hsz, hn, g4, hs4, Evo.refl _ _ _, fun d => (ht d).evo hev4⟩
  cases o with
  | true =>
    refine ⟨.normal, _, I4, rfl, ?_, hh4, hle, fun h => by cases h⟩
    rw [← hFe]
    exact hT rfl
  | false =>
    have hQ : Q an.ex ⟨st.n, st.t, joinAt caps 0 H F⟩ := by rw [← hFe]; exact hF rfl
    show Code.wpIn Fence.wide n P an.ex.code (QR I true Q) _ w4
    cases hx : an.ex with
    | normal => rw [hx] at hQ; exact wpIn_skip ⟨.normal, _, I4, rfl, hQ, hh4, hle, fun h => by cases h⟩
    | ret => rw [hx] at hQ; exact wpIn_ret ⟨.ret, _, I4, rfl, hQ, hh4, hle, fun h => by cases h⟩
    | exit id => rw [hx] at hQ; exact wpIn_exit ⟨.exit id, _, I4, rfl, hQ, hh4, hle, fun h => by cases h⟩
end
end Go.SX

/- SX, part LS: entries that change places. -/
namespace Go.SX
open Go Go.RowKit
section
variable {P : Program} {B : Nat} {X : Nat → Prop} {w0 w w' : World} {H H0 Ho Hn : List Ent} {g g' : Gh} {ρ V : Nat → Nat} {n : Nat}
theorem Ty.Rep.stable {t : Ty} {x : t.den} {cs : List Value} {ok ok' : Nat → Prop} (h : t.Rep w ok x cs) (hk : ∀ b, b < w.heap.size → ok b → ok' b) : t.Rep w ok' x cs :=
  Ty.Rep.mono ⟨Nat.le_refl _, fun b hb ho => ⟨hk b hb ho, rfl⟩⟩ t h
theorem ren_rep {gn : Gh} (hb : ∀ k, k < n → gn.b (ρ k) = g'.b k) (hv : ∀ k, k < n → gn.v (ρ k) = g'.v k) (hn : Ho.length = n) (hl : ∀ k, k < n → ρ k < Hn.length)
    (hget : ∀ k, k < n → Hn[ρ k]? = (Ho[k]?).map (renEnt ρ V k)) (hst : ∀ b, b < w'.heap.size → Stable Ho g' b → Stable Hn gn b) {x : SC} {v : Value} (hr : x.Rep w' Ho g' v) : (renSC ρ V x).Rep w' Hn gn v := by
  cases x with
  | any => trivial
  | int => exact hr
  | prop => exact hr
  | bool => exact hr
  | kb => exact hr
  | str => exact hr
  | raw => exact hr
  | ptr i o =>
    obtain ⟨h1, h2⟩ := hr
    exact ⟨hl i (by omega), by rw [hb i (by omega)]; exact h2⟩
  | tab i =>
    obtain ⟨h1, h2⟩ := hr
    exact ⟨hl i (by omega), by rw [hb i (by omega)]; exact h2⟩
  | bsl i m =>
    obtain ⟨h1, h2⟩ := hr
    exact ⟨hl i (by omega), by rw [hb i (by omega)]; exact h2⟩
  | bptr i p z k =>
    obtain ⟨h1, h2⟩ := hr
    exact ⟨hl i (by omega), by rw [hb i (by omega)]; exact h2⟩
  | reg i p z k o m =>
    obtain ⟨h1, Q, h2, h3⟩ := hr
    exact ⟨hl i (by omega), Q, h2, fun hm => by rw [hb i (by omega)]; exact h3 hm⟩
  | ro t xs => exact Ty.Rep.stable (t := .slice _) hr hst
  | roc t xs => exact ⟨Ty.Rep.stable (t := .slice t) hr.1 hst, hr.2⟩
  | nro t b xs => exact ⟨Ty.Rep.stable (t := .slice t) hr.1 hst, hr.2⟩
  | roa t xs k off =>
    obtain ⟨h0, ad, h1, h2, h3, h4⟩ := hr
    exact ⟨h0, ad, h1, h2, hst _ h2 h3, h4.mono (fun _ _ h => Ty.Rep.stable h hst) fun _ _ h => h⟩
  | own i a =>
    obtain ⟨h1, h2⟩ := hr
    refine ⟨h1, ?_⟩
    unfold OwnRep at h2 ⊢
    cases hi : Ho[i]? with
    | none => rw [hi] at h2; exact h2.elim
    | some en =>
      have hin : i < n := by rw [← hn]; exact (List.getElem?_eq_some_iff.1 hi).1
      rw [hi] at h2
      rw [hget i hin, hi]
      cases en with
      | dead => trivial
      | blk => trivial
      | tab => trivial
      | iter => trivial
      | ext => trivial
      | mtab => trivial
      | con => trivial
      | gl => trivial
      | obj => trivial
      | row e t a' xs => exact ⟨by have := h2.1; omega, fun e => by rw [hv i hin]; exact h2.2 (by omega)⟩
  | owna i a k off =>
    obtain ⟨h1, h2⟩ := hr
    refine ⟨h1, ?_⟩
    unfold OwnaRep at h2 ⊢
    cases hi : Ho[i]? with
    | none => rw [hi] at h2; exact h2.elim
    | some en =>
      have hin : i < n := by rw [← hn]; exact (List.getElem?_eq_some_iff.1 hi).1
      rw [hi] at h2
      rw [hget i hin, hi]
      cases en with
      | dead => trivial
      | blk => trivial
      | tab => trivial
      | iter => trivial
      | ext => trivial
      | mtab => trivial
      | con => trivial
      | gl => trivial
      | obj => trivial
      | row e t a' xs => exact ⟨by have := h2.1; omega, fun e => by rw [hv i hin]; exact h2.2 (by omega)⟩
  | pre i a m =>
    obtain ⟨h1, h2⟩ := hr
    refine ⟨h1, ?_⟩
    unfold PreRep at h2 ⊢
    cases hi : Ho[i]? with
    | none => rw [hi] at h2; exact h2.elim
    | some en =>
      have hin : i < n := by rw [← hn]; exact (List.getElem?_eq_some_iff.1 hi).1
      rw [hi] at h2
      rw [hget i hin, hi]
      cases en with
      | dead => trivial
      | blk => trivial
      | tab => trivial
      | iter => trivial
      | ext => trivial
      | mtab => trivial
      | con => trivial
      | gl => trivial
      | obj => trivial
      | row e t a' xs => exact ⟨by have := h2.1; omega, fun e => by rw [hv i hin]; exact h2.2 (by omega)⟩
  | suf i a m =>
    obtain ⟨h1, h2⟩ := hr
    refine ⟨h1, ?_⟩
    unfold SufRep at h2 ⊢
    cases hi : Ho[i]? with
    | none => rw [hi] at h2; exact h2.elim
    | some en =>
      have hin : i < n := by rw [← hn]; exact (List.getElem?_eq_some_iff.1 hi).1
      rw [hi] at h2
      rw [hget i hin, hi]
      cases en with
      | dead => trivial
      | blk => trivial
      | tab => trivial
      | iter => trivial
      | ext => trivial
      | mtab => trivial
      | con => trivial
      | gl => trivial
      | obj => trivial
      | row e t a' xs => exact ⟨by have := h2.1; omega, fun e => by rw [hv i hin]; exact h2.2 (by omega)⟩
  | mid i a o m =>
    obtain ⟨h1, Q, l, c, h2, h3, h4⟩ := hr
    refine ⟨h1, Q, l, c, ?_, h3, h4⟩
    unfold SufRep at h2 ⊢
    cases hi : Ho[i]? with
    | none => rw [hi] at h2; exact h2.elim
    | some en =>
      have hin : i < n := by rw [← hn]; exact (List.getElem?_eq_some_iff.1 hi).1
      rw [hi] at h2
      rw [hget i hin, hi]
      cases en with
      | dead => trivial
      | blk => trivial
      | tab => trivial
      | iter => trivial
      | ext => trivial
      | mtab => trivial
      | con => trivial
      | gl => trivial
      | obj => trivial
      | row e t a' xs => exact ⟨by have := h2.1; omega, fun e => by rw [hv i hin]; exact h2.2 (by omega)⟩
  | fn f caps =>
    obtain ⟨h1, h2⟩ := hr
    refine ⟨?_, fun i hi => ?_⟩
    · rw [h1, List.map_map]
      congr 2
      exact List.map_congr_left fun i hi => by simp only [Function.comp]; rw [hb i (by have := h2 i hi; omega)]
    · obtain ⟨j, hj, e⟩ := List.mem_map.1 hi
      rw [← e]
      exact hl j (by have := h2 j hj; omega)
  | bfn f caps =>
    obtain ⟨h1, h2⟩ := hr
    refine ⟨?_, fun i hi => ?_⟩
    · rw [h1, List.map_map]
      congr 2
      exact List.map_congr_left fun i hi => by simp only [Function.comp]; rw [hb i (by have := h2 i hi; omega)]
    · obtain ⟨j, hj, e⟩ := List.mem_map.1 hi
      rw [← e]
      exact hl j (by have := h2 j hj; omega)
theorem reps_map (hsc : ∀ (x : SC) (v : Value), x.Rep w' Ho g' v → (renSC ρ V x).Rep w' Hn g v) {l : List SC} {vs : List Value} (hr : Reps w' Ho g' l vs) : Reps w' Hn g (l.map (renSC ρ V)) vs := by
  refine ⟨by rw [hr.1, List.length_map], fun j c v h1 h2 => ?_⟩
  rw [List.getElem?_map] at h1
  cases hj : l[j]? with
  | none => rw [hj] at h1; simp at h1
  | some x =>
    rw [hj] at h1
    simp at h1
    subst h1
    exact hsc _ _ (hr.2 j x v hj h2)
theorem renSV_rep (hsc : ∀ (x : SC) (v : Value), x.Rep w' Ho g' v → (renSC ρ V x).Rep w' Hn g v) (hst : ∀ b, b < w'.heap.size → Stable Ho g' b → Stable Hn g b) {x : SV} {v : Value} (hr : x.Rep w' Ho g' v) : (renSV ρ V x).Rep w' Hn g v := by
  cases x with
  | c x => exact hsc _ _ hr
  | agg l =>
    obtain ⟨vs, e, h1, h2⟩ := hr
    exact ⟨vs, e, reps_map hsc h1, h2⟩
  | tup l =>
    obtain ⟨vs, e, h1, h2⟩ := hr
    refine ⟨vs, e, by rw [h1, List.length_map], fun j p u q1 q2 => ?_⟩
    rw [List.getElem?_map] at q1
    cases hj : l[j]? with
    | none => rw [hj] at q1; simp at q1
    | some x =>
      rw [hj] at q1
      simp at q1
      subst q1
      obtain ⟨us, r1, r2, r3⟩ := h2 j x u hj q2
      exact ⟨us, reps_map hsc r1, r2, r3⟩
  | dt t x =>
    obtain ⟨vs, e, h1⟩ := hr
    exact ⟨vs, e, Ty.Rep.stable h1 hst⟩
  | obj pre t x post =>
    obtain ⟨v1, v2, v3, e, h1, h2, h3, h4⟩ := hr
    exact ⟨v1, v2, v3, e, reps_map hsc h1, Ty.Rep.stable h2 hst, reps_map hsc h3, h4⟩
theorem swN_inv (j k i : Nat) : swN j k (swN j k i) = i := by
  unfold swN
  cases h1 : Nat.beq i j with
  | true =>
    have := Nat.eq_of_beq_eq_true h1
    subst this
    simp only [cond_true]
    cases h2 : Nat.beq k i with
    | true => simp only [cond_true]; exact Nat.eq_of_beq_eq_true h2
    | false => simp only [cond_false, Nat.beq_refl, cond_true]
  | false =>
    simp only [cond_false]
    cases h2 : Nat.beq i k with
    | true =>
      have := Nat.eq_of_beq_eq_true h2
      subst this
      simp only [cond_true, Nat.beq_refl]
    | false => simp only [cond_false, h1, h2]
theorem swN_lt {j k n i : Nat} (hj : j < n) (hk : k < n) (hi : i < n) : swN j k i < n := by
  unfold swN
  cases Nat.beq i j with
  | true => exact hk
  | false => cases Nat.beq i k with
    | true => exact hj
    | false => exact hi
theorem findT_map (f : SV → SV) (h0 : f (.c .any) = .c .any) (d : Nat) : (t : List (Nat × SV)) → findT d (t.map fun p => (p.1, f p.2)) = f (findT d t)
  | [] => h0.symm
  | (k, v) :: r => by
    simp only [List.map_cons, findT]
    cases Nat.beq k d with
    | true => rfl
    | false => exact findT_map f h0 d r
def At (B : Nat) (X : Nat → Prop) (w0 wi : World) (Hi : List Ent) (gi : Gh) (st : St) (get : Nat → Value) (w : World) : Prop :=
  ∃ g, Sat B X w0 st.h g w ∧ Evo wi Hi gi w st.h g ∧ ∀ d, (findT d st.t).Rep w st.h g (get d)
theorem swap_core {wi : World} {Hi : List Ent} {gi : Gh} {st : St} {get : Nat → Value} {j k : Nat} {ej ek : Ent} (hj : st.h[j]? = some ej) (hk : st.h[k]? = some ek) (hs : Sat B X w0 st.h g w) (hev : Evo wi Hi gi w st.h g) (ht : ∀ d, (findT d st.t).Rep w st.h g (get d))
    (hpin : ∀ i, i < Hi.length → g.b (swN j k i) = g.b i) (hrow : ∀ i, i < Hi.length → swN j k i = i ∨ st.h[swN j k i]? = some .dead) :
    At B X w0 wi Hi gi ⟨st.n, st.t.map fun p => (p.1, renSV (swN j k) noV p.2), ((st.h.set j ek).set k ej).map (renEnt (swN j k) noV 0)⟩ get w := by
    have hjl : j < st.h.length := (List.getElem?_eq_some_iff.1 hj).1
    have hkl : k < st.h.length := (List.getElem?_eq_some_iff.1 hk).1
    let gn : Gh := ⟨fun i => g.b (swN j k i), fun i => g.v (swN j k i), g.ok⟩
    have gb : ∀ i, i < st.h.length → gn.b (swN j k i) = g.b i := fun i _ => by show g.b (swN j k (swN j k i)) = _; rw [swN_inv]
    have gv : ∀ i, i < st.h.length → gn.v (swN j k i) = g.v i := fun i _ => by show g.v (swN j k (swN j k i)) = _; rw [swN_inv]
    have hsw : ∀ i, ((st.h.set j ek).set k ej)[swN j k i]? = st.h[i]? := fun i => by
      unfold swN
      cases q1 : Nat.beq i j with
      | true =>
        have := Nat.eq_of_beq_eq_true q1
        subst this
        simp only [cond_true]
        rw [List.getElem?_set_self (by rw [List.length_set]; exact hkl), hj]
      | false =>
        simp only [cond_false]
        have n1 : i ≠ j := Nat.ne_of_beq_eq_false q1
        cases q2 : Nat.beq i k with
        | true =>
          have := Nat.eq_of_beq_eq_true q2
          subst this
          simp only [cond_true]
          rw [List.getElem?_set_ne n1, List.getElem?_set_self hjl, hk]
        | false =>
          have n2 : i ≠ k := Nat.ne_of_beq_eq_false q2
          simp only [cond_false]
          rw [List.getElem?_set_ne (Ne.symm n2), List.getElem?_set_ne (Ne.symm n1)]
    have hren : ∀ i (e : Ent), renEnt (swN j k) noV 0 e = renEnt (swN j k) noV i e := fun i e => by cases e <;> rfl
    have hget : ∀ i, (((st.h.set j ek).set k ej).map (renEnt (swN j k) noV 0))[swN j k i]? = (st.h[i]?).map (renEnt (swN j k) noV i) := fun i => by
      rw [List.getElem?_map, hsw]
      cases st.h[i]? with
      | none => rfl
      | some e => simp only [Option.map_some]; rw [hren i e]
    generalize hHn : ((st.h.set j ek).set k ej).map (renEnt (swN j k) noV 0) = Hn at hget
    have hlen : Hn.length = st.h.length := by rw [← hHn]; simp
    have hinv : ∀ i e, Hn[i]? = some e → ∃ e1, st.h[swN j k i]? = some e1 ∧ e = renEnt (swN j k) noV (swN j k i) e1 := fun i e hi => by
      have := hget (swN j k i)
      rw [swN_inv, hi] at this
      cases hq : st.h[swN j k i]? with
      | none => rw [hq] at this; simp at this
      | some e1 => rw [hq] at this; exact ⟨e1, rfl, by simpa using this⟩
    have hbn : ∀ i e b, ((renEnt (swN j k) noV (swN j k i) e).blocks gn i b → e.blocks g (swN j k i) b) := fun i e b => by
      cases e with
      | dead => exact id
      | iter => exact False.elim
      | ext => exact id
      | mtab => exact False.elim
      | con => exact False.elim
      | gl => exact False.elim
      | obj => exact id
      | blk => exact id
      | tab => exact id
      | row => exact id
    have hown : ∀ b, Owned Hn gn b → Owned st.h g b := by
      rintro b ⟨i, e, q1, q2⟩
      obtain ⟨e1, q3, rfl⟩ := hinv i e q1
      exact ⟨_, e1, q3, hbn i e1 b q2⟩
    have hst : ∀ b, Stable st.h g b → Stable Hn gn b := fun b hb => ⟨hb.1, fun ho => hb.2 (hown b ho)⟩
    have hst' : ∀ b, b < w.heap.size → Stable st.h g b → Stable Hn gn b := fun b _ hb => hst b hb
    have hsc : ∀ (x : SC) (v : Value), x.Rep w st.h g v → (renSC (swN j k) noV x).Rep w Hn gn v := fun x v hr =>
      ren_rep (n := st.h.length) gb gv rfl (fun i hi => by rw [hlen]; exact swN_lt hjl hkl hi) (fun i _ => hget i) hst' hr
    refine ⟨gn, ⟨hs.os, hs.tape, hs.output, hs.size0, hs.hB, hs.okB, hs.old, fun i e hi => ?_, fun i i' e f b hi hi' hb hb' => ?_⟩, ⟨hev.ok, ⟨⟨hev.keeps.size, fun b hb ho => ?_⟩, by show Hi.length ≤ Hn.length; rw [hlen]; exact hev.len, fun i hi => ?_, fun i e t ver xs hi hr => ?_⟩⟩, fun d => ?_⟩
    · obtain ⟨e1, hq, rfl⟩ := hinv i e hi
      have hO := hs.ents _ e1 hq
      match e1, hO with
      | .dead, _ => trivial
      | .blk ty cs, ⟨vs, h1, h2, h3, h4⟩ => exact ⟨vs, h1, reps_map hsc h2, h3, h4⟩
      | .row ty t v xs, ⟨cells, h1, h2, h3, h4⟩ => exact ⟨cells, h1, h2.mono (fun _ _ h => Ty.Rep.stable h hst') (fun _ _ h => h), h3, h4⟩
      | .iter .., _ => trivial
      | .mtab .., _ => trivial
      | .obj ty pre t x post, ⟨v1, v2, v3, h1, h2, h3, h4, h5, h6⟩ => exact ⟨v1, v2, v3, h1, reps_map hsc h2, Ty.Rep.stable h3 hst', reps_map hsc h4, h5, h6⟩
      | .gl b ty v, ⟨h1, h3⟩ => exact ⟨h1, hst _ h3⟩
      | .con ty t x, ⟨vs, h1, h2, h3⟩ => exact ⟨vs, h1, Ty.Rep.stable h2 hst', hst _ h3⟩
      | .ext a T E o pre, ⟨h1, h2⟩ => exact ⟨h1, E.mono _ _ _ _ _ _ _ h2 (fun _ _ => rfl) ⟨Nat.le_refl _, fun b hb hs => ⟨hst b hs, rfl⟩⟩⟩
      | .tab a t es, ⟨ents, clock, h1, ⟨⟨q1, q2, q3⟩, q4⟩, h4⟩ =>
        refine ⟨ents, clock, h1, ⟨⟨q1, q2, fun k p m u1 u2 => ?_⟩, q4⟩, h4⟩
        obtain ⟨r1, r2⟩ := q3 k p m u1 u2
        refine ⟨r1, ?_⟩
        split
        · rename_i hc; rw [if_pos hc] at r2; obtain ⟨cs, e, r2⟩ := r2; exact ⟨cs, e, Ty.Rep.stable r2 hst'⟩
        · rename_i hc; rw [if_neg hc] at r2; exact Ty.Rep.stable r2 hst'
    · obtain ⟨e1, q1, rfl⟩ := hinv i e hi
      obtain ⟨f1, q2, rfl⟩ := hinv i' f hi'
      have := hs.apart _ _ e1 f1 b q1 q2 (hbn i e1 b hb) (hbn i' f1 b hb')
      have h7 := congrArg (swN j k) this
      rwa [swN_inv, swN_inv] at h7
    · obtain ⟨q1, q2⟩ := hev.keeps.block b hb ho
      exact ⟨hst b q1, q2⟩
    · show g.b (swN j k i) = _
      rw [hpin i hi]
      exact hev.ptr i hi
    · obtain ⟨e1, q1, q2⟩ := hinv i _ hr
      rcases hrow i hi with q | q
      · rw [q] at q1 q2
        cases e1 with
        | row e' t' v' xs' =>
          simp only [renEnt] at q2
          injection q2 with r1 r2 r3 r4
          subst r1; subst r2
          have r4 := eq_of_heq r4
          subst r4
          have r3 : ver = v' := by rw [r3]; exact Nat.zero_add _
          subst r3
          obtain ⟨v0, x0, u1, u2⟩ := hev.row i _ _ _ _ hi q1
          refine ⟨v0, x0, u1, ?_⟩
          have gvi : gn.v i = g.v i := by show g.v (swN j k i) = _; rw [q]
          rcases u2 with u2 | ⟨u2, u3, u4⟩
          · exact .inl u2
          · exact .inr ⟨u2, u3, gvi.trans u4⟩
        | dead => cases q2
        | blk => cases q2
        | tab => cases q2
        | iter => cases q2
        | ext => cases q2
        | mtab => cases q2
        | con => cases q2
        | gl => cases q2
        | obj => cases q2
      · rw [q1] at q
        cases q
        cases q2
    · rw [findT_map (renSV (swN j k) noV) rfl]
      exact renSV_rep hsc hst' (ht d)
theorem swN_out {j k i : Nat} (h1 : i ≠ j) (h2 : i ≠ k) : swN j k i = i := by
  unfold swN
  cases q1 : Nat.beq i j with
  | true => exact absurd (Nat.eq_of_beq_eq_true q1) h1
  | false =>
    cases q2 : Nat.beq i k with
    | true => exact absurd (Nat.eq_of_beq_eq_true q2) h2
    | false => rfl
theorem swap_at {wi : World} {Hi : List Ent} {gi : Gh} {st : St} {get : Nat → Value} {j k : Nat} (h1 : Hi.length ≤ j) (h2 : Hi.length ≤ k) (h : At B X w0 wi Hi gi st get w) : At B X w0 wi Hi gi (swapSt j k st) get w := by
  unfold swapSt
  split
  · rename_i ej ek hj hk
    obtain ⟨g, hs, hev, ht⟩ := h
    have ho : ∀ i, i < Hi.length → swN j k i = i := fun i hi => swN_out (by omega) (by omega)
    exact swap_core hj hk hs hev ht (fun i hi => by rw [ho i hi]) fun i hi => .inl (ho i hi)
  · exact h
theorem grow1_at {wi : World} {Hi : List Ent} {gi : Gh} {st : St} {get : Nat → Value} (hs : Sat B X w0 st.h g w) (hev : Evo wi Hi gi w st.h g) (ht : ∀ d, (findT d st.t).Rep w st.h g (get d)) (b : Nat) (v : Value) :
    ∃ g', g'.b st.h.length = b ∧ (∀ i, i ≠ st.h.length → g'.b i = g.b i) ∧ Sat B X w0 (st.h ++ [.dead]) g' w ∧ Evo wi Hi gi w (st.h ++ [.dead]) g' ∧ ∀ d, (findT d st.t).Rep w (st.h ++ [.dead]) g' (get d) := by
  let g' : Gh := ⟨fun i => if i = st.h.length then b else g.b i, fun i => if i = st.h.length then v else g.v i, g.ok⟩
  obtain ⟨q1, q2⟩ := hs.add (g1 := g') (w1 := w) .dead rfl (fun i hi => if_neg hi) (fun i hi => if_neg hi) rfl rfl rfl (Nat.le_refl _) (fun _ _ => rfl) (fun _ h => h.elim) (fun _ => trivial)
  exact ⟨g', if_pos rfl, fun i hi => if_neg hi, q1, hev.trans q2, fun d => (ht d).evo q2⟩
theorem lift_at {wi : World} {Hi : List Ent} {gi : Gh} {st : St} {get : Nat → Value} {k : Nat} (hkl : k < st.h.length) (h : At B X w0 wi Hi gi st get w) : At B X w0 wi Hi gi (liftSt k st) get w := by
  obtain ⟨g, hs, hev, ht⟩ := h
  have hH := hev.len
  obtain ⟨g', e1, e2, q1, q2, q3⟩ := grow1_at hs hev ht (g.b k) (g.v k)
  unfold liftSt swapSt
  have hk : (st.h ++ [Ent.dead])[k]? = some st.h[k] := by rw [List.getElem?_append_left hkl, List.getElem?_eq_getElem hkl]
  have hL : (st.h ++ [Ent.dead])[st.h.length]? = some .dead := by simp
  simp only [hk, hL]
  have hne : k ≠ st.h.length := by omega
  refine swap_core (st := ⟨st.n, st.t, st.h ++ [.dead]⟩) hk hL q1 q2 q3 (fun i hi => ?_) fun i hi => ?_
  · by_cases hik : i = k
    · subst hik
      have : swN i st.h.length i = st.h.length := by unfold swN; rw [Nat.beq_refl]; rfl
      rw [this, e1, e2 i hne]
    · rw [swN_out hik (by omega)]
  · by_cases hik : i = k
    · subst hik
      have : swN i st.h.length i = st.h.length := by unfold swN; rw [Nat.beq_refl]; rfl
      rw [this]
      exact .inr hL
    · exact .inl (swN_out hik (by omega))
theorem grow_at {wi : World} {Hi : List Ent} {gi : Gh} {get : Nat → Value} {n : Nat} {t : List (Nat × SV)} : (m : Nat) → {H : List Ent} → At B X w0 wi Hi gi ⟨n, t, H⟩ get w → At B X w0 wi Hi gi ⟨n, t, growN m H⟩ get w
  | 0, H, h => h
  | m + 1, H, ⟨g, hs, hev, ht⟩ => by
    obtain ⟨g', _, _, q1, q2, q3⟩ := grow1_at (st := ⟨n, t, H⟩) hs hev ht 0 (g.v 0)
    exact grow_at m (H := H ++ [.dead]) ⟨g', q1, q2, q3⟩
theorem growN_len : (m : Nat) → (H : List Ent) → (growN m H).length = H.length + m
  | 0, H => rfl
  | m + 1, H => by unfold growN; rw [growN_len]; simp; omega
theorem growSt_at {wi : World} {Hi : List Ent} {gi : Gh} {st : St} {get : Nat → Value} (n : Nat) (h : At B X w0 wi Hi gi st get w) : At B X w0 wi Hi gi (growSt n st) get w := grow_at _ h
theorem place_at {wi : World} {Hi : List Ent} {gi : Gh} {st : St} {get : Nat → Value} {n0 t k : Nat} (hn : Hi.length ≤ n0) (ht : n0 ≤ t) (h : At B X w0 wi Hi gi st get w) : At B X w0 wi Hi gi (placeSt n0 t k st) get w := by
  unfold placeSt
  cases Nat.beq k t with
  | true => exact h
  | false =>
    simp only [cond_false]
    cases hb : Nat.blt k n0 with
    | true =>
      simp only [cond_true]
      cases hb2 : Nat.blt k st.h.length with
      | false => exact h
      | true =>
        have hkl : k < (growSt t st).h.length := by
          have : k < st.h.length := Nat.le_of_ble_eq_true hb2
          show k < (growN _ _).length
          rw [growN_len]; omega
        have h2 := lift_at hkl (growSt_at t h)
        have hL : t ≤ (growSt t st).h.length := by
          show t ≤ (growN _ _).length
          rw [growN_len]; omega
        simp only [cond_true]
        cases hb3 : Nat.beq (growSt t st).h.length t with
        | true => exact h2
        | false => exact swap_at (by omega) (by omega) h2
    | false =>
      have hk : n0 ≤ k := by
        rcases Nat.lt_or_ge k n0 with q | q
        · rw [show Nat.blt k n0 = true from Nat.ble_eq_true_of_le q] at hb; cases hb
        · exact q
      exact swap_at (by omega) (by omega) (growSt_at _ h)
theorem placeL_at {wi : World} {Hi : List Ent} {gi : Gh} {get : Nat → Value} {n0 : Nat} (hn : Hi.length ≤ n0) : (l : List Src) → {st : St} → {t : Nat} → n0 ≤ t → At B X w0 wi Hi gi st get w → At B X w0 wi Hi gi (placeL n0 t l st) get w
  | [], st, t, _, h => h
  | s :: r, st, t, ht, h => by
    unfold placeL
    split
    · exact placeL_at hn r (by omega) (place_at hn ht h)
    · exact placeL_at hn r (by omega) h
theorem moveL_at {wi : World} {Hi : List Ent} {gi : Gh} {get : Nat → Value} {sw : Bool} {base : Nat} {hd : St} (hb : sw = true → Hi.length ≤ base) : (l : List Src) → {st : St} → At B X w0 wi Hi gi st get w → At B X w0 wi Hi gi (moveL sw base hd l st) get w
  | [], st, h => h
  | s :: r, st, h => by
    unfold moveL
    split
    · rename_i k j _ _
      cases hc : (sw && Nat.ble base j && Nat.ble base k && !(Nat.beq j k)) with
      | false => exact moveL_at hb r h
      | true =>
        simp only [Bool.and_eq_true] at hc
        have h1 := Nat.le_of_ble_eq_true hc.1.1.2
        have h2 := Nat.le_of_ble_eq_true hc.1.2
        have h0 := hb hc.1.1.1
        exact moveL_at hb r (swap_at (by omega) (by omega) h)
    · exact moveL_at hb r h
theorem liftL_at {wi : World} {Hi : List Ent} {gi : Gh} {get : Nat → Value} {sw : Bool} {base : Nat} : (l : List Src) → {st : St} → At B X w0 wi Hi gi st get w → At B X w0 wi Hi gi (liftL sw base l st) get w
  | [], st, h => h
  | s :: r, st, h => by
    unfold liftL
    split
    · rename_i k _
      cases hc : (sw && Nat.blt k base && Nat.blt k st.h.length) with
      | false => exact liftL_at r h
      | true =>
        simp only [Bool.and_eq_true] at hc
        have h1 : k < st.h.length := Nat.le_of_ble_eq_true hc.2
        exact liftL_at r (lift_at h1 h)
    · exact liftL_at r h
theorem swapSt_n (j k : Nat) (st : St) : (swapSt j k st).n = st.n := by unfold swapSt; split <;> rfl
theorem moveL_n {sw : Bool} {base : Nat} {hd : St} : (l : List Src) → (st : St) → (moveL sw base hd l st).n = st.n
  | [], _ => rfl
  | s :: r, st => by
    unfold moveL
    split
    · rename_i k j _ _
      cases (sw && Nat.ble base j && Nat.ble base k && !(Nat.beq j k)) with
      | false => exact moveL_n r st
      | true => exact (moveL_n r _).trans (swapSt_n _ _ _)
    · exact moveL_n r st
theorem liftL_n {sw : Bool} {base : Nat} : (l : List Src) → (st : St) → (liftL sw base l st).n = st.n
  | [], _ => rfl
  | s :: r, st => by
    unfold liftL
    split
    · rename_i k _
      cases (sw && Nat.blt k base && Nat.blt k st.h.length) with
      | false => exact liftL_n r st
      | true => exact (liftL_n r _).trans (swapSt_n _ _ _)
    · exact liftL_n r st
theorem moveL_sound {I : Ini} {st hd : St} {a : Act} {sw : Bool} {base : Nat} (hI : sw = true → I.Hi.length ≤ base) (l : List Src) (hh : Holds I st a w) : Holds I (moveL sw base hd l st) a w := by
  obtain ⟨h1, h2, h3, h4⟩ := hh
  exact ⟨h1, h2.trans (moveL_n l st).symm, (moveL_n l st).trans h3, moveL_at (get := fun d => a.tmps.getD d undef) hI l h4⟩
theorem liftL_sound {I : Ini} {st : St} {a : Act} {sw : Bool} {base : Nat} (l : List Src) (hh : Holds I st a w) : Holds I (liftL sw base l st) a w := by
  obtain ⟨h1, h2, h3, h4⟩ := hh
  exact ⟨h1, h2.trans (liftL_n l st).symm, (liftL_n l st).trans h3, liftL_at (get := fun d => a.tmps.getD d undef) l h4⟩
end
end Go.SX

/- SX, part LU: the executor over code is sound. -/
namespace Go.SX
open Go Go.RowKit
theorem wpIn_loop_ghost {F : Fence} {m : Nat} {P : Program} {Q : Exit → Act → World → Prop} {a : Act} {w : World} {c : Code} (I : Nat → Act → World → Prop) (n₀ : Nat) (h₀ : I n₀ a w)
    (round : ∀ n a w, I n a w → c.wpIn F m P (Exit.then (fun a' w' => ∃ n', n' < n ∧ I n' a' w') Q) a w) : (Code.loop c).wpIn F m P Q a w := by
  refine wpIn_loop (fun a w => ∃ n, I n a w) (fun a w => leastOf (fun n => I n a w)) ⟨n₀, h₀⟩ ?_
  intro a w hI
  refine wpIn_mono (round _ a w (leastOf_spec hI).1) ?_
  intro e a' w' hq
  cases e with
  | normal =>
    obtain ⟨n', hlt, hI'⟩ := hq
    exact show (∃ n, I n a' w') ∧ leastOf (fun n => I n a' w') < leastOf (fun n => I n a w) from ⟨⟨n', hI'⟩, Nat.lt_of_le_of_lt ((leastOf_spec ⟨n', hI'⟩).2 n' hI') hlt⟩
  | exit id => exact hq
  | goto l => exact hq
  | ret => exact hq
  | panic ch => exact hq
  | outgrown => exact hq
theorem Ini.Le.trans {I I1 I2 : Ini} (h : I.Le I1) (k : I1.Le I2) : I.Le I2 where
  n := k.n.trans h.n
  B := k.B.trans h.B
  X := k.X.trans h.X
  w0 := k.w0.trans h.w0
  ds := k.ds.trans h.ds
  evo := h.evo.trans k.evo
  nodup h1 h2 := k.nodup (h.nodup h1 h2) fun b hb => by
    rcases h.dl b hb with h3 | ⟨_, h3, _⟩
    · exact Nat.lt_of_lt_of_le (h2 b h3) h.evo.keeps.size
    · exact (Array.getElem?_eq_some_iff.1 h3).1
  dl b hb := by
    rcases k.dl b hb with h1 | ⟨h1, h2, h3⟩
    · rcases h.dl b h1 with h2 | ⟨h2, h3, h4⟩
      · exact .inl h2
      · obtain ⟨k1, k2⟩ := k.evo.keeps.block b (Array.getElem?_eq_some_iff.1 h3).1 h4
        exact .inr ⟨h2, k2.trans h3, k1⟩
    · exact .inr ⟨Nat.le_trans h.evo.keeps.size h1, h2, h3⟩
theorem QR.le {I I' : Ini} {r : Bool} {Q : Ex → St → Prop} (h : I.Le I') (hI : r = false → I' = I) {e : Exit} {a : Act} {w : World} (hq : QR I' r Q e a w) : QR I r Q e a w := by
  obtain ⟨x, st, I2, e1, q1, q2, q3, q4⟩ := hq
  exact ⟨x, st, I2, e1, q1, q2, h.trans q3, fun hr => (q4 hr).trans (hI hr)⟩
theorem QR.here {I : Ini} {r : Bool} {Q : Ex → St → Prop} {st : St} {a : Act} {w : World} (x : Ex) (hq : Q x st) (hh : Holds I st a w) : QR I r Q x.toExit a w := ⟨x, st, I, rfl, hq, hh, Ini.Le.refl I, fun _ => rfl⟩
theorem CtxOK.noR {P : Program} {C : Ctx} (h : CtxOK P C) : CtxOK P C.noR := ⟨h.tys, h.fns, h.keeps, h.mixed, h.may, fun h => by cases h⟩
theorem matCells_same : (l : List (Nat × Nat × TypeId × Ty)) → (st : St) → matCells l st = ⟨st.n, st.t, (matCells l st).h⟩
  | [], st => rfl
  | (i, o, e, t) :: r, st => by
    unfold matCells
    split
    · split
      · rename_i u _
        cases isNil u with
        | true => exact matCells_same r _
        | false => exact matCells_same r st
      · exact matCells_same r st
    · exact matCells_same r st
theorem fzR_sound {I : Ini} {n : Nat} {t : List (Nat × SV)} {a : Act} {w : World} : (l : List (Nat × Ty)) → {H : List Ent} → {K : List Ent → Prop} → fzR l H K → Holds I ⟨n, t, H⟩ a w → ∃ H', Holds I ⟨n, t, H'⟩ a w ∧ K H'
  | [], H, K, h, hh => ⟨H, hh, h⟩
  | (i, T) :: r, H, K, h, ⟨h1, h2, hn, g, hs, hev, ht⟩ => by
    unfold fzR at h
    split at h
    · rename_i ty cs hi
      obtain ⟨vs, q1, q2, q3, q4⟩ := hs.ents i _ hi
      obtain ⟨x, cs', rr, vr, H', e1, hs', hev', hget, _, _, hrep, hrest, h⟩ := dat_sound false (fun _ => True) T hs q2 h (fun h => by cases h)
      have hrep := hrep rfl
      split at h
      · have hvr : vr = [] := List.eq_nil_of_length_eq_zero hrest.1
        subst hvr
        rw [List.append_nil] at e1
        subst e1
        split at h
        · rename_i ty' cs2 hi'
          have hb : H'[i]? = some (.blk ty cs) := by
            rcases hget i with q | q
            · rw [q, hi]
            · rw [q] at hi'; cases hi'
          have hil : i < H'.length := (List.getElem?_eq_some_iff.1 hb).1
          have hok : Stable (H'.set i (.con ty T x)) g (g.b i) := by
            refine ⟨hs'.okB _ q4, ?_⟩
            rintro ⟨j, f, k1, k2⟩
            by_cases hj : j = i
            · subst hj
              rw [List.getElem?_set_self hil] at k1
              cases k1
              exact k2
            · rw [List.getElem?_set_ne (Ne.symm hj)] at k1
              exact hj (hs'.apart j i f _ _ k1 hb k2 rfl)
          obtain ⟨r1, r2⟩ := hs'.upd (w1 := w) (g1 := g) i (.blk ty cs) (.con ty T x) hb rfl (fun _ => rfl) (fun _ _ => rfl) rfl rfl rfl (Nat.le_refl _) (fun _ _ _ => rfl) (fun _ hb => hb.elim) (fun _ _ _ _ e => by cases e)
            (fun he => ⟨vs, q1, Ty.Rep.mono he.keeps T hrep, hok⟩)
          have hev2 := hev'.trans r2
          exact fzR_sound r h ⟨h1, h2, hn, g, r1, hev.trans hev2, fun d => (ht d).evo hev2⟩
        · exact h.elim
      · exact h.elim
    · exact h.elim
section
variable {P : Program}
theorem exec_sound : (c : Code) → {C : Ctx} → CtxOK P C → {ro : Option Nat} → {r : Bool} → C.rng = r → (r = true → ro = none) → {m : Nat} → {I : Ini} → {n : Nat} → {st : St} → {Q : Ex → St → Prop} → {a : Act} → {w : World} → (C.sw = true → r = false ∧ I.Hi.length ≤ C.base) →
    exec C c n st Q → Holds I st a w → c.wpIn (FR ro) m P (QR I r Q) a w
  | .skip, _, _, _, _, _, _, _, _, _, _, _, _, _, hsw, h, hh => wpIn_skip (QR.here .normal h hh)
  | .region _ ops draw, C, hC, ro, r, _, _, m, I, n, st, Q, a, w, hsw, h, hh => by
    unfold exec at h
    cases draw with
    | true =>
      simp only [cond_true] at h
      cases hnd : noDefer ops.toList with
      | false => rw [hnd] at h; exact h.elim
      | true =>
        rw [hnd] at h
        refine execDraw_sound hC ?_ ?_ (fun st a w hq hh => QR.here .normal hq hh) hnd h hh
        · rintro c a w ⟨x, st, I', e, _⟩; cases x <;> cases e
        · rintro ⟨a, w, x, st, I', e, _⟩; cases x <;> cases e
    | false => exact wpIn_region_list (execOpsY_sound hC (QR I r Q) ops.toList (fun st a w hq hh => QR.here .normal hq hh) h hh)
  | .seq x y, C, hC, ro, r, hr, hro, m, I, n, st, Q, a, w, hsw, h, hh => by
    unfold exec at h
    refine wpIn_seq (wpIn_mono (exec_sound x hC hr hro hsw h hh) ?_)
    rintro e a' w' ⟨ex, st', I', rfl, hq, hh', hle, hI⟩
    cases ex with
    | normal => exact wpIn_mono (exec_sound y hC hr hro (fun hs => ⟨(hsw hs).1, by rw [hI (hsw hs).1]; exact (hsw hs).2⟩) hq hh') fun e a w h => QR.le hle hI h
    | exit id => exact ⟨.exit id, st', I', rfl, hq, hh', hle, hI⟩
    | ret => exact ⟨.ret, st', I', rfl, hq, hh', hle, hI⟩
  | .cond c x y, C, hC, ro, r, hr, hro, m, I, n, st, Q, a, w, hsw, h, hh => by
    unfold exec at h
    obtain ⟨b, hv, hA, hB⟩ := condS_sound hh (fun g _ ht => ev_rep ht c) h
    refine wpIn_cond hv ?_
    cases b with
    | true => obtain ⟨st', k1, k2, _⟩ := hA rfl; exact exec_sound x hC hr hro hsw k1 k2
    | false => obtain ⟨st', k1, k2, _⟩ := hB rfl; exact exec_sound y hC hr hro hsw k1 k2
  | .block id c, C, hC, ro, r, hr, hro, m, I, n, st, Q, a, w, hsw, h, hh => by
    unfold exec at h
    refine wpIn_block (wpIn_mono (exec_sound c hC hr hro hsw h hh) ?_)
    rintro e a' w' ⟨ex, st', I', rfl, hq, hh', hle, hI⟩
    cases ex with
    | normal => exact ⟨.normal, st', I', rfl, hq, hh', hle, hI⟩
    | exit j =>
      show if j = id then QR I r Q .normal a' w' else QR I r Q (.exit j) a' w'
      cases hj : Nat.beq j id with
      | true =>
        rw [if_pos (Nat.eq_of_beq_eq_true hj)]
        simp only [hj, cond_true] at hq
        exact ⟨.normal, st', I', rfl, hq, hh', hle, hI⟩
      | false =>
        rw [if_neg (Nat.ne_of_beq_eq_false hj)]
        simp only [hj, cond_false] at hq
        exact ⟨.exit j, st', I', rfl, hq, hh', hle, hI⟩
    | ret => exact ⟨.ret, st', I', rfl, hq, hh', hle, hI⟩
  | .loop c, C, hC, ro, r, hr, hro, m, I, n, st, Q, a, w, hsw, h, hh => by
    unfold exec at h
    cases han : C.ann n with
    | none =>
      rw [han] at h
      simp only at h
      refine wpIn_loop_ghost (fun k a w => ∃ st, unrollK (fun st Q => exec C.noR c (n + 1) st Q) k st Q ∧ Holds I st a w) _ ⟨st, h, hh⟩ ?_
      rintro k a' w' ⟨st', hk, hh'⟩
      cases k with
      | zero => exact hk.elim
      | succ k =>
        unfold unrollK at hk
        refine wpIn_mono (exec_sound c hC.noR (ro := ro) (r := false) rfl (fun h => by cases h) (fun hs => ⟨rfl, (hsw hs).2⟩) hk hh') ?_
        rintro e a2 w2 ⟨ex, st2, I', rfl, hq, hh2, _, hI⟩
        obtain rfl := hI rfl
        cases ex with
        | normal => exact ⟨k, Nat.lt_succ_self k, st2, hq, hh2⟩
        | exit id => exact QR.here (.exit id) hq hh2
        | ret => exact QR.here .ret hq hh2
    | some f =>
      rw [han] at h
      simp only at h
      generalize f st = an at h
      obtain ⟨⟨x0, hx0, hle⟩, hround⟩ := h
      generalize hst : an.start C st = st1 at hle hround
      have hh1 : Holds I st1 a w := by rw [← hst]; exact liftL_sound _ (matCells_sound _ (matSlots_sound _ hh))
      have hlen : ∀ x, I.Hi.length ≤ (an.head st1 x).h.length := fun x => by
        rw [head_len]; obtain ⟨_, _, _, g, _, hev, _⟩ := hh1; exact hev.len
      have hver := fun x => head_ver (an := an) hh1 x
      refine wpIn_loop_ghost (fun k a w => ∃ x, an.ok x ∧ an.m x = k ∧ Holds I (an.head st1 x) a w) (an.m x0) ⟨x0, hx0, rfl, St.le_sound (st := st1) rfl hle (hlen x0) (hver x0) hh1⟩ ?_
      rintro k a' w' ⟨x, hx, rfl, hhx⟩
      refine wpIn_mono (exec_sound c hC.noR (ro := ro) (r := false) rfl (fun h => by cases h) (fun hs => ⟨rfl, (hsw hs).2⟩) (hround x hx) hhx) ?_
      rintro e a2 w2 ⟨ex, st2, I', rfl, hq, hh2, _, hI⟩
      obtain rfl := hI rfl
      cases ex with
      | normal =>
        obtain ⟨x', hx', hlt, hle'⟩ := hq
        exact ⟨an.m x', hlt, x', hx', rfl, St.le_sound ((moveL_n _ _).trans (hh2.n.trans hh1.n.symm)) hle' (hlen x') (hver x') (moveL_sound (fun hs => (hsw hs).2) _ hh2)⟩
      | exit id => exact QR.here (.exit id) hq hh2
      | ret => exact QR.here .ret hq hh2
  | .rangeFunc g ps assign body, C, hC, ro, r, hr, hro, m, I, n, st, Q, a, w, hsw, h, hh => by
    unfold exec at h
    cases r with
    | false => rw [hr] at h; exact h.elim
    | true =>
      rw [hr] at h
      simp only [cond_true] at h
      obtain rfl := hro rfl
      cases han : C.rann n with
      | none => rw [han] at h; exact h.elim
      | some f =>
        rw [han] at h
        simp only at h
        split at h
        · rename_i gf caps hg
          split at h
          · rename_i p hps
            have hps' : ps = #[p] := by apply Array.toList_inj.1; rw [hps]
            subst hps'
            have hh0 : Holds I ⟨st.n, st.t, (matCells (f st).preC st).h⟩ a w := by rw [← matCells_same]; exact matCells_sound _ hh
            obtain ⟨H, hh1, h⟩ := fzR_sound _ h hh0
            exact execR_sound (n := m) hC (hC.rng hr) hg (fun h hh => exec_sound assign hC.noR (r := false) rfl (fun h => by cases h) (fun hs => by cases (hsw hs).1) h hh) (fun h hh => exec_sound body hC.noR (r := false) rfl (fun h => by cases h) (fun hs => by cases (hsw hs).1) h hh) hh1 h
          · exact h.elim
        · exact h.elim
  | .exit id, _, _, _, _, _, _, _, _, _, _, _, _, _, hsw, h, hh => wpIn_exit (QR.here (.exit id) h hh)
  | .ret, _, _, _, _, _, _, _, _, _, _, _, _, _, hsw, h, hh => wpIn_ret (QR.here .ret h hh)
  | .label l, _, _, _, _, _, _, _, _, _, _, _, _, _, hsw, h, hh => wpIn_label (QR.here .normal h hh)
  | .goto _, _, _, _, _, _, _, _, _, _, _, _, _, _, hsw, h, _ => h.elim
  | .scope _, _, _, _, _, _, _, _, _, _, _, _, _, _, hsw, h, _ => h.elim
  | .refuse _, _, _, _, _, _, _, _, _, _, _, _, _, _, hsw, h, _ => h.elim
end
end Go.SX

/- SX, part M: functions: their bodies, and contracts over plain data. -/
namespace Go.SX
open Go Go.RowKit
def resS (C : Ctx) (st : St) : List ResultVar → (List SV → Prop) → Prop
  | [], K => K []
  | .tmp t :: r, K => resS C st r fun l => K (findT t st.t :: l)
  | .cell p ty :: r, K => match tyFind ty C.tys with
    | some ti => loadS ti.size ti.desc.isAgg (findT p st.t) st.h fun v => resS C st r fun l => K (v :: l)
    | none => False
def compOf : SV → Option (Bool × List SC)
  | .c x => bif x.one then some (false, [x]) else none
  | .agg l => some (true, l)
  | .tup _ => none
  | .dt .. => none
  | .obj .. => none
def compsOf : List SV → Option (List (Bool × List SC))
  | [] => some []
  | v :: r => match compOf v, compsOf r with
    | some c, some l => some (c :: l)
    | _, _ => none
def retS (C : Ctx) (rs : List ResultVar) (st : St) (K : SV → List Ent → Prop) : Prop :=
  resS C st rs fun l => match l with
    | [v] => K v st.h
    | l => match compsOf l with
      | some cs => K (.tup cs) st.h
      | none => False
def initT : Nat → List SV → List (Nat × SV)
  | _, [] => []
  | i, v :: r => (i, v) :: initT (i + 1) r
def runBodyM (C : Ctx) (fn : Func) (mt : List (Nat × Nat × TypeId × Ty)) (args : List SV) (H : List Ent) (K : SV → List Ent → Prop) : Prop :=
  match fn.body with
  | some c => bif Nat.ble args.length fn.ntmps && (!C.sw || (!C.rng && Nat.ble H.length C.base)) then exec C c 0 ⟨fn.ntmps, initT 0 args, H⟩ fun
      | .exit _, _ => False
      | _, st => bif C.rng then (noExt (matCells mt st).h = true ∧ retS C fn.results.toList (matCells mt st) K) else retS C fn.results.toList (matCells mt st) K
    else False
  | none => False
def runBody (C : Ctx) (fn : Func) (args : List SV) (H : List Ent) (K : SV → List Ent → Prop) : Prop := runBodyM C fn [] args H K
section
variable {P : Program} {I : Ini} {C : Ctx}
theorem findT_init : (args : List SV) → (k d : Nat) → findT d (initT k args) = if k ≤ d then (args[d - k]?).getD (.c .any) else .c .any
  | [], k, d => by simp [initT, findT]
  | v :: r, k, d => by
    unfold initT findT
    cases h : Nat.beq k d with
    | true =>
      have := Nat.eq_of_beq_eq_true h
      subst this
      simp
    | false =>
      have hne := Nat.ne_of_beq_eq_false h
      simp only [cond_false]
      rw [findT_init r (k + 1) d]
      by_cases hk : k ≤ d
      · rw [if_pos (by omega), if_pos hk, show d - k = (d - (k + 1)) + 1 by omega]
        simp
      · rw [if_neg (by omega), if_neg hk]
theorem res_sound (hC : CtxOK P C) {B : Nat} {X : Nat → Prop} {w0 w : World} {g : Gh} {st : St} {tmps : Array Value} (hs : Sat B X w0 st.h g w) (ht : ∀ d, (findT d st.t).Rep w st.h g (tmps.getD d undef)) :
    (rs : List ResultVar) → {K : List SV → Prop} → resS C st rs K → ∃ (vs : List Value) (l : List SV), (rs.mapM (m := Sem) fun
      | .tmp t => pure (tmps.getD t undef)
      | .cell a t => do loadVar t (← asAddr (tmps.getD a undef))).run P w = .ok vs w ∧ ArgsRep w st.h g l vs ∧ K l
  | [], K, h => ⟨[], [], rfl, ⟨rfl, fun j x v h1 _ => by simp at h1⟩, h⟩
  | .tmp t :: r, K, h => by
    obtain ⟨vs, l, h1, h2, h3⟩ := res_sound hC hs ht r h
    refine ⟨tmps.getD t undef :: vs, findT t st.t :: l, ?_, ⟨by simp [h2.1], fun j x v q1 q2 => ?_⟩, h3⟩
    · simp only [List.mapM_cons, Sem.run_bind, Sem.run_pure, Result.andThen_ok, h1]
    · cases j with
      | zero => simp only [List.getElem?_cons_zero, Option.some.injEq] at q1 q2; subst q1; subst q2; exact ht t
      | succ j => exact h2.2 j x v (by simpa using q1) (by simpa using q2)
  | .cell p ty :: r, K, h => by
    unfold resS at h
    cases hty : tyFind ty C.tys with
    | none => rw [hty] at h; exact h.elim
    | some ti =>
      rw [hty] at h
      obtain ⟨v, sv, r1, r2, h⟩ := load_sound (P := P) hs (hC.tys _ _ hty) (ht p) h
      replace r1 := r1 w (Later.refl w)
      obtain ⟨vs, l, h1, h2, h3⟩ := res_sound hC hs ht r h
      have hload : ((do loadVar ty (← asAddr (tmps.getD p undef)) : Sem Value)).run P w = .ok v w := by
        unfold Instr.loadAt at r1
        cases hv : tmps.getD p undef <;> rw [hv] at r1 <;> try (simp [Instr.sureAddr, stuck, Sem.run] at r1; done)
        rename_i a
        cases a with
        | none => simp [Instr.sureAddr, stuck, Sem.run] at r1
        | some a => simpa [Instr.sureAddr, asAddr] using r1
      refine ⟨v :: vs, sv :: l, ?_, ⟨by simp [h2.1], fun j x u q1 q2 => ?_⟩, h3⟩
      · simp only [List.mapM_cons, Sem.run_bind, Sem.run_pure]
        have hl2 := hload
        simp only [Sem.run_bind] at hl2
        rw [hl2]
        simp only [Result.andThen_ok]
        rw [h1]
        rfl
      · cases j with
        | zero => simp only [List.getElem?_cons_zero, Option.some.injEq] at q1 q2; subst q1; subst q2; exact r2
        | succ j => exact h2.2 j x u (by simpa using q1) (by simpa using q2)
theorem comps_sound {w : World} {H : List Ent} {g : Gh} : (l : List SV) → {vs : List Value} → {cs : List (Bool × List SC)} → compsOf l = some cs → ArgsRep w H g l vs →
    vs.length = cs.length ∧ ∀ (j : Nat) (p : Bool × List SC) (u : Value), cs[j]? = some p → vs[j]? = some u → CompRep w H g p u
  | [], vs, cs, h, hr => by
    simp [compsOf] at h; subst h
    exact ⟨hr.1, fun j p u h _ => by simp at h⟩
  | x :: r, vs, cs, h, hr => by
    match vs, hr with
    | [], hr => exact absurd hr.1 (by simp)
    | v :: vs, hr =>
      unfold compsOf at h
      cases hc : compOf x with
      | none => rw [hc] at h; simp at h
      | some c =>
        cases hq : compsOf r with
        | none => rw [hc, hq] at h; simp at h
        | some l =>
          rw [hc, hq] at h
          simp at h
          subst h
          have hrest : ArgsRep w H g r vs := ⟨by simpa using hr.1, fun j y u h1 h2 => hr.2 (j + 1) y u (by simpa using h1) (by simpa using h2)⟩
          obtain ⟨k1, k2⟩ := comps_sound r hq hrest
          have hx := hr.2 0 x v rfl rfl
          refine ⟨by simp [k1], fun j p u h1 h2 => ?_⟩
          cases j with
          | zero =>
            simp only [List.getElem?_cons_zero, Option.some.injEq] at h1 h2
            subst h1; subst h2
            match x, hc, hx with
            | .c y, hc, hx =>
              simp only [compOf] at hc
              cases ho : y.one with
              | false => rw [ho] at hc; simp at hc
              | true =>
                rw [ho] at hc
                simp at hc
                subst hc
                obtain ⟨q1, q2⟩ := SV.cells_rep (x := .c y) (l := [y]) (by simp [SV.cells, ho]) hx
                rw [cells_one (SC.rep_one ho hx)] at q1 q2
                exact ⟨[v], q1, q2, by simp⟩
            | .agg m, hc, hx =>
              simp only [compOf, Option.some.injEq] at hc
              subst hc
              obtain ⟨us, e, q1, q2⟩ := hx
              exact ⟨us, q1, q2, by simpa using e⟩
            | .tup _, hc, _ => cases hc
            | .dt _ _, hc, _ => cases hc
            | .obj _ _ _ _, hc, _ => cases hc
          | succ j => exact k2 j p u (by simpa using h1) (by simpa using h2)
theorem body_callsM (hC : CtxOK P C) {f : FuncId} {fn : Func} {mt : List (Nat × Nat × TypeId × Ty)} (hf : P.funcs[f]? = some fn) {B : Nat} {X : Nat → Prop} {w0 w : World} {H : List Ent} {g : Gh} {args : List SV} {vals : List Value} {K : SV → List Ent → Prop}
    (h : runBodyM C fn mt args H K) (hs : Sat B X w0 H g w) (ha : ArgsRep w H g args vals) : Calls P f vals.toArray w fun e w' => ∃ v, e = .returned v ∧ Post B X w0 K w H g v w' := by
  unfold runBodyM at h
  cases hb : fn.body with
  | none => rw [hb] at h; exact h.elim
  | some c =>
    rw [hb] at h
    simp only at h
    cases hn : (Nat.ble args.length fn.ntmps && (!C.sw || (!C.rng && Nat.ble H.length C.base))) with
    | false => rw [hn] at h; exact h.elim
    | true =>
      rw [hn] at h
      rw [Bool.and_eq_true] at hn
      have hle := Nat.le_of_ble_eq_true hn.1
      have hsw : C.sw = true → C.rng = false ∧ H.length ≤ C.base := fun hs => by
        have h2 := hn.2
        rw [hs] at h2
        simp only [Bool.not_true, Bool.false_or, Bool.and_eq_true, Bool.not_eq_true'] at h2
        exact ⟨h2.1, Nat.le_of_ble_eq_true h2.2⟩
      simp only [cond_true] at h
      have hvl : vals.length ≤ fn.ntmps := by rw [ha.1]; exact hle
      let I0 : Ini := ⟨fn.ntmps, B, X, w0, w, H, g, [], []⟩
      refine (callsIn_wide (n := 0)).1 (callsIn_of_wp_marks hf hb trivial (wpIn_mono (exec_sound (ro := none) (r := C.rng) (m := 0) (I := I0) c hC rfl (fun _ => rfl) hsw h ?_) ?_))
      · refine ⟨rfl, ?_, rfl, g, hs, Evo.refl _ _ _, fun d => ?_⟩
        · simp; omega
        · rw [findT_init args 0 d, if_pos (Nat.zero_le _), Nat.sub_zero]
          rcases Nat.lt_or_ge d args.length with hd | hd
          · rw [List.getElem?_eq_getElem hd]
            have hd' : d < vals.length := by rw [ha.1]; exact hd
            have : (vals.toArray ++ Array.replicate (fn.ntmps - vals.toArray.size) undef).getD d undef = vals[d] := by
              rw [Array.getD_eq_getD_getElem?, Array.getElem?_append_left (by simpa using hd')]
              simp [hd']
            rw [this]
            exact ha.2 d _ _ (List.getElem?_eq_getElem hd) (List.getElem?_eq_getElem hd')
          · rw [List.getElem?_eq_none hd]
            trivial
      · rintro e a w' ⟨ex, st, I', rfl, hq, hh, hle, hI⟩
        replace hh := matCells_sound mt hh
        generalize hsm : matCells mt st = sm at hh hq
        obtain ⟨h1, h2, _, g', hs', hev', ht'⟩ := hh
        have hBX : Sat B X w0 sm.h g' w' := by have := hs'; rw [hle.B, hle.X, hle.w0] at this; exact this
        have hevw : Evo w H g w' sm.h g' := hle.evo.trans hev'
        have leave : ∀ (dl : List Nat) (w' : World), dl.Nodup → (dl = [] ∨ noExt sm.h = true) → (∀ b ∈ dl, w'.heap[b]? = some (.deferred (some [])) ∧ ¬ Owned sm.h g' b ∧ B ≤ b ∧ w.heap.size ≤ b) → Sat B X w0 sm.h g' w' → Evo w H g w' sm.h g' → (∀ d, (findT d sm.t).Rep w' sm.h g' (a.tmps.getD d undef)) → retS C fn.results.toList sm K →
            LeavesInM Fence.wide 0 P fn a.tmps (fun e w' => ∃ v, e = .returned v ∧ Post B X w0 K w H g v w') (dl.map mark) .returning w' := by
          intro dl
          induction dl with
          | nil =>
            intro w' _ _ _ hs' hev' ht' hr
            obtain ⟨vs, l, r1, r2, r3⟩ := res_sound (P := P) hC hs' ht' fn.results.toList hr
            have hres : (results fn a.tmps).run P w' = .ok (if h : vs.length = 1 then vs[0] else .tuple vs.toArray) w' := by
              simp only [Array.getD_eq_getD_getElem?] at r1
              simp [results, Array.mapM_eq_mapM_toList]
              exact congrArg (fun r => Result.andThen r fun (a : List Value) w' => Result.ok (if h : a.length = 1 then a[0] else Value.tuple a.toArray) w') r1
            unfold retS at hr
            refine ⟨_, hres, _, rfl, ?_⟩
            match l, vs, r2, r3 with
            | [sv], [v], r2, r3 => exact ⟨sv, sm.h, g', r3, hs', hev', r2.2 0 sv v rfl rfl⟩
            | [], [], r2, r3 => exact ⟨.tup [], sm.h, g', r3, hs', hev', [], rfl, rfl, fun j p u h _ => by simp at h⟩
            | x :: y :: r, v :: u :: us, r2, r3 =>
              simp only at r3
              cases hc : compsOf (x :: y :: r) with
              | none => rw [hc] at r3; exact r3.elim
              | some cs =>
                rw [hc] at r3
                obtain ⟨k1, k2⟩ := comps_sound _ hc r2
                exact ⟨.tup cs, sm.h, g', r3, hs', hev', v :: u :: us, by simp, k1, k2⟩
            | [_], [], r2, _ => exact absurd r2.1 (by simp)
            | [_], _ :: _ :: _, r2, _ => exact absurd r2.1 (by simp)
            | [], _ :: _, r2, _ => exact absurd r2.1 (by simp)
            | _ :: _ :: _, [], r2, _ => exact absurd r2.1 (by simp)
            | _ :: _ :: _, [_], r2, _ => exact absurd r2.1 (by simp)
          | cons b dl ih =>
            intro w' hnd hx hb hs' hev' ht' hr
            have hx : noExt sm.h = true := hx.resolve_left (by simp)
            obtain ⟨hb1, hb2, hb3, hb4⟩ := hb b List.mem_cons_self
            have hq := quiet_put (o' := .deferred none) hb1 (fun _ _ _ h => by cases h)
            refine ⟨by simp, .inl ⟨b, _, rfl, run_takeDeferred hb1, ?_⟩⟩
            rw [List.nodup_cons] at hnd
            refine ih _ hnd.2 (.inr hx) (fun c hc => ?_) (hs'.quiet hq hb2 (.inl hb3) hx) ?_ (fun d => (ht' d).quiet' hq) hr
            · obtain ⟨c1, c2⟩ := hb c (List.mem_cons_of_mem _ hc)
              exact ⟨(hq.oth c fun e => hnd.1 (e ▸ hc)).trans c1, c2⟩
            · refine ⟨hev'.ok, ⟨by rw [hq.size]; exact hev'.keeps.size, fun c hc hst => ?_⟩, hev'.len, hev'.ptr, hev'.row⟩
              obtain ⟨k1, k2⟩ := hev'.keeps.block c hc hst
              exact ⟨k1, (hq.oth c (by omega)).trans k2⟩
        have key : (bif C.rng then (noExt sm.h = true ∧ retS C fn.results.toList sm K) else retS C fn.results.toList sm K) → LeavesInM Fence.wide 0 P fn a.tmps (fun e w' => ∃ v, e = .returned v ∧ Post B X w0 K w H g v w') a.defers .returning w' := by
          intro hr
          rw [h1, hle.ds, show I0.ds = [] from rfl, List.append_nil]
          cases hc : C.rng with
          | false =>
            rw [hc] at hr
            obtain rfl := hI hc
            exact leave [] w' List.nodup_nil (.inl rfl) (fun b hb => by simp at hb) hBX hevw ht' hr
          | true =>
            rw [hc] at hr
            refine leave I'.dl w' (hle.nodup List.nodup_nil fun b hb => by simp [I0] at hb) (.inr hr.1) (fun b hb => ?_) hBX hevw ht' hr.2
            rcases hle.dl b hb with h3 | ⟨h3, h4, h5⟩
            · simp [I0] at h3
            · obtain ⟨k1, k2⟩ := hev'.keeps.block b (Array.getElem?_eq_some_iff.1 h4).1 h5
              exact ⟨k2.trans h4, k1.2, Nat.le_trans hs.hB h3, h3⟩
        cases ex with
        | normal => exact key (by subst hsm; exact hq)
        | exit id => exact hq.elim
        | ret => exact key (by subst hsm; exact hq)
theorem body_calls (hC : CtxOK P C) {f : FuncId} {fn : Func} (hf : P.funcs[f]? = some fn) {B : Nat} {X : Nat → Prop} {w0 w : World} {H : List Ent} {g : Gh} {args : List SV} {vals : List Value} {K : SV → List Ent → Prop}
    (h : runBody C fn args H K) (hs : Sat B X w0 H g w) (ha : ArgsRep w H g args vals) : Calls P f vals.toArray w fun e w' => ∃ v, e = .returned v ∧ Post B X w0 K w H g v w' := body_callsM (mt := []) hC hf h hs ha
end
end Go.SX

/- SX, part MD: a function that defers a call at its beginning. -/
namespace Go.SX
open Go Go.RowKit
abbrev DSpec := List SV → List Ent → (List Ent → Prop) → Prop
def DSpecOK (P : Program) (f : FuncId) (s : DSpec) : Prop :=
  (∃ fn, P.funcs[f]? = some fn ∧ (fn.name == "runtime.NumGoroutine") = false ∧ fn.body.isNone = false) ∧
  ∀ B X w0 H g w args vals K, s args H K → Sat B X w0 H g w → ArgsRep w H g args vals →
    CallsDIn Fence.wide 0 P f vals.toArray .returning w fun e u' w' => ∃ v, e = .returned v ∧ u' = .returning ∧ ∃ H' g', K H' ∧ Sat B X w0 H' g' w' ∧ Evo w H g w' H' g'
def execOpsD (C : Ctx) (all : Array Oper) : List Oper → St → (St → FuncId → List Nat → Prop) → Prop
  | [], _, _ => False
  | o :: r, st, Q => match o.guard with
    | none => match o.op with
      | .defer c => (match r, c.callee, c.args.toList with
        | [], .value f, [] => (match st.ev f with
          | .c (.fn f caps) => Q (st.put o.dst (.c (.raw undef)) st.h) f caps
          | _ => False)
        | _, _, _ => False)
      | _ => runOp C o st fun st => execOpsD C all r st Q
    | some _ => False
def runBodyD (C : Ctx) (fn : Func) (s : FuncId → Option DSpec) (mt : List (Nat × Nat × TypeId × Ty)) (args : List SV) (H : List Ent) (K : SV → List Ent → Prop) : Prop :=
  match fn.body with
  | some (.seq r1 (.seq (.region _ o2 d2) c)) => bif Nat.ble args.length fn.ntmps && !C.rng && !C.sw && !d2 then
      exec C r1 0 ⟨fn.ntmps, initT 0 args, H⟩ fun
        | .normal, st => execOpsD C o2 o2.toList st fun st f caps => (match s f with
          | none => False
          | some s => exec C c (Code.nloops r1) st fun
            | .exit _, _ => False
            | _, st => s (caps.map fun i => .c (.ptr i 0)) (matCells mt st).h fun H' => retS C fn.results.toList ⟨(matCells mt st).n, (matCells mt st).t, H'⟩ K)
        | _, _ => False
    else False
  | _ => False
section
variable {P : Program} {I : Ini} {C : Ctx}
def Ini.later (I : Ini) (w : World) (st : St) (g : Gh) (d : Deferred) : Ini := ⟨I.n, I.B, I.X, I.w0, w, st.h, g, I.dl, d :: I.ds⟩
theorem execOpsD_sound (hC : CtxOK P C) {all : Array Oper} (Q : Exit → Act → World → Prop) (hdl : I.dl = []) : (l : List Oper) → {st : St} → {R : St → FuncId → List Nat → Prop} → {a : Act} → {w : World} →
    (∀ st a w f caps g d, R st f caps → d.target = .fn (.func f) (caps.map fun i => Value.pointer (some ⟨g.b i, 0, none⟩)).toArray → d.args = #[] → (∀ i ∈ caps, i < st.h.length) → Evo I.wi I.Hi I.gi w st.h g → Holds (I.later w st g d) st a w → Q .normal a w) →
    execOpsD C all l st R → Holds I st a w → wpListIn Fence.wide 0 P all Q l a w
  | [], _, _, _, _, _, h, _ => h.elim
  | o :: r, st, R, a, w, hQ, h, hh => by
    unfold execOpsD at h
    cases hg : o.guard with
    | some p => rw [hg] at h; exact h.elim
    | none =>
      rw [hg] at h
      simp only at h
      have plain : execOps C all [o] st (fun st => execOpsD C all r st R) → wpListIn Fence.wide 0 P all Q (o :: r) a w := by
        intro h
        refine wpListIn_step fun K hK => ?_
        rcases guard_sound hC h hh with ⟨st', k1, k2, k3⟩ | ⟨st', k1, k2, k3⟩
        · rw [if_pos k2]
          obtain ⟨h1, h2, hn, g, hs, hev, ht⟩ := k1
          refine (opStep_sound hC hs (ev_rep ht) k3).inR none 0 K Q ?_
          rintro v w' ⟨sv, H', g', q1, q2, q3, q4⟩
          exact hK _ _ (execOpsD_sound hC Q hdl r hQ q1 (Holds.put h1 h2 hn hev ht q2 q3 (SV.con_rep q4) o.dst))
        · rw [if_neg (by rw [k2]; simp)]
          exact ⟨fun f _ => trivial, hK _ _ (execOpsD_sound hC Q hdl r hQ k3 k1)⟩
      split at h
      · rename_i c hop
        split at h
        · rename_i f hcal hargs
          split at h
          · rename_i f' caps hev
            refine wpListIn_plain hg fun K hK => ?_
            obtain ⟨h1, h2, hn, g, hs, hev0, ht⟩ := hh
            have hf := ev_rep ht f
            rw [hev] at hf
            obtain ⟨hf1, hf2⟩ := hf
            let d : Deferred := { target := .fn (.func f') (caps.map fun i => Value.pointer (some ⟨g.b i, 0, none⟩)).toArray, args := #[] }
            have hargs' : c.args = #[] := Array.toList_eq_nil_iff.1 hargs
            have hd : (o.semAt Fence.wide.round a.eval).run P w = .ok (.defer d) w := by
              show (o.semAt none a.eval).run P w = _
              simp only [Oper.semAt, hop, execOp, resolve, hcal, hf1, hargs', Deferred.ofValue, Sem.run_bind, Sem.run_pure, Result.andThen_ok]
              simp [d, Deferred.ofValue]
            refine ⟨fun _ _ => trivial, ?_⟩
            rw [hd, Oper.uponIn_defer]
            refine hK _ _ (wpListIn_nil (hQ (st.put o.dst (.c (.raw undef)) st.h) _ w f' caps g d h rfl rfl ?_ ?_ ?_))
            · cases o.dst with
              | none => exact hf2
              | some t => simp only [St.put]; cases Nat.blt t st.n <;> exact hf2
            · cases o.dst with
              | none => exact hev0
              | some t => simp only [St.put]; cases Nat.blt t st.n <;> exact hev0
            · have hh2 : Holds (I.later w st g d) (st.put o.dst (.c (.raw undef)) st.h) ({ a with defers := d :: a.defers }.put o.dst undef) w :=
                Holds.put (I := I.later w st g d) (a := { a with defers := d :: a.defers }) (by show d :: a.defers = I.dl.map mark ++ (d :: I.ds); rw [h1, hdl]; rfl) h2 hn (Evo.refl _ _ _) ht hs (Evo.refl _ _ _) (sv := .c (.raw undef)) rfl o.dst
              have e : (st.put o.dst (.c (.raw undef)) st.h).h = st.h := by
                cases o.dst with
                | none => rfl
                | some t => simp only [St.put]; cases Nat.blt t st.n <;> rfl
              unfold Ini.later at hh2 ⊢
              rw [e]
              exact hh2
          · exact h.elim
        · exact h.elim
      · exact plain (by unfold execOps; rw [hg]; exact h)
theorem body_callsD (hC : CtxOK P C) {f : FuncId} {fn : Func} (hf : P.funcs[f]? = some fn) {s : FuncId → Option DSpec} (hD : ∀ f s', s f = some s' → DSpecOK P f s') {B : Nat} {X : Nat → Prop} {w0 w : World} {H : List Ent} {g : Gh} {args : List SV} {vals : List Value} {K : SV → List Ent → Prop}
    {mt : List (Nat × Nat × TypeId × Ty)} (h : runBodyD C fn s mt args H K) (hs : Sat B X w0 H g w) (ha : ArgsRep w H g args vals) : Calls P f vals.toArray w fun e w' => ∃ v, e = .returned v ∧ Post B X w0 K w H g v w' := by
  unfold runBodyD at h
  split at h
  · rename_i r1 i2 o2 d2 c hb
    cases hn : (Nat.ble args.length fn.ntmps && !C.rng && !C.sw && !d2) with
    | false => rw [hn] at h; exact h.elim
    | true =>
      rw [hn] at h
      simp only [cond_true] at h
      simp only [Bool.and_eq_true, Bool.not_eq_true'] at hn
      obtain ⟨⟨⟨hle, hrng⟩, hsw⟩, hd2⟩ := hn
      subst hd2
      have hle := Nat.le_of_ble_eq_true hle
      have hvl : vals.length ≤ fn.ntmps := by rw [ha.1]; exact hle
      let I0 : Ini := ⟨fn.ntmps, B, X, w0, w, H, g, [], []⟩
      have hh0 : Holds I0 ⟨fn.ntmps, initT 0 args, H⟩ { tmps := vals.toArray ++ Array.replicate (fn.ntmps - vals.toArray.size) undef, defers := [] } w := by
        refine ⟨rfl, ?_, rfl, g, hs, Evo.refl _ _ _, fun d => ?_⟩
        · simp; omega
        · rw [findT_init args 0 d, if_pos (Nat.zero_le _), Nat.sub_zero]
          rcases Nat.lt_or_ge d args.length with hd | hd
          · rw [List.getElem?_eq_getElem hd]
            have hd' : d < vals.length := by rw [ha.1]; exact hd
            have : (vals.toArray ++ Array.replicate (fn.ntmps - vals.toArray.size) undef).getD d undef = vals[d] := by
              rw [Array.getD_eq_getD_getElem?, Array.getElem?_append_left (by simpa using hd')]
              simp [hd']
            rw [this]
            exact ha.2 d _ _ (List.getElem?_eq_getElem hd) (List.getElem?_eq_getElem hd')
          · rw [List.getElem?_eq_none hd]
            trivial
      refine (callsIn_wide (n := 0)).1 (callsIn_of_wp_marks hf hb trivial ?_)
      refine wpIn_seq (wpIn_mono (exec_sound (ro := none) (r := false) (m := 0) (I := I0) r1 hC hrng (fun h => by cases h) (fun h => by rw [hsw] at h; cases h) h hh0) ?_)
      rintro e a1 w1 ⟨ex1, st1, I1, rfl, h1, hh1, _, hI1⟩
      have hI1 := hI1 rfl
      subst hI1
      cases ex1 with
      | exit id => exact h1.elim
      | ret => exact h1.elim
      | normal =>
      refine wpIn_seq (wpIn_mono (wpIn_region_list (execOpsD_sound (I := I0) hC (fun e a wq => e = .normal ∧ c.wpIn Fence.wide 0 P (bodyPostM Fence.wide 0 P fn fun e w' => ∃ v, e = .returned v ∧ Post B X w0 K w H g v w') a wq) rfl o2.toList ?_ h1 hh1)) ?_)
      · rintro st a w2 f' caps g2 d hR hd1 hd2 hcap hev2 hh2
        refine ⟨rfl, ?_⟩
        cases hsf : s f' with
        | none => rw [hsf] at hR; exact hR.elim
        | some s' =>
          rw [hsf] at hR
          obtain ⟨⟨fn', p1, p2, p3⟩, hsp⟩ := hD f' s' hsf
          refine wpIn_mono (exec_sound (ro := none) (r := false) (m := 0) (I := I0.later w2 st g2 d) c hC hrng (fun h => by cases h) (fun h => by rw [hsw] at h; cases h) hR hh2) ?_
          rintro e a3 w3 ⟨ex, st3, I3, rfl, hq, hh3, hle3, hI3⟩
          have hI := hI3 rfl
          subst hI
          replace hh3 := matCells_sound mt hh3
          generalize hsm : matCells mt st3 = sm at hh3 hq
          obtain ⟨k1, k2, _, g3, hs3, hev3, ht3⟩ := hh3
          have hs3' : Sat B X w0 sm.h g3 w3 := hs3
          have hev3' : Evo w2 st.h g2 w3 sm.h g3 := hev3
          have hdef : a3.defers = [d] := k1
          have key : (s' (caps.map fun i => .c (.ptr i 0)) sm.h fun H' => retS C fn.results.toList ⟨sm.n, sm.t, H'⟩ K) → LeavesInM Fence.wide 0 P fn a3.tmps (fun e w' => ∃ v, e = .returned v ∧ Post B X w0 K w H g v w') a3.defers .returning w3 := by
            intro hq
            rw [hdef]
            have hargs : ArgsRep w3 sm.h g3 (caps.map fun i => SV.c (.ptr i 0)) (caps.map fun i => Value.pointer (some ⟨g2.b i, 0, none⟩)) := by
              refine ⟨by simp, fun j x v q1 q2 => ?_⟩
              rw [List.getElem?_map] at q1 q2
              cases hj : caps[j]? with
              | none => rw [hj] at q1; cases q1
              | some i =>
                rw [hj] at q1 q2
                simp only [Option.map_some, Option.some.injEq] at q1 q2
                subst q1; subst q2
                have hi := hcap i (List.mem_of_getElem? hj)
                exact ⟨Nat.lt_of_lt_of_le hi hev3'.len, by rw [hev3'.ptr i hi]⟩
            refine ⟨by simp, .inr ⟨(fun h => by cases h), .func f', (caps.map fun i => Value.pointer (some ⟨g2.b i, 0, none⟩)).toArray, f', (caps.map fun i => Value.pointer (some ⟨g2.b i, 0, none⟩)).toArray, hd1, ?_, fun _ _ => trivial, ?_⟩⟩
            · rw [hd1, hd2]
              simp only [invoke, run_callFunc p1 p2 p3]
              simp
            · refine (hsp B X w0 sm.h g3 w3 _ _ _ hq hs3' hargs).mono ?_
              rintro e u' w4 ⟨v, rfl, rfl, H4, g4, hr, hs4, hev4⟩
              show LeavesInM Fence.wide 0 P fn a3.tmps _ [] .returning w4
              have ht4 : ∀ d, (findT d sm.t).Rep w4 H4 g4 (a3.tmps.getD d undef) := fun d => (ht3 d).evo hev4
              have hevw : Evo w H g w4 H4 g4 := (hev2.trans hev3').trans hev4
              obtain ⟨vs, l, r1, r2, r3⟩ := res_sound (P := P) (st := ⟨sm.n, sm.t, H4⟩) hC hs4 ht4 fn.results.toList hr
              have hres : (results fn a3.tmps).run P w4 = .ok (if h : vs.length = 1 then vs[0] else .tuple vs.toArray) w4 := by
                simp only [Array.getD_eq_getD_getElem?] at r1
                simp [results, Array.mapM_eq_mapM_toList]
                exact congrArg (fun r => Result.andThen r fun (a : List Value) w' => Result.ok (if h : a.length = 1 then a[0] else Value.tuple a.toArray) w') r1
              refine ⟨_, hres, _, rfl, ?_⟩
              match l, vs, r2, r3 with
              | [sv], [v], r2, r3 => exact ⟨sv, H4, g4, r3, hs4, hevw, r2.2 0 sv v rfl rfl⟩
              | [], [], r2, r3 => exact ⟨.tup [], H4, g4, r3, hs4, hevw, [], rfl, rfl, fun j p u h _ => by simp at h⟩
              | x :: y :: r, v :: u :: us, r2, r3 =>
                simp only at r3
                cases hc : compsOf (x :: y :: r) with
                | none => rw [hc] at r3; exact r3.elim
                | some cs =>
                  rw [hc] at r3
                  obtain ⟨k1, k2⟩ := comps_sound _ hc r2
                  exact ⟨.tup cs, H4, g4, r3, hs4, hevw, v :: u :: us, by simp, k1, k2⟩
              | [_], [], r2, _ => exact absurd r2.1 (by simp)
              | [_], _ :: _ :: _, r2, _ => exact absurd r2.1 (by simp)
              | [], _ :: _, r2, _ => exact absurd r2.1 (by simp)
              | _ :: _ :: _, [], r2, _ => exact absurd r2.1 (by simp)
              | _ :: _ :: _, [_], r2, _ => exact absurd r2.1 (by simp)
          cases ex with
          | normal => exact key (by subst hsm; exact hq)
          | exit id => exact hq.elim
          | ret => exact key (by subst hsm; exact hq)
      · rintro e a w2 ⟨rfl, h2⟩
        exact h2
  · exact h.elim
end
end Go.SX
