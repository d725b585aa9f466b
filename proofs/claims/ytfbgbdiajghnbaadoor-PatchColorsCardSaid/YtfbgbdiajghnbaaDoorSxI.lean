/- SX, part I: every operation is sound. -/
import Derived.Test.YtfbgbdiajghnbaaDoorSxH
import Derived.Laws.StructEq
namespace Go.SX
open Go Go.RowKit

section
variable {P : Program} {B : Nat} {X : Nat → Prop} {w0 w : World} {H : List Ent} {g : Gh} {t : TypeId} {ti : TI} {C : Ctx}

/-! ### Cutting -/

def OptRep (w : World) (H : List Ent) (g : Gh) : Option SV → Option Value → Prop
  | none, none => True
  | some s, some v => s.Rep w H g v
  | _, _ => False

theorem bound_sound {d : Nat} {o : Option SV} {ov : Option Value} (hr : OptRep w H g o ov) {K : Int → Prop} (h : boundS d o K) :
    ∃ n, K n ∧ ((ov = none ∧ n = d) ∨ ∃ k, ov = some (.int k n)) := by
  match o, ov, hr, h with
  | none, none, _, h => exact ⟨d, h, .inl ⟨rfl, rfl⟩⟩
  | some (.c (.int k n)), some v, hr, h =>
    have e : v = .int k n := hr
    exact ⟨n, h, .inr ⟨k, by rw [e]⟩⟩

theorem run_bounds (isSlice : Bool) {len cap : Nat} (hlc : len ≤ cap) {lo hi : Option Value} {l h : Int} (hl : (lo = none ∧ l = (0 : Nat)) ∨ ∃ k, lo = some (.int k l)) (hh : (hi = none ∧ h = len) ∨ ∃ k, hi = some (.int k h))
    (h0 : 0 ≤ l) (h1 : l ≤ h) (h2 : h ≤ len) : (Instr.sliceBounds isSlice len cap lo hi none).run P w = .ok (l.toNat, h.toNat, cap) w := by
  have hc : h ≤ cap := by omega
  have hh0 : 0 ≤ h := by omega
  rcases hl with ⟨rfl, rfl⟩ | ⟨k, rfl⟩ <;> rcases hh with ⟨rfl, rfl⟩ | ⟨k', rfl⟩
  · simp [Instr.sliceBounds]
  · simp only [Instr.sliceBounds, Sem.run_bind, Sem.run_pure, Result.andThen_ok, run_sliceBound _ _ _ _ _ hh0 hc]; rfl
  · simp only [Instr.sliceBounds, Sem.run_bind, Sem.run_pure, Result.andThen_ok]
    rw [run_sliceBound _ _ _ _ _ h0 (by omega)]; rfl
  · simp only [Instr.sliceBounds, Sem.run_bind, Sem.run_pure, Result.andThen_ok, run_sliceBound _ _ _ _ _ hh0 hc]
    rw [run_sliceBound _ _ _ _ _ h0 (by omega)]; rfl

theorem run_bounds3 {len cap : Nat} (hlc : len ≤ cap) {lo hi : Option Value} {l h : Int} (hl : (lo = none ∧ l = (0 : Nat)) ∨ ∃ k, lo = some (.int k l)) {k' km : IntKind} (hh : hi = some (.int k' h))
    (h0 : 0 ≤ l) (h1 : l ≤ h) (h2 : h ≤ len) : (Instr.sliceBounds true len cap lo hi (some (.int km h))).run P w = .ok (l.toNat, h.toNat, h.toNat) w := by
  have hc : h ≤ cap := by omega
  have hh0 : 0 ≤ h := by omega
  subst hh
  rcases hl with ⟨rfl, rfl⟩ | ⟨k, rfl⟩
  · simp only [Instr.sliceBounds, Sem.run_bind, Sem.run_pure, Result.andThen_ok, if_true, run_sliceBound _ _ _ _ _ hh0 hc]
    rw [run_sliceBound _ _ _ _ _ hh0 (by omega)]; rfl
  · simp only [Instr.sliceBounds, Sem.run_bind, Sem.run_pure, Result.andThen_ok, if_true, run_sliceBound _ _ _ _ _ hh0 hc]
    rw [run_sliceBound _ _ _ _ _ hh0 (by omega)]
    simp only [Result.andThen_ok, Option.isSome_some, if_true]
    rw [run_sliceBound _ _ _ _ _ h0 (by omega)]; rfl

theorem ro_cut {T : Ty} {ok : Nat → Prop} {A : Option Addr} {cap : Nat} {xs : List T.den} (h : RoAt w ok (T.Rep w ok) T.size A cap xs) {l hi m : Nat} (h1 : l ≤ hi) (h2 : hi ≤ xs.length) (h3 : hi ≤ m) (h4 : m ≤ cap) :
    T.Rep w ok |> fun R => RoAt w ok R T.size (if m = l then A else A.map (·.add (l * T.size))) (m - l) ((xs.take hi).drop l) := by
  refine ⟨by simp; omega, fun hne => ?_⟩
  have hlt : l < hi := by
    rcases Nat.lt_or_ge l hi with h | h
    · exact h
    · exfalso; apply hne; apply List.drop_eq_nil_of_le; simp; omega
  have hx : xs ≠ [] := by intro e; subst e; simp at h2; omega
  obtain ⟨ad, r1, r2, r3, r4⟩ := h.2 hx
  subst r1
  rw [if_neg (by omega)]
  refine ⟨ad.add (l * T.size), rfl, by rw [block_add]; exact r2, by rw [block_add]; exact r3, ?_⟩
  intro i x hi'
  rw [List.getElem?_drop, List.getElem?_take] at hi'
  split at hi'
  · obtain ⟨c, c1, c2, c3⟩ := r4 _ x hi'
    refine ⟨c, c1, c2, fun j u hu => ?_⟩
    show w.cell? ((ad.add (l * T.size)).add (i * T.size + j)) = some u
    rw [add_add, ← Nat.add_assoc, ← Nat.add_mul]
    exact c3 j u hu
  · cases hi'

theorem cut_sound {ei : TI} {e : TypeId} (hei : TIok P e ei) (hu : P.underlying t = some (.slice e)) {T : Ty} {xs : List T.den} {A : Option Addr} {cap : Nat}
    (hro : RoAt w (Stable H g) (T.Rep w (Stable H g)) T.size A cap xs) {lo hi : Option Value} {l h : Int} (hl : (lo = none ∧ l = (0 : Nat)) ∨ ∃ k, lo = some (.int k l)) (hh : (hi = none ∧ h = xs.length) ∨ ∃ k, hi = some (.int k h))
    (h0 : 0 ≤ l ∧ l ≤ h ∧ h ≤ xs.length) {mx : Option Value} (hm : mx = none ∨ ∃ k k', mx = some (.int k h) ∧ hi = some (.int k' h)) (hsz : T.size = ei.size) :
    ∃ v, (∀ w' : World, (Instr.sliceAt t (.slice A xs.length cap) lo hi mx).run P w' = .ok v w') ∧ SC.Rep w H g (.ro T ((xs.take h.toNat).drop l.toNat)) v := by
  obtain ⟨q0, q1, q2⟩ := h0
  have hlen : ((xs.take h.toNat).drop l.toNat).length = h.toNat - l.toNat := by simp; omega
  have hcap := hro.1
  rcases hm with rfl | ⟨k, k', rfl, rfl⟩
  · refine ⟨.slice (if cap = l.toNat then A else A.map (·.add (l.toNat * T.size))) (h.toNat - l.toNat) (cap - l.toNat), ?_, ?_⟩
    · intro w'; simp only [Instr.sliceAt, Sem.run_bind, run_underlying hu, Result.andThen_ok, Instr.slice, run_bounds (P := P) (w := w') true hcap hl hh q0 q1 q2, hei.sizeOf, Sem.run_pure, hsz]
    · exact ⟨_, _, by rw [hlen], ro_cut hro (by omega) (by omega) (by omega) (Nat.le_refl _)⟩
  · refine ⟨.slice (if h.toNat = l.toNat then A else A.map (·.add (l.toNat * T.size))) (h.toNat - l.toNat) (h.toNat - l.toNat), ?_, ?_⟩
    · intro w'; simp only [Instr.sliceAt, Sem.run_bind, run_underlying hu, Result.andThen_ok, Instr.slice, run_bounds3 (P := P) (w := w') (km := k) hcap hl rfl q0 q1 q2, hei.sizeOf, Sem.run_pure, hsz]
    · exact ⟨_, _, by rw [hlen], ro_cut hro (by omega) (by omega) (Nat.le_refl _) (by omega)⟩

theorem cut_str_sound (hu : P.underlying t = some .string) {s : ByteArray} {lo hi : Option Value} {l h : Int} (hl : (lo = none ∧ l = (0 : Nat)) ∨ ∃ k, lo = some (.int k l)) (hh : (hi = none ∧ h = s.size) ∨ ∃ k, hi = some (.int k h))
    (h0 : 0 ≤ l ∧ l ≤ h ∧ h ≤ s.size) : (Instr.sliceAt t (.string s) lo hi none).run P w = .ok (.string (s.extract l.toNat h.toNat)) w := by
  obtain ⟨q0, q1, q2⟩ := h0
  simp [Instr.sliceAt, run_underlying hu, Instr.slice, run_bounds (P := P) (w := w) false (Nat.le_refl s.size) hl hh q0 q1 q2]

/-! ### Comparisons of structs and of Bools -/

theorem eqFs_sound {C : Ctx} (hC : ∀ t ti, tyFind t C.tys = some ti → TIok P t ti) {xs ys : Array Value} (dd : Nat) : (fs : List (Nat × TypeId)) → {i : Nat} → {l m : List SC} → {fl : List Field} →
    fl.map (fun f => (f.offset, f.type)) = fs → (∀ f ∈ fl, f.name ≠ "_") → (∀ (j : Nat) (c : SC), l[j]? = some c → ∃ v, xs[i + j]? = some v ∧ c.Rep w H g v) →
    (∀ (j : Nat) (c : SC), m[j]? = some c → ∃ v, ys[i + j]? = some v ∧ c.Rep w H g v) → {K : (p : Prop) → Decidable p → Prop} → eqFs C fs i l m K →
    ∃ p d, (∀ w' : World, (Op.eqFields (dd + 1) xs ys fl).run P w' = .ok (@decide p d) w') ∧ K p d
  | [], i, l, m, fl, _, _, _, _, K, h => by simp [eqFs] at h
  | (off, ft) :: fs, i, l, m, fl, hfl, hn, hl, hm, K, h => by
    match fl, hfl with
    | f :: fl, hfl =>
    simp only [List.map_cons, List.cons.injEq, Prod.mk.injEq] at hfl
    obtain ⟨⟨e1, e2⟩, e3⟩ := hfl
    unfold eqFs at h
    split at h
    · rename_i i K _ _ _ _ _ off' ft' fs' k a l' k' b m' heq
      simp only [List.cons.injEq, Prod.mk.injEq] at heq
      obtain ⟨⟨r1, r2⟩, r3⟩ := heq
      subst r1; subst r2; subst r3
      cases ht : tyFind ft C.tys with
      | none => rw [ht] at h; exact h.elim
      | some ti =>
        rw [ht] at h
        simp only at h
        have hti := hC _ _ ht
        have hd := hti.desc
        cases hx : ti.desc <;> rw [hx] at h hd <;> simp only at h <;> try exact h.elim
        rename_i kk
        cases hb : (Nat.beq off i && decide (k' = k)) with
        | false => rw [hb] at h; exact h.elim
        | true =>
          rw [hb] at h
          simp only [cond_true] at h
          rw [Bool.and_eq_true] at hb
          have hoi := Nat.eq_of_beq_eq_true hb.1
          have hkk := of_decide_eq_true hb.2
          subst hoi
          subst hkk
          have hu : P.underlying f.type = some (.int kk) := by rw [e2]; exact hd
          obtain ⟨va, a1, a2⟩ := hl 0 _ rfl
          obtain ⟨vb, b1, b2⟩ := hm 0 _ rfl
          have ea : va = .int k' a := a2
          have eb : vb = .int k' b := b2
          subst ea; subst eb
          rw [Nat.add_zero] at a1 b1
          have hagg : ∀ w' : World, (isAgg f.type).run P w' = .ok false w' := fun w' => by simp [isAgg, run_underlying hu]
          have pa : ∀ w' : World, (part f.type xs f.offset).run P w' = .ok (.int k' a) w' := fun w' => by
            unfold part
            simp only [Sem.run_bind, hagg, Result.andThen_ok, e1, a1]
            simp
          have pb : ∀ w' : World, (part f.type ys f.offset).run P w' = .ok (.int k' b) w' := fun w' => by
            unfold part
            simp only [Sem.run_bind, hagg, Result.andThen_ok, e1, b1]
            simp
          have hnm : f.name ≠ "_" := hn f List.mem_cons_self
          have he : ∀ w' : World, (Op.equalIn (dd + 1) f.type (.int k' a) (.int k' b)).run P w' = .ok (a == b) w' := fun w' => run_equalIn_int w' dd f.type k' kk a b hu
          split at h
          · have hnil : fl = [] := by cases fl with | nil => rfl | cons _ _ => simp at e3
            subst hnil
            refine ⟨_, _, fun w' => ?_, h⟩
            simp only [Op.eqFields, if_pos hnm, Sem.run_bind, pa, pb, he, Result.andThen_ok]
            by_cases hab : a = b <;> simp [hab]
          · obtain ⟨p, d, q1, q2⟩ := eqFs_sound hC dd fs (i := off + 1) (fl := fl) e3 (fun f hf => hn f (List.mem_cons_of_mem _ hf))
              (fun j c hj => by have := hl (j + 1) c (by simpa using hj); rwa [show off + (j + 1) = off + 1 + j by omega] at this)
              (fun j c hj => by have := hm (j + 1) c (by simpa using hj); rwa [show off + (j + 1) = off + 1 + j by omega] at this) h
            refine ⟨_, _, fun w' => ?_, q2⟩
            simp only [Op.eqFields, if_pos hnm, Sem.run_bind, pa, pb, he, Result.andThen_ok]
            by_cases hab : a = b
            · subst hab
              simp only [beq_self_eq_true, Bool.not_true, Bool.false_eq_true, if_false, q1]
              congr 1
              by_cases hp : p <;> simp [hp]
            · simp [hab]
    · exact h.elim

theorem aggEq_sound (hC : ∀ t ti, tyFind t C.tys = some ti → TIok P t ti) {op : BinOp} {l m : List SC} {vx vy : Value} (ox oy : Operand) (hx : (SV.agg l).Rep w H g vx) (hy : (SV.agg m).Rep w H g vy) {K : SV → Prop} (h : aggEq C op t l m K) :
    ∃ v sv, (∀ w' : World, ((do eqGuard op t ox oy vx vy; binOp op t vx vy : Sem Value)).run P w' = .ok v w') ∧ sv.Rep w H g v ∧ K sv := by
  obtain ⟨us, e1, hr1, _⟩ := hx
  obtain ⟨vs, e2, hr2, _⟩ := hy
  subst e1; subst e2
  unfold aggEq at h
  cases ht : tyFind t C.tys with
  | none => rw [ht] at h; exact h.elim
  | some ti =>
    rw [ht] at h
    simp only at h
    have hti := hC _ _ ht
    cases hq : ti.eqs with
    | false => rw [hq] at h; exact h.elim
    | true =>
      rw [hq] at h
      simp only [cond_true] at h
      obtain ⟨s1, s2, s3⟩ := hti.eqs hq
      have hd := hti.desc
      cases hx : ti.desc <;> rw [hx] at h hd <;> simp only at h <;> try exact h.elim
      rename_i fs
      obtain ⟨fields, u1, u2⟩ := hd
      have hf : P.fieldsOf t = fields := by simp [Program.fieldsOf, u1]
      have look : ∀ {l : List SC} {us : List Value}, Reps w H g l us → ∀ (j : Nat) (c : SC), l[j]? = some c → ∃ v, us.toArray[0 + j]? = some v ∧ c.Rep w H g v := by
        intro l us hr j c hj
        have hjl := (List.getElem?_eq_some_iff.1 hj).1
        have hju : j < us.length := by rw [hr.1]; exact hjl
        exact ⟨us[j], by simp [hju], hr.2 j c _ hj (List.getElem?_eq_getElem hju)⟩
      have key : ∀ {K : (p : Prop) → Decidable p → Prop}, eqFs C fs 0 l m K → ∃ p d, (∀ w' : World, (Op.equalIn 10000 t (.agg us.toArray) (.agg vs.toArray)).run P w' = .ok (@decide p d) w') ∧ K p d := by
        intro K h
        obtain ⟨p, d, q1, q2⟩ := eqFs_sound hC 9998 fs (fl := fields.toList) u2 (s3 fields u1) (look hr1) (look hr2) h
        refine ⟨p, d, fun w' => ?_, q2⟩
        rw [run_equalIn_struct (P := P) w' 9999 t _ _ (by rw [hf]; exact u1) s1, hf]
        exact q1 w'
      cases op <;> simp only at h <;> try exact h.elim
      · obtain ⟨p, d, q1, q2⟩ := key h
        refine ⟨.bool (@decide p d), .c (.prop 0 p d), fun w' => ?_, rfl, q2⟩
        simp only [Sem.run_bind, run_eqGuard_agg w' _ t ox oy _ _ s2, Result.andThen_ok, run_eql_struct, q1]
      · obtain ⟨p, d, q1, q2⟩ := key h
        refine ⟨.bool (!(@decide p d)), _, fun w' => ?_, ?_, q2⟩
        · simp only [Sem.run_bind, run_eqGuard_agg w' _ t ox oy _ _ s2, Result.andThen_ok, run_neq_struct, q1]
        · show Value.bool _ = Value.bool _
          congr 1
          by_cases hp : p <;> simp [hp]

theorem asB_rep {x : SC} {b : Bool} (h : x.asB = some b) {v : Value} (hr : x.Rep w H g v) : v = .bool b := by
  unfold SC.asB at h
  split at h
  · simp at h; subst h; exact hr
  · simp at h; subst h; exact hr
  · simp at h; subst h; exact hr
  · cases h

theorem run_eq_nil {e : TypeId} (hu : P.underlying t = some (.slice e)) (ox oy : Operand) (A : Option Addr) (n c : Nat) (w' : World) :
    ((do eqGuard .eql t ox oy (.slice A n c) (.slice none 0 0); binOp .eql t (.slice A n c) (.slice none 0 0) : Sem Value)).run P w' = .ok (.bool A.isNone) w' ∧
    ((do eqGuard .neq t ox oy (.slice A n c) (.slice none 0 0); binOp .neq t (.slice A n c) (.slice none 0 0) : Sem Value)).run P w' = .ok (.bool (!A.isNone)) w' := by
  have he : (Op.equalIn 10000 t (.slice A n c) (.slice none 0 0)).run P w' = .ok A.isNone w' := by
    unfold Op.equalIn
    cases A <;> simp [run_underlying hu]
  have hg : ∀ op, (eqGuard op t ox oy (.slice A n c) (.slice none 0 0)).run P w' = .ok () w' := fun op => by
    unfold eqGuard
    split <;> rfl
  constructor
  · simp only [Sem.run_bind, hg, Result.andThen_ok]
    simp only [binOp, Op.equal, Op.maxDepth, Sem.run_bind, he, Result.andThen_ok, Sem.run_pure]
  · simp only [Sem.run_bind, hg, Result.andThen_ok]
    simp only [binOp, Op.equal, Op.maxDepth, Sem.run_bind, he, Result.andThen_ok, Sem.run_pure]

theorem isNilC_rep {y : SC} {v : Value} (h : isNilC y = true) (hr : y.Rep w H g v) : v = .slice none 0 0 := by
  unfold isNilC at h
  split at h
  · have e : v = _ := hr
    rw [e, isNil_eq h]
  · cases h

theorem nilS_sound (hs : Sat B X w0 H g w) {x : SC} {v : Value} (hr : x.Rep w H g v) {K : Bool → Prop} (h : nilS x H K) : ∃ A n c, v = .slice A n c ∧ K A.isNone := by
  unfold nilS at h
  split at h
  · rename_i u
    cases hu : isNil u with
    | false => rw [hu] at h; exact h.elim
    | true =>
      rw [hu] at h
      have e : v = u := hr
      exact ⟨none, 0, 0, by rw [e, isNil_eq hu], h⟩
  · rename_i T xs
    obtain ⟨hne, h⟩ := h
    obtain ⟨A, cap, e, hro⟩ := hr
    simp only [List.cons.injEq, and_true] at e
    obtain ⟨ad, r1, _⟩ := hro.2 hne
    subst r1
    exact ⟨some ad, _, _, e, h⟩
  · rename_i i ver
    obtain ⟨_, hr⟩ := hr
    unfold OwnRep at hr
    cases he : H[i]? with
    | none => rw [he] at h; exact h.elim
    | some en =>
      rw [he] at h hr
      cases en with
      | dead => exact h.elim
      | blk => exact h.elim
      | tab => exact h.elim
      | row et T ver' xs =>
        simp only at h hr
        cases hb : Nat.beq ver ver' with
        | false => rw [hb] at h; exact h.elim
        | true =>
          rw [hb] at h
          simp only [cond_true] at h
          obtain ⟨hne, h⟩ := h
          have hv := hr.2 (Nat.eq_of_beq_eq_true hb)
          obtain ⟨cells, ho, _⟩ := hs.ents i _ he
          rcases ho.2 with ⟨e1, e2⟩ | ⟨gb, cap, cur, e1, _⟩
          · exact absurd (List.eq_nil_of_length_eq_zero e2) hne
          · exact ⟨some ⟨gb, 0, none⟩, _, _, by rw [hv, e1], h⟩
  · exact h.elim

theorem binAll_sound (hs : Sat B X w0 H g w) (hC : ∀ t ti, tyFind t C.tys = some ti → TIok P t ti) {op : BinOp} {x y : SV} {vx vy : Value} (ox oy : Operand) (hx : x.Rep w H g vx) (hy : y.Rep w H g vy) {K : SV → Prop} (h : binAll C op t x y H K) :
    ∃ v sv, (∀ w' : World, ((do eqGuard op t ox oy vx vy; binOp op t vx vy : Sem Value)).run P w' = .ok v w') ∧ sv.Rep w H g v ∧ K sv := by
  unfold binAll at h
  split at h
  · exact aggEq_sound hC ox oy hx hy h
  · rename_i x y
    split at h
    · rename_i a b ha hb
      have e1 := asB_rep ha hx
      have e2 := asB_rep hb hy
      subst e1; subst e2
      cases ht : tyFind t C.tys with
      | none => rw [ht] at h; exact h.elim
      | some ti =>
        rw [ht] at h
        simp only at h
        have hd := (hC _ _ ht).desc
        cases hx : ti.desc <;> rw [hx] at h hd <;> simp only at h <;> try exact h.elim
        have hu : P.underlying t = some .bool := hd
        have he : ∀ w' : World, (Op.equal t (.bool a) (.bool b)).run P w' = .ok (a == b) w' := fun w' => run_equalIn_bool' w' 9999 t a b hu
        unfold boolEq at h
        split at h
        · refine ⟨.bool (decide (a = b)), .c (.prop 0 (a = b) inferInstance), fun w' => ?_, rfl, h⟩
          simp only [Sem.run_bind, eqGuard_at_bool, Result.andThen_ok, Sem.run_pure]
          simp only [binOp, Sem.run_bind, he, Result.andThen_ok, Sem.run_pure]
          cases a <;> cases b <;> rfl
        · refine ⟨.bool (decide (¬ a = b)), .c (.prop 0 (¬ a = b) inferInstance), fun w' => ?_, rfl, h⟩
          simp only [Sem.run_bind, eqGuard_at_bool, Result.andThen_ok, Sem.run_pure]
          simp only [binOp, Sem.run_bind, he, Result.andThen_ok, Sem.run_pure]
          cases a <;> cases b <;> rfl
        · exact h.elim
    · split at h
      · rename_i ti ht
        have hd := (hC _ _ ht).desc
        split at h
        · rename_i e hde
          rw [hde] at hd
          have hu : P.underlying t = some (.slice e) := hd
          unfold sliceEq at h
          cases hn : isNilC y with
          | false => rw [hn] at h; exact h.elim
          | true =>
            rw [hn] at h
            simp only [cond_true] at h
            have ey := isNilC_rep hn hy
            subst ey
            split at h
            · obtain ⟨A, n, c, e, hk⟩ := nilS_sound hs hx h
              subst e
              exact ⟨.bool A.isNone, .c (.kb A.isNone), fun w' => (run_eq_nil hu ox oy A n c w').1, rfl, hk⟩
            · obtain ⟨A, n, c, e, hk⟩ := nilS_sound hs hx h
              subst e
              exact ⟨.bool (!A.isNone), .c (.kb (!A.isNone)), fun w' => (run_eq_nil hu ox oy A n c w').2, rfl, hk⟩
            · exact h.elim
        · exact bin_sound ox oy hx hy h
      · exact bin_sound ox oy hx hy h
  · exact h.elim

end
end Go.SX
