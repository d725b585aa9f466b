/- Parts of the proof, one after the other: SxJ SxK SxKA SxL. -/
import Derived.Test.YtfbgbdiajghnbaaDoorM1
import Derived.Laws.BytesString
/- SX, part J: every operation of the executor is sound. -/
namespace Go.SX
open Go Go.RowKit

section
variable {P : Program} {B : Nat} {X : Nat → Prop} {w0 w : World} {H : List Ent} {g : Gh} {t : TypeId} {ti : TI} {C : Ctx}

theorem store_sound (hs : Sat B X w0 H g w) (hti : TIok P t ti) {a x : SV} {va vx : Value} (ha : a.Rep w H g va) (hx : x.Rep w H g vx) {K : List Ent → Prop} (h : storeS ti.size a x H K) :
    ∃ w1 H1 g1, (Instr.storeAt t va vx).run P w = .ok () w1 ∧ K H1 ∧ Sat B X w0 H1 g1 w1 ∧ Evo w H g w1 H1 g1 := by
  unfold storeS at h
  cases hc : x.cells with
  | none => rw [hc] at h; exact h.elim
  | some l =>
    rw [hc] at h
    simp only at h
    cases hb : Nat.beq l.length ti.size with
    | false => rw [hb] at h; exact h.elim
    | true =>
      rw [hb] at h
      simp only [cond_true] at h
      have hl := Nat.eq_of_beq_eq_true hb
      obtain ⟨hr, h1⟩ := SV.cells_rep hc hx
      split at h
      · rename_i i off
        obtain ⟨_, e⟩ := ha
        subst e
        cases he : H[i]? with
        | none => rw [he] at h; exact h.elim
        | some en =>
          rw [he] at h
          cases en with
          | dead => exact h.elim
          | row => exact h.elim
          | tab => exact h.elim
          | iter => exact h.elim
          | blk ty cs =>
            simp only at h
            cases hb2 : Nat.ble (off + ti.size) cs.length with
            | false => rw [hb2] at h; exact h.elim
            | true =>
              rw [hb2] at h
              obtain ⟨w1, r1, r2, r3⟩ := store_blk hs hti he (Nat.le_of_ble_eq_true hb2) hr h1 hl
              exact ⟨w1, _, g, by simp [Instr.storeAt, Instr.sureAddr, r1], h, r2, r3⟩
      · rename_i i ver k off
        obtain ⟨_, hrep⟩ := ha
        unfold OwnaRep at hrep
        cases he : H[i]? with
        | none => rw [he] at h; exact h.elim
        | some en =>
          rw [he] at h hrep
          cases en with
          | dead => exact h.elim
          | blk => exact h.elim
          | tab => exact h.elim
          | iter => exact h.elim
          | row e T ver' xs =>
            simp only at h hrep
            cases hb2 : (Nat.beq ver ver' && Nat.ble (off + ti.size) T.size) with
            | false => rw [hb2] at h; exact h.elim
            | true =>
              rw [hb2] at h
              simp only [cond_true] at h
              rw [Bool.and_eq_true] at hb2
              have hv := Nat.eq_of_beq_eq_true hb2.1
              have hle := Nat.le_of_ble_eq_true hb2.2
              subst hv
              obtain ⟨hk, b, hbk, hva⟩ := hrep.2 rfl
              obtain ⟨cells, ho, hE, hone, hmine⟩ := hs.ents i _ he
              have hxk : xs[k]? = some (xs.getD k T.dflt) := by simp [List.getD, List.getElem?_eq_getElem hk]
              obtain ⟨c, c1, c2, c3⟩ := hE k _ hxk
              have hspl : Reps w H g (spliceL (T.scs (xs.getD k T.dflt)) off l) (spliceV c off vx.cells.toList) := Reps.splice off (Ty.scs_rep T c1) hr
              obtain ⟨y, cs, r, vr, H1, d1, d2, d3, d3', _, _, d6, d7, d8⟩ := dat_sound (ok := fun _ => True) false T hs hspl h (fun h => by cases h)
              have hvr : vr = [] := by
                have e1 := congrArg List.length d1
                rw [spliceV_length, c2, List.length_append, (d6 rfl).len] at e1
                exact List.eq_nil_of_length_eq_zero (by omega)
              subst hvr
              rw [List.append_nil] at d1
              rcases d3' i with hi | hi
              · rw [he] at hi
                rw [hi] at d8
                obtain ⟨w1, r1, r2, r3⟩ := store_row d2 hti hi hk hle hbk (v := vx) (by rw [hr.1, hl]) h1 (x := y) (c := cs) (fun cells' ho' => by
                  have hcc : cells' = cells := by
                    obtain ⟨cap, cur, e1, e2, _, _, _, e5⟩ := row_cells ho hbk
                    obtain ⟨cap', cur', e1', e2', _, _, _, e5'⟩ := row_cells ho' hbk
                    rw [e2] at e2'
                    cases e2'
                    rw [← e5, ← e5']
                  rw [← d1, hcc]
                  congr 1
                  apply List.ext_getElem?
                  intro j
                  rw [List.getElem?_take]
                  split
                  · rename_i hj
                    rw [List.getElem?_drop]
                    have hj' : j < c.length := by omega
                    rw [List.getElem?_eq_getElem hj']
                    exact (c3 j _ (List.getElem?_eq_getElem hj')).symm
                  · rw [List.getElem?_eq_none (by omega)]) (d6 rfl)
                exact ⟨w1, _, g, by rw [hva]; simp [Instr.storeAt, Instr.sureAddr, r1], d8, r2, d3.trans r3⟩
              · rw [hi] at d8; exact d8.elim
      · exact h.elim

theorem place_sound {off : Nat} {x : SV} {vx : Value} (hx : x.Rep w H g vx) {K : SV → Prop} (h : fieldS off x H K) : ∃ a sv, vx = .pointer (some a) ∧ sv.Rep w H g (.pointer (some (a.add off))) ∧ K sv := by
  unfold fieldS at h
  split at h
  · rename_i i o
    obtain ⟨hi, e⟩ := hx
    exact ⟨_, .c (.ptr i (o + off)), e, ⟨hi, by rw [add_plain]⟩, h⟩
  · rename_i T xs k o
    obtain ⟨hk, ad, e, r⟩ := hx
    exact ⟨_, .c (.roa T xs k (o + off)), e, ⟨hk, ad, by rw [add_add, Nat.add_assoc], r⟩, h⟩
  · rename_i i ver k o
    obtain ⟨h1, hr⟩ := hx
    unfold OwnaRep at hr
    cases he : H[i]? with
    | none => rw [he] at h; exact h.elim
    | some en =>
      rw [he] at h hr
      cases en with
      | dead => exact h.elim
      | blk => exact h.elim
      | tab => exact h.elim
      | iter => exact h.elim
      | row e T ver' xs =>
        simp only at h hr
        cases hb : Nat.beq ver ver' with
        | false => rw [hb] at h; exact h.elim
        | true =>
          rw [hb] at h
          obtain ⟨hk, b, hbk, hv⟩ := hr.2 (Nat.eq_of_beq_eq_true hb)
          refine ⟨_, .c (.owna i ver k (o + off)), hv, ⟨by rw [add_plain]; rfl, ?_⟩, h⟩
          unfold OwnaRep
          rw [he]
          exact ⟨hr.1, fun _ => ⟨hk, b, hbk, by rw [add_plain, Nat.add_assoc]⟩⟩
  · exact h.elim

theorem field_sound {fs : List (Nat × TypeId)} (hd : ti.desc = .struct fs) (hti : TIok P t ti) {f off : Nat} {ft : TypeId} (hf : fs[f]? = some (off, ft)) {fi : TI} (hfi : TIok P ft fi) (hz : fi.size ≠ 0)
    {x : SV} {vx : Value} (hx : x.Rep w H g vx) {K : SV → Prop} (h : fieldS off x H K) : ∃ v sv, (∀ w' : World, (Instr.fieldAt t vx f).run P w' = .ok v w') ∧ sv.Rep w H g v ∧ K sv := by
  have hu := hti.desc
  rw [hd] at hu
  obtain ⟨fields, u1, u2⟩ := hu
  have hfld : ∃ fld, fields[f]? = some fld ∧ fld.offset = off ∧ fld.type = ft := by
    rw [← u2, List.getElem?_map] at hf
    cases hq : fields.toList[f]? with
    | none => rw [hq] at hf; simp at hf
    | some fld =>
      rw [hq] at hf
      simp at hf
      exact ⟨fld, by simpa using hq, hf.1, hf.2⟩
  obtain ⟨fld, q1, q2, q3⟩ := hfld
  have run : ∀ (a : Addr) (w' : World), (Instr.fieldAt t (.pointer (some a)) f).run P w' = .ok (.pointer (some (a.add off))) w' := by
    intro a w'
    have hs : (sizeOf fld.type).run P w' = .ok fi.size w' := by rw [q3]; exact hfi.sizeOf
    simp [Instr.fieldAt, run_underlying u1, q1, Instr.sureAddr, fieldPlace, hs, hz, q2]
  unfold fieldS at h
  split at h
  · rename_i i o
    obtain ⟨hi, e⟩ := hx
    subst e
    exact ⟨_, .c (.ptr i (o + off)), run _, ⟨hi, by rw [add_plain]⟩, h⟩
  · rename_i T xs k o
    obtain ⟨hk, ad, e, r⟩ := hx
    subst e
    exact ⟨_, .c (.roa T xs k (o + off)), run _, ⟨hk, ad, by rw [add_add, Nat.add_assoc], r⟩, h⟩
  · rename_i i ver k o
    obtain ⟨h1, hr⟩ := hx
    unfold OwnaRep at hr
    cases he : H[i]? with
    | none => rw [he] at h; exact h.elim
    | some en =>
      rw [he] at h hr
      cases en with
      | dead => exact h.elim
      | blk => exact h.elim
      | tab => exact h.elim
      | iter => exact h.elim
      | row e T ver' xs =>
        simp only at h hr
        cases hb : Nat.beq ver ver' with
        | false => rw [hb] at h; exact h.elim
        | true =>
          rw [hb] at h
          obtain ⟨hk, b, hbk, hv⟩ := hr.2 (Nat.eq_of_beq_eq_true hb)
          subst hv
          refine ⟨_, .c (.owna i ver k (o + off)), run _, ⟨by rw [add_plain]; rfl, ?_⟩, h⟩
          unfold OwnaRep
          rw [he]
          exact ⟨hr.1, fun _ => ⟨hk, b, hbk, by rw [add_plain, Nat.add_assoc]⟩⟩
  · exact h.elim

theorem args_rep {a : Act} {ev : Operand → SV} (hev : ∀ x, (ev x).Rep w H g (a.eval x)) (l : List Operand) : ArgsRep w H g (l.map ev) (l.map a.eval) := by
  refine ⟨by simp, fun j x v h1 h2 => ?_⟩
  rw [List.getElem?_map] at h1 h2
  cases hj : l[j]? with
  | none => rw [hj] at h1; simp at h1
  | some o => rw [hj] at h1 h2; simp at h1 h2; subst h1; subst h2; exact hev o

theorem caps_sound : (l : List SV) → {vs : List Value} → {is : List Nat} → capsOf l = some is → ArgsRep w H g l vs → vs = is.map (fun i => Value.pointer (some ⟨g.b i, 0, none⟩)) ∧ ∀ i ∈ is, i < H.length
  | [], vs, is, h, hr => by
    simp [capsOf] at h; subst h
    have : vs = [] := List.eq_nil_of_length_eq_zero hr.1
    subst this
    exact ⟨rfl, fun i hi => by simp at hi⟩
  | x :: r, vs, is, h, hr => by
    match vs, hr with
    | [], hr => exact absurd hr.1 (by simp)
    | v :: vs, hr =>
      have h0 := hr.2 0 x v rfl rfl
      have hrest : ArgsRep w H g r vs := ⟨by simpa using hr.1, fun j y u h1 h2 => hr.2 (j + 1) y u (by simpa using h1) (by simpa using h2)⟩
      unfold capsOf at h
      split at h
      · rename_i heq; cases heq
      · rename_i i r' heq
        cases heq
        cases hq : capsOf r with
        | none => rw [hq] at h; simp at h
        | some js =>
          rw [hq] at h
          simp at h
          subst h
          obtain ⟨k1, k2⟩ := caps_sound r hq hrest
          refine ⟨by rw [k1]; simp [h0.2], fun j hj => ?_⟩
          rcases List.mem_cons.1 hj with h | h
          · subst h; exact h0.1
          · exact k2 j h
      · cases h

theorem run_callFunc {f : FuncId} {fn : Func} (h1 : P.funcs[f]? = some fn) (h2 : (fn.name == "runtime.NumGoroutine") = false) (h3 : fn.body.isNone = false) (args : Array Value) :
    (callFunc f args).run P w = .ok (.enter f args) w := by
  have h2' : ¬ fn.name = "runtime.NumGoroutine" := by simpa using h2
  have h3' : ¬ fn.body = none := by intro e; rw [e] at h3; simp at h3
  simp [callFunc, program, Sem.run, h1, h2', h3']

theorem part_sound (hti : TIok P t ti) {cs : List SC} {vs : List Value} (hr : Reps w H g cs vs) (h1 : ∀ u ∈ vs, u.oneCell' = true) {off : Nat} (hle : off + ti.size ≤ cs.length) :
    ∃ v, (∀ w' : World, (part t vs.toArray off).run P w' = .ok v w') ∧ (mkV ti.desc.isAgg ((cs.drop off).take ti.size)).Rep w H g v := by
  have hl : ((vs.drop off).take ti.size).length = ti.size := by simp [hr.1]; omega
  obtain ⟨v, hv⟩ := as_value hti.single hl
  refine ⟨v, ?_, mkV_rep ((hr.drop off).take ti.size) (fun u hu => h1 u (List.mem_of_mem_drop (List.mem_of_mem_take hu))) hv⟩
  intro w'
  unfold part
  simp only [Sem.run_bind, hti.isAgg, Result.andThen_ok]
  cases hx : ti.desc.isAgg with
  | true =>
    rw [hx] at hv
    simp only [if_true] at hv ⊢
    simp only [Sem.run_bind, hti.sizeOf, Result.andThen_ok, Sem.run_pure]
    rw [hv]
    congr 2
    simp [List.extract_eq_take_drop]
  | false =>
    rw [hx] at hv
    simp only [Bool.false_eq_true, if_false] at hv ⊢
    have hs1 := hti.single hx
    rw [hs1] at hv hl
    have h0 : vs[off]? = some v := by
      have := congrArg (fun l : List Value => l[0]?) hv
      simp only [List.getElem?_take, List.getElem?_drop] at this
      simpa using this
    simp [h0]

theorem cond_sound {sv : SV} {v : Value} (hr : sv.Rep w H g v) {A B : Prop} (h : sv.cond A B) : ∃ b, v = .bool b ∧ (b = true → A) ∧ (b = false → B) := by
  unfold SV.cond at h
  split at h
  · rename_i id p d
    exact ⟨_, hr, fun hb => h.1 (of_decide_eq_true hb), fun hb => h.2 (of_decide_eq_false hb)⟩
  · rename_i id b
    exact ⟨b, hr, h.1, h.2⟩
  · rename_i b
    cases b with
    | true => exact ⟨true, hr, fun _ => h, fun h => (by cases h)⟩
    | false => exact ⟨false, hr, fun h => (by cases h), fun _ => h⟩
  · exact h.elim

/-- What an operation that changes nothing yields: now, and in every later world. -/
def Lite (P : Program) (o : Oper) (a : Act) (w : World) (H : List Ent) (g : Gh) (K : SV → List Ent → Prop) : Prop :=
  ∃ v sv, (∀ w', (pureOp o.op = true ∨ Later w w') → (execOp a.eval o).run P w' = .ok (.value v) w') ∧ sv.Rep w H g v ∧ K sv H

theorem Lite.value {o : Oper} {a : Act} {K : SV → List Ent → Prop} {v : Value} {sv : SV} (h : ∀ w', (pureOp o.op = true ∨ Later w w') → (execOp a.eval o).run P w' = .ok (.value v) w') (r : sv.Rep w H g v ∧ K sv H) : Lite P o a w H g K := ⟨v, sv, h, r.1, r.2⟩
theorem Lite.here {K : SV → List Ent → Prop} {v : Value} {sv : SV} (_ : Sat B X w0 H g w) (r : sv.Rep w H g v) (k : K sv H) : sv.Rep w H g v ∧ K sv H := ⟨r, k⟩

/-- The builtins. -/
theorem builtin_light (hC : CtxOK P C) {o : Oper} {a : Act} (hs : Sat B X w0 H g w) {b : Builtin} (hb : b = .len ∨ b = .max ∨ b = .min) {args : List SV} {vals : List Value} (hargs : ArgsRep w H g args vals) {tys : List TypeId} {type : TypeId} {consts : Array Bool}
    (hrun : ∀ v w', (builtin b tys.toArray type consts vals.toArray).run P w' = .ok (.value v) w' → (execOp a.eval o).run P w' = .ok (.value v) w') {K : SV → List Ent → Prop}
    (h : builtinS C b args tys H K) : Lite P o a w H g K := by
  cases b <;> simp at hb <;> simp only [builtinS] at h
  case len =>
    match args, vals, hargs, h with
    | [x], [vx], hargs, h =>
      have hx := hargs.2 0 x vx rfl rfl
      match tys, hrun, h with
      | [t], hrun, h =>
        simp only at h
        cases ht : tyFind t C.tys with
        | none => rw [ht] at h; exact h.elim
        | some ti =>
          rw [ht] at h
          simp only at h
          have hti := (hC.tys _ _ ht).desc
          have run : ∀ (w' : World) (v : Value), (Builtin.len_ #[t] type #[vx]).run P w' = .ok v w' → (execOp a.eval o).run P w' = .ok (.value v) w' := by
            intro w' v hr
            refine hrun v w' ?_
            have : ((Builtin.len_ #[t] type #[vx]) >>= fun v => (pure (Next.value v) : Sem Next)).run P w' = .ok (.value v) w' := by
              simp only [Sem.run_bind, hr, Result.andThen_ok, Sem.run_pure]
            exact this
          cases hd : ti.desc <;> rw [hd] at h hti <;> simp only at h <;> try exact h.elim
          case slice e =>
            have hu : P.underlying t = some (.slice e) := hti
            have key : ∀ n A cap, vx = .slice A n cap → K (.c (.int .i64 n)) H → Lite P o a w H g K := by
              intro n A cap e hk
              exact Lite.value (fun w' _ => run w' (.int .i64 n) (by rw [e]; simp [Builtin.len_, run_underlying hu, goInt])) (Lite.here hs (sv := .c (.int .i64 n)) rfl hk)
            clear run
            match x, hx, h with
            | .c (.ro T xs), hx, h =>
              obtain ⟨A, cap, e, _⟩ := hx
              simp only [List.cons.injEq, and_true] at e
              exact key _ _ _ e h
            | .c (.raw u), hx, h =>
              have e : vx = u := hx
              simp only [lenS] at h
              cases hu : isNil u with
              | false => rw [hu] at h; exact h.elim
              | true =>
                rw [hu] at h
                exact key 0 none 0 (by rw [e, isNil_eq hu]) h
            | .c (.own i ver), hx, h =>
              obtain ⟨_, hr⟩ := hx
              unfold OwnRep at hr
              simp only [lenS] at h
              cases he : H[i]? with
              | none => rw [he] at h; exact h.elim
              | some en =>
                rw [he] at h hr
                cases en with
                | dead => exact h.elim
                | blk => exact h.elim
                | tab => exact h.elim
                | iter => exact h.elim
                | row et T ver' xs =>
                  simp only at h hr
                  cases hb : Nat.beq ver ver' with
                  | false => rw [hb] at h; exact h.elim
                  | true =>
                    rw [hb] at h
                    have hv := hr.2 (Nat.eq_of_beq_eq_true hb)
                    obtain ⟨cells, ho', _⟩ := hs.ents i _ he
                    rcases ho'.2 with ⟨e1, e2⟩ | ⟨gb, cap, cur, e1, _⟩
                    · exact key _ none 0 (by rw [hv, e1, e2]) h
                    · exact key _ _ _ (by rw [hv, e1]) h
            | .c (.pre i ver n), hx, h =>
              obtain ⟨_, hr⟩ := hx
              unfold PreRep at hr
              simp only [lenS] at h
              cases he : H[i]? with
              | none => rw [he] at h; exact h.elim
              | some en =>
                rw [he] at h hr
                cases en with
                | dead => exact h.elim
                | blk => exact h.elim
                | tab => exact h.elim
                | iter => exact h.elim
                | row et T ver' xs =>
                  simp only at h hr
                  cases hb : Nat.beq ver ver' with
                  | false => rw [hb] at h; exact h.elim
                  | true =>
                    rw [hb] at h
                    obtain ⟨_, A, len, cap, _, hv⟩ := hr.2 (Nat.eq_of_beq_eq_true hb)
                    exact key _ _ _ hv h
          case str =>
            have hu : P.underlying t = some .string := hti
            match x, hx, h with
            | .c (.str s), hx, h =>
              have e : vx = .string s := hx
              exact Lite.value (fun w' _ => run w' (.int .i64 s.size) (by rw [e]; simp [Builtin.len_, run_underlying hu, goInt])) (Lite.here hs (sv := .c (.int .i64 s.size)) rfl h)
          case array n e =>
            have hu : P.underlying t = some (.array n e) := hti
            exact Lite.value (fun w' _ => run w' (.int .i64 n) (by simp [Builtin.len_, run_underlying hu, goInt])) (Lite.here hs (sv := .c (.int .i64 n)) rfl h)
  case max =>
    match args, vals, hargs, h with
    | .c (.int k x) :: r, v :: vs, hargs, h =>
      have h0 : v = .int k x := hargs.2 0 _ v rfl rfl
      subst h0
      obtain ⟨n, r1, r2⟩ := maxAll_sound (P := P) (w := w) (H := H) (g := g) true k r x (vs := vs) ⟨by simpa using hargs.1, fun j y u h1 h2 => hargs.2 (j + 1) y u (by simpa using h1) (by simpa using h2)⟩ h
      simp only [if_true] at r1
      refine Lite.value (fun w' _ => hrun (.int k n) w' ?_) (Lite.here hs (sv := .c (.int k n)) rfl r2)
      have : ((Builtin.max_ tys.toArray type (.int k x :: vs).toArray) >>= fun v => (pure (Next.value v) : Sem Next)).run P w' = .ok (.value (.int k n)) w' := by
        simp only [Sem.run_bind, Builtin.max_, r1 w', Result.andThen_ok, Sem.run_pure]
      exact this
  case min =>
    match args, vals, hargs, h with
    | .c (.int k x) :: r, v :: vs, hargs, h =>
      have h0 : v = .int k x := hargs.2 0 _ v rfl rfl
      subst h0
      obtain ⟨n, r1, r2⟩ := maxAll_sound (P := P) (w := w) (H := H) (g := g) false k r x (vs := vs) ⟨by simpa using hargs.1, fun j y u h1 h2 => hargs.2 (j + 1) y u (by simpa using h1) (by simpa using h2)⟩ h
      simp only [Bool.false_eq_true, if_false] at r1
      refine Lite.value (fun w' _ => hrun (.int k n) w' ?_) (Lite.here hs (sv := .c (.int k n)) rfl r2)
      have : ((Builtin.min_ tys.toArray type (.int k x :: vs).toArray) >>= fun v => (pure (Next.value v) : Sem Next)).run P w' = .ok (.value (.int k n)) w' := by
        simp only [Sem.run_bind, Builtin.min_, r1 w', Result.andThen_ok, Sem.run_pure]
      exact this

/-- append. -/
theorem append_op_sound (hC : CtxOK P C) {o : Oper} {a : Act} (hs : Sat B X w0 H g w) {b : Builtin} (hb : b = .append) {args : List SV} {vals : List Value} (hargs : ArgsRep w H g args vals) {tys : List TypeId} {type : TypeId} {consts : Array Bool}
    (hrun : ∀ v w', (builtin b tys.toArray type consts vals.toArray).run P w = .ok (.value v) w' → (execOp a.eval o).run P w = .ok (.value v) w') {K : SV → List Ent → Prop}
    (h : builtinS C b args tys H K) : Runs P o a w (Post B X w0 K w H g) := by
  subst hb
  simp only [builtinS] at h
  match args, vals, hargs, h with
  | [s, x], [vs, vx], hargs, h =>
    have h0 := hargs.2 0 s vs rfl rfl
    have h1 := hargs.2 1 x vx rfl rfl
    match tys, hrun, h with
    | [t, t'], hrun, h =>
      simp only at h
      cases hb : Nat.beq t t' with
      | false => rw [hb] at h; exact h.elim
      | true =>
        rw [hb] at h
        simp only [cond_true] at h
        have htt := Nat.eq_of_beq_eq_true hb
        subst htt
        cases ht : tyFind t C.tys with
        | none => rw [ht] at h; exact h.elim
        | some ti =>
          rw [ht] at h
          simp only at h
          have hti := hC.tys _ _ ht
          cases hd : ti.desc <;> rw [hd] at h <;> simp only at h <;> try exact h.elim
          rename_i e
          cases he : tyFind e C.tys with
          | none => rw [he] at h; exact h.elim
          | some ei =>
            rw [he] at h
            simp only at h
            cases het : ei.ty with
            | none => rw [het] at h; exact h.elim
            | some et =>
              rw [het] at h
              obtain ⟨v, w1, r1, r2⟩ := append_sound hC.tys hs hti hd he het h0 h1 h type
              refine Runs.value (hrun v w1 ?_) r2
              have : ((Builtin.append_ #[t, t] type #[vs, vx]) >>= fun v => (pure (Next.value v) : Sem Next)).run P w = .ok (.value v) w1 := by
                simp only [Sem.run_bind, r1, Result.andThen_ok, Sem.run_pure]
              exact this

theorem bound_args {w : World} {H : List Ent} {g : Gh} {a : Act} {ev : Operand → SV} (hev : ∀ x, (ev x).Rep w H g (a.eval x)) (l : List Operand) (bs : List Nat) (hb : ∀ i ∈ bs, i < H.length) :
    ArgsRep w H g ((bs.map fun i => SV.c (.ptr i 0)) ++ l.map ev) ((bs.map fun i => Value.pointer (some ⟨g.b i, 0, none⟩)) ++ l.map a.eval) := by
  obtain ⟨q1, q2⟩ := args_rep hev l
  refine ⟨by simp, fun j x v h1 h2 => ?_⟩
  rcases Nat.lt_or_ge j bs.length with hj | hj
  · rw [List.getElem?_append_left (by simpa using hj), List.getElem?_map] at h1 h2
    rw [List.getElem?_eq_getElem hj] at h1 h2
    simp at h1 h2
    subst h1; subst h2
    exact ⟨hb _ (List.getElem_mem hj), rfl⟩
  · rw [List.getElem?_append_right (by simpa using hj)] at h1 h2
    simp only [List.length_map] at h1 h2
    exact q2 _ x v h1 h2

/-- copy. -/
theorem copy_op_sound (hC : CtxOK P C) {o : Oper} {a : Act} (hs : Sat B X w0 H g w) {b : Builtin} (hb : b = .copy) {args : List SV} {vals : List Value} (hargs : ArgsRep w H g args vals) {tys : List TypeId} {type : TypeId} {consts : Array Bool}
    (hrun : ∀ v w', (builtin b tys.toArray type consts vals.toArray).run P w = .ok (.value v) w' → (execOp a.eval o).run P w = .ok (.value v) w') {K : SV → List Ent → Prop}
    (h : builtinS C b args tys H K) : Runs P o a w (Post B X w0 K w H g) := by
  subst hb
  simp only [builtinS] at h
  match args, vals, hargs, h with
  | [s, x], [vs, vx], hargs, h =>
    have h0 := hargs.2 0 s vs rfl rfl
    have h1 := hargs.2 1 x vx rfl rfl
    match tys, hrun, h with
    | [t, t'], hrun, h =>
      simp only at h
      cases ht : tyFind t C.tys with
      | none => rw [ht] at h; exact h.elim
      | some ti =>
        rw [ht] at h
        simp only at h
        have hti := hC.tys _ _ ht
        cases hd : ti.desc <;> rw [hd] at h <;> simp only at h <;> try exact h.elim
        rename_i e
        cases he : tyFind e C.tys with
        | none => rw [he] at h; exact h.elim
        | some ei =>
          rw [he] at h
          simp only at h
          cases het : ei.ty with
          | none => rw [het] at h; exact h.elim
          | some et =>
            rw [het] at h
            obtain ⟨v, w1, r1, r2⟩ := copy_sound (sT := t') hC.tys hs hti hd he het h0 h1 h type
            refine Runs.value (hrun v w1 ?_) r2
            have : ((Builtin.copy_ #[t, t'] type #[vs, vx]) >>= fun v => (pure (Next.value v) : Sem Next)).run P w = .ok (.value v) w1 := by
              simp only [Sem.run_bind, r1, Result.andThen_ok, Sem.run_pure]
            exact this

/-- delete. -/
theorem delete_op_sound (hC : CtxOK P C) {o : Oper} {a : Act} (hs : Sat B X w0 H g w) {b : Builtin} (hb : b = .delete) {args : List SV} {vals : List Value} (hargs : ArgsRep w H g args vals) {tys : List TypeId} {type : TypeId} {consts : Array Bool}
    (hrun : ∀ v w', (builtin b tys.toArray type consts vals.toArray).run P w = .ok (.value v) w' → (execOp a.eval o).run P w = .ok (.value v) w') {K : SV → List Ent → Prop}
    (h : builtinS C b args tys H K) : Runs P o a w (Post B X w0 K w H g) := by
  subst hb
  simp only [builtinS] at h
  match args, vals, hargs, h with
  | [m, k], [vm, vk], hargs, h =>
    have h0 := hargs.2 0 m vm rfl rfl
    have h1 := hargs.2 1 k vk rfl rfl
    match tys, hrun, h with
    | [t, t'], hrun, h =>
      simp only at h
      obtain ⟨a', et, kt, e, hu, hk, ei, hei, ha, het, h⟩ := mapTy_sound hC.tys h
      split at h
      · rename_i i n _ _
        obtain ⟨hil, em⟩ := h0
        have ek : vk = .int .i64 n := h1
        cases hi : H[i]? with
        | none => rw [hi] at h; exact h.elim
        | some en =>
          rw [hi] at h
          cases en with
          | dead => exact h.elim
          | blk => exact h.elim
          | row => exact h.elim
          | iter => exact h.elim
          | tab a2 t2 es =>
            simp only at h
            cases hb : (a' == a2 && noIter i H) with
            | false => rw [hb] at h; exact h.elim
            | true =>
              rw [hb] at h
              simp only [cond_true] at h
              rw [Bool.and_eq_true] at hb
              have haa : a' = a2 := by simpa using hb.1
              subst haa
              split at h
              · rename_i htt
                subst htt
                obtain ⟨w1, r1, r2, r3⟩ := del_sound (P := P) (kt' := t') (type := type) hs hu hk hi hb.2 (n := n)
                refine Runs.value (hrun (.tuple #[]) w1 ?_) ⟨_, _, g, h, r2, r3, ⟨[], rfl, rfl, fun j p u h => by simp at h⟩⟩
                rw [em, ek]
                have : ((Builtin.delete_ #[t, t'] type #[.map (some (g.b i)), .int .i64 n]) >>= fun v => (pure (Next.value v) : Sem Next)).run P w = .ok (.value (.tuple #[])) w1 := by
                  simp only [Sem.run_bind, r1, Result.andThen_ok, Sem.run_pure]
                exact this
              · exact h.elim
      · exact h.elim

theorem noIter_mono {H1 : List Ent} (h : ∀ j : Nat, H1[j]? = H[j]? ∨ H1[j]? = some Ent.dead) {i : Nat} (hn : noIter i H = true) : noIter i H1 = true := by
  have key : ∀ (l : List Ent), (∀ (k : Nat) (a : Bool) (t : Ty) (x : List (Int × t.den)) (c : Option (Int × t.den)), l[k]? ≠ some (Ent.iter i a t x c)) → noIter i l = true := by
    intro l
    induction l with
    | nil => intro _; rfl
    | cons e r ih =>
      intro hno
      have hr := ih fun k a t x c h => hno (k + 1) a t x c (by simpa using h)
      cases e with
      | iter j a t x c =>
        unfold noIter
        rw [Bool.and_eq_true]
        refine ⟨?_, hr⟩
        rw [Bool.not_eq_true']
        cases hb : Nat.beq j i with
        | false => rfl
        | true =>
          have := Nat.eq_of_beq_eq_true hb
          subst this
          exact absurd rfl (hno 0 a t x c)
      | dead => exact hr
      | blk => exact hr
      | row => exact hr
      | tab => exact hr
  refine key H1 fun k a t x c hk => ?_
  rcases h k with h1 | h1
  · rw [h1] at hk; exact noIter_get hn k a t x c hk
  · rw [h1] at hk; cases hk

theorem comp_one {c : SC} {u0 : Value} {j : Nat} {q : Bool × List SC} {u : Value} {w : World} {H : List Ent} {g : Gh} (h : c.Rep w H g u0) (ho : u0.oneCell' = true) (h1 : [(false, [c])][j]? = some q) (h2 : [u0][j]? = some u) : CompRep w H g q u := by
  cases j with
  | zero =>
    simp at h1 h2; subst h1; subst h2
    exact ⟨[u0], ⟨rfl, fun j c' v h1 h2 => by cases j with | zero => simp at h1 h2; subst h1; subst h2; exact h | succ j => simp at h1⟩, by simpa using ho, by simp⟩
  | succ j => simp at h1

theorem casesN_get : (m : Nat) → {n : Int} → {p : Nat → Prop} → casesN m n p → ∀ j, j < m → n = (j : Int) → p j
  | 0, _, _, _, j, hj, _ => absurd hj (Nat.not_lt_zero _)
  | m + 1, n, p, h, j, hj, e => by
    rcases Nat.lt_succ_iff_lt_or_eq.1 hj with h1 | h1
    · exact casesN_get m h.1 j h1 e
    · subst h1; exact h.2 e

/-- Bytes in memory, as a string. -/
theorem bytes_sound (hs : Sat B X w0 H g w) {x : SV} {v : Value} (hr : x.Rep w H g v) {K : List Int → Prop} (h : bytesOfS x H K) :
    ∃ l, K l ∧ (∃ A n c, v = .slice A n c) ∧ ∀ w', Later w w' → (Conv.bytesToString v).run P w' = .ok (.string (strOf l)) w' := by
  unfold bytesOfS at h
  have fold : ∀ (l : List Int) (s : ByteArray), l.foldl (fun r n => r.push (UInt8.ofNat n.toNat)) s = ⟨s.data ++ (l.map fun b => UInt8.ofNat b.toNat).toArray⟩ := by
    intro l
    induction l with
    | nil => intro s; simp
    | cons b l ih => intro s; rw [List.foldl_cons, ih]; simp [ByteArray.push]
  have read : ∀ (xs : List Int) (ad : Addr) (cap : Nat), (∀ j u, (xs.map (Value.int .u8))[j]? = some u → w.cell? (ad.add j) = some u) → ∀ w', Later w w' → (Conv.bytesToString (.slice (some ad) xs.length cap)).run P w' = .ok (.string (strOf xs)) w' := by
    intro xs ad cap hc w' hl
    have h1 := run_loadCells_list (P := P) (w := w') ad (xs.map (Value.int .u8)) (fun j u hu => hl.cell (hc j u hu))
    rw [List.length_map] at h1
    rw [run_bytesToString w' ad xs.length cap xs h1, fold]
    unfold strOf
    congr 2
    simp [ByteArray.empty, ByteArray.emptyWithCapacity]
    rfl
  have nilC : ∀ (cap : Nat) (w' : World), (Conv.bytesToString (.slice none 0 cap)).run P w' = .ok (.string (strOf [])) w' := fun cap w' => rfl
  have emp : ∀ (A : Option Addr) (cap : Nat) (w' : World), (Conv.bytesToString (.slice A 0 cap)).run P w' = .ok (.string (strOf [])) w' := fun A cap w' => by
    cases A with
    | none => exact nilC cap w'
    | some ad =>
      have h1 := run_loadCells_list (P := P) (w := w') ad [] (fun j u hu => by simp at hu)
      exact run_bytesToString w' ad 0 cap [] h1
  split at h
  · rename_i u
    cases hu : isNil u with
    | false => rw [hu] at h; exact h.elim
    | true =>
      rw [hu] at h
      have e : v = u := hr
      rw [e, isNil_eq hu]
      exact ⟨[], h, ⟨_, _, _, rfl⟩, fun w' _ => nilC 0 w'⟩
  · rename_i T' xs
    split at h
    · rename_i hT'
      subst hT'
      obtain ⟨A, cap, e, hro⟩ := hr
      simp only [List.cons.injEq, and_true] at e
      subst e
      refine ⟨xs, h, ⟨_, _, _, rfl⟩, fun w' hl => ?_⟩
      by_cases hx : xs = []
      · subst hx; exact emp A cap w'
      · obtain ⟨ad, r1, r2, r3, r4⟩ := hro.2 hx
        subst r1
        refine read xs ad cap (fun j u hu => ?_) w' hl
        rw [List.getElem?_map] at hu
        cases hj : xs[j]? with
        | none => rw [hj] at hu; simp at hu
        | some b =>
          rw [hj] at hu
          simp at hu
          subst hu
          obtain ⟨c, c1, c2, c3⟩ := r4 j b hj
          have hc : c = [Value.int .u8 b] := c1
          subst hc
          have := c3 0 _ rfl
          simpa [Ty.size] using this
    · exact h.elim
  · rename_i i ver
    obtain ⟨_, hr⟩ := hr
    unfold OwnRep at hr
    cases he : H[i]? with
    | none => rw [he] at h; exact h.elim
    | some en =>
      rw [he] at h hr
      cases en with
      | dead => exact h.elim
      | blk => exact h.elim
      | tab => exact h.elim
      | iter => exact h.elim
      | row et T' ver' xs =>
        simp only at h hr
        cases hb : Nat.beq ver ver' with
        | false => rw [hb] at h; exact h.elim
        | true =>
          rw [hb] at h
          simp only [cond_true] at h
          split at h
          · rename_i hT'
            subst hT'
            have hv := hr.2 (Nat.eq_of_beq_eq_true hb)
            obtain ⟨cells, ho, hE, _⟩ := hs.ents i _ he
            rcases ho.2 with ⟨e1, e2⟩ | ⟨gb, cap, cur, e1, _, e2, e3, e4, e5, e6⟩
            · have : xs = [] := List.eq_nil_of_length_eq_zero e2
              subst this
              exact ⟨[], h, ⟨_, _, _, by rw [hv, e1]⟩, fun w' hl => by rw [hv, e1]; exact nilC 0 w'⟩
            · refine ⟨xs, h, ⟨_, _, _, by rw [hv, e1]⟩, fun w' hl => ?_⟩
              rw [hv, e1]
              refine read xs ⟨gb, 0, none⟩ cap (fun j u hu => ?_) w' hl
              rw [List.getElem?_map] at hu
              cases hj : xs[j]? with
              | none => rw [hj] at hu; simp at hu
              | some b =>
                rw [hj] at hu
                simp at hu
                subst hu
                obtain ⟨c, c1, c2, c3⟩ := hE j b hj
                have hc : c = [Value.int .u8 b] := c1
                subst hc
                have h3 := c3 0 _ rfl
                simp only [Ty.size, Nat.mul_one, Nat.add_zero] at h3
                rw [add_plain, Nat.zero_add, cell_at e2, ← Array.getElem?_toList]
                rw [← e6, List.getElem?_take] at h3
                split at h3
                · exact h3
                · cases h3
          · exact h.elim
  · exact h.elim

/-- The light ones. -/
theorem opStep_light (hC : CtxOK P C) {o : Oper} {a : Act} (hs : Sat B X w0 H g w) {ev : Operand → SV} (hev : ∀ x, (ev x).Rep w H g (a.eval x)) {K : SV → List Ent → Prop}
    (hl : lightOp o.op = true) (h : opStep C o.op ev H K) : Lite P o a w H g K := by
  have hmap : ∀ (l : List (Nat × Operand)), (l.map fun p => (p.1, ev p.2)).map Prod.fst = (l.map fun p => (p.1, a.eval p.2)).map Prod.fst ∧
      ∀ (j : Nat) (p : Nat × SV) (q : Nat × Value), (l.map fun p => (p.1, ev p.2))[j]? = some p → (l.map fun p => (p.1, a.eval p.2))[j]? = some q → p.2.Rep w H g q.2 := by
    intro l
    refine ⟨by simp [List.map_map, Function.comp_def], fun j p q h1 h2 => ?_⟩
    rw [List.getElem?_map] at h1 h2
    cases hj : l[j]? with
    | none => rw [hj] at h1; simp at h1
    | some r => rw [hj] at h1 h2; simp at h1 h2; subst h1; subst h2; exact hev _
  cases ho : o.op <;> rw [ho] at h hl <;> simp only [opStep] at h <;> try (first | exact h.elim | cases hl)
  case move x => exact Lite.value (fun w' hw' => by simp [execOp, ho]) (Lite.here hs (hev x) h)
  case assign x => exact Lite.value (fun w' hw' => by simp [execOp, ho]) (Lite.here hs (hev x) h)
  case pick c x y =>
    obtain ⟨b, hv, hA, hB⟩ := cond_sound (hev c) h
    cases b with
    | true => exact Lite.value (v := a.eval x) (fun w' hw' => by simp [execOp, ho, hv, asBool]) (Lite.here hs (hev x) (hA rfl))
    | false => exact Lite.value (v := a.eval y) (fun w' hw' => by simp [execOp, ho, hv, asBool]) (Lite.here hs (hev y) (hB rfl))
  case build t parts =>
    cases hb : buildS C t (parts.toList.map fun p => (p.1, ev p.2)) with
    | none => rw [hb] at h; exact h.elim
    | some cs =>
      rw [hb] at h
      obtain ⟨m1, m2⟩ := hmap parts.toList
      obtain ⟨res, r1, r2, r3⟩ := build_sound (P := P) hC.tys m1 m2 hb
      refine Lite.value (v := .agg res) ?_ (Lite.here hs (sv := .agg cs) ⟨res.toList, by simp, r2, r3⟩ h)
      have hp : (parts.map fun (x : Nat × Operand) => (x.1, a.eval x.2)) = (parts.toList.map fun p => (p.1, a.eval p.2)).toArray := by apply Array.toList_inj.1; rw [Array.toList_map]
      intro w' hw'
      simp only [execOp, ho, hp, Sem.run_bind, r1, Result.andThen_ok, Sem.run_pure]
  case load t x =>
    cases ht : tyFind t C.tys with
    | none => rw [ht] at h; exact h.elim
    | some ti =>
      rw [ht] at h
      obtain ⟨v, sv, r1, r2, r3⟩ := load_sound hs (hC.tys _ _ ht) (hev x) h
      exact Lite.value (fun w' hw' => by simp only [execOp, ho, Sem.run_bind, r1 w' (hw'.resolve_left (by rw [ho]; exact Bool.false_ne_true)), Result.andThen_ok, Sem.run_pure]) (Lite.here hs r2 r3)
  case nilCheck x =>
    have hx := hev x
    split at h
    · rename_i i o heq
      rw [heq] at hx
      obtain ⟨h1, h2⟩ := hx
      exact Lite.value (v := a.eval x) (fun w' hw' => by simp [execOp, ho, h2]) (Lite.here hs (sv := .c (.ptr i o)) ⟨h1, h2⟩ h)
    · rename_i T xs k o heq
      rw [heq] at hx
      obtain ⟨h0, ad, h2, r⟩ := hx
      exact Lite.value (v := a.eval x) (fun w' hw' => by simp [execOp, ho, h2]) (Lite.here hs (sv := .c (.roa T xs k o)) ⟨h0, ad, h2, r⟩ h)
    · rename_i f caps heq
      rw [heq] at hx
      exact Lite.value (v := a.eval x) (fun w' hw' => by simp [execOp, ho, hx.1]) (Lite.here hs (sv := .c (.fn f caps)) hx h)
    · rename_i f bs heq
      rw [heq] at hx
      exact Lite.value (v := a.eval x) (fun w' hw' => by simp [execOp, ho, hx.1]) (Lite.here hs (sv := .c (.bfn f bs)) hx h)
    · exact h.elim
  case binOp op t x y ty =>
    obtain ⟨v, sv, r1, r2, r3⟩ := binAll_sound (P := P) (t := t) hs hC.tys x y (hev x) (hev y) h
    refine Lite.value (v := v) ?_ (Lite.here hs r2 r3)
    intro w' hw'
    have r1' := r1 w'
    simp only [execOp, ho, Sem.run_bind] at r1' ⊢
    rw [r1']; rfl
  case unOp op t x =>
    obtain ⟨v, sv, r1, r2, r3⟩ := un_sound (P := P) (hev x) h
    exact Lite.value (v := v) (fun w' hw' => by simp only [execOp, ho, Sem.run_bind, r1 w', Result.andThen_ok, Sem.run_pure]) (Lite.here hs r2 r3)
  case convert src dst x =>
    cases h1 : tyFind src C.tys with
    | none => rw [h1] at h; exact h.elim
    | some si =>
      cases h2 : tyFind dst C.tys with
      | none => rw [h1, h2] at h; exact h.elim
      | some di =>
        rw [h1, h2] at h
        simp only at h
        have hsi := (hC.tys _ _ h1).desc
        have hdi := (hC.tys _ _ h2).desc
        have hx := hev x
        split at h
        · rename_i k k' _ n e1 e2 e3
          rw [e1] at hdi
          rw [e2] at hsi
          rw [e3] at hx
          have e : a.eval x = .int _ n := hx
          have hdi' : P.underlying dst = some (.int k) := hdi
          have hsi' : P.underlying src = some (.int k') := hsi
          obtain ⟨sv, q1, q2⟩ := arith_sound (w := w) (H := H) (g := g) h
          exact Lite.value (v := .int k (k.wrap n)) (fun w' hw' => by simp [execOp, ho, convert, run_underlying hdi', run_underlying hsi', e, Conv.intToInt]) (Lite.here hs q1 q2)
        · rename_i s e1 e2 e3
          rw [e1] at hdi
          rw [e2] at hsi
          rw [e3] at hx
          have e : a.eval x = .string s := hx
          have hdi' : P.underlying dst = some .string := hdi
          have hsi' : P.underlying src = some .string := hsi
          exact Lite.value (v := .string s) (fun w' hw' => by simp [execOp, ho, convert, run_underlying hdi', run_underlying hsi', e]) (Lite.here hs (sv := .c (.str s)) rfl h)
        · rename_i e e1 e2
          rw [e1] at hdi
          rw [e2] at hsi
          have hdi' : P.underlying dst = some .string := hdi
          have hsi' : P.underlying src = some (.slice e) := hsi
          cases he : tyFind e C.tys with
          | none => rw [he] at h; exact h.elim
          | some ei =>
            rw [he] at h
            simp only at h
            have hed := (hC.tys _ _ he).desc
            cases hde : ei.desc <;> rw [hde] at h hed <;> simp only at h <;> try exact h.elim
            rename_i kk
            by_cases hk : kk = .u8
            · subst hk
              simp only [decide_true, cond_true] at h
              have heu : P.underlying e = some (.int .u8) := hed
              obtain ⟨l, h, ⟨A, n, c, hv⟩, hrun⟩ := bytes_sound hs (P := P) hx h
              refine Lite.value (v := .string (strOf l)) (fun w' hw' => ?_) (Lite.here hs (sv := .c (.str (strOf l))) rfl h)
              have hl : Later w w' := hw'.resolve_left (by rw [ho]; exact Bool.false_ne_true)
              have h2 := run_convert_bytes_string w' src dst e A n c hsi' heu hdi'
              simp only [execOp, ho, Sem.run_bind]
              rw [hv] at hrun ⊢
              rw [h2, hrun w' hl]
              rfl
            · simp only [decide_eq_false hk, cond_false] at h
        · exact h.elim
  case makeFunc fn first captured =>
    cases fn <;> simp only at h <;> try exact h.elim
    rename_i f
    cases hz : Nat.beq first.size 0 with
    | false =>
      rw [hz] at h
      simp only [cond_false] at h
      cases hz2 : Nat.beq captured.size 0 with
      | false => rw [hz2] at h; exact h.elim
      | true =>
        rw [hz2] at h
        simp only [cond_true] at h
        cases hc : capsOf (first.toList.map ev) with
        | none => rw [hc] at h; exact h.elim
        | some is =>
          rw [hc] at h
          obtain ⟨k1, k2⟩ := caps_sound _ hc (args_rep hev first.toList)
          have hf : captured = #[] := by
            have := Nat.eq_of_beq_eq_true hz2
            exact Array.eq_empty_of_size_eq_zero this
          subst hf
          have hcap : first.map a.eval = (is.map (fun i => Value.pointer (some ⟨g.b i, 0, none⟩))).toArray := by
            rw [← k1]; apply Array.toList_inj.1; rw [Array.toList_map]
          exact Lite.value (v := .func (.func f) (first.map a.eval) #[]) (fun w' hw' => by simp [execOp, ho, Instr.makeFunc]) (Lite.here hs (sv := .c (.bfn f is)) ⟨by rw [hcap], k2⟩ h)
    | true =>
      rw [hz] at h
      simp only [cond_true] at h
      cases hc : capsOf (captured.toList.map ev) with
      | none => rw [hc] at h; exact h.elim
      | some is =>
        rw [hc] at h
        obtain ⟨k1, k2⟩ := caps_sound _ hc (args_rep hev captured.toList)
        have hf : first = #[] := by
          have := Nat.eq_of_beq_eq_true hz
          exact Array.eq_empty_of_size_eq_zero this
        subst hf
        have hcap : captured.map a.eval = (is.map (fun i => Value.pointer (some ⟨g.b i, 0, none⟩))).toArray := by
          rw [← k1]; apply Array.toList_inj.1; rw [Array.toList_map]
        exact Lite.value (v := .func (.func f) #[] (captured.map a.eval)) (fun w' hw' => by simp [execOp, ho, Instr.makeFunc]) (Lite.here hs (sv := .c (.fn f is)) ⟨by rw [hcap], k2⟩ h)
  case slice t x lo hi mx =>
    have hopt : ∀ o : Option Operand, OptRep w H g (o.map ev) (o.map a.eval) := fun o => by
      cases o with
      | none => trivial
      | some o => exact hev o
    have hx := hev x
    cases ht : tyFind t C.tys with
    | none => rw [ht] at h; exact h.elim
    | some ti =>
      rw [ht] at h
      simp only at h
      have hti := (hC.tys _ _ ht).desc
      have str : ∀ s, a.eval x = .string s → P.underlying t = some .string → (boundS 0 (lo.map ev) fun l => boundS s.size (hi.map ev) fun h => (0 ≤ l ∧ l ≤ h ∧ h ≤ s.size) ∧ (mx.map ev).isNone = true ∧ K (.c (.str (s.extract l.toNat h.toNat))) H) →
          Lite P o a w H g K := by
        intro s e hu h
        obtain ⟨l, h, hl⟩ := bound_sound (hopt lo) h
        obtain ⟨hh, ⟨h0, hm, h⟩, hhi⟩ := bound_sound (hopt hi) h
        have hmx : mx.map a.eval = none := by cases mx with | none => rfl | some _ => simp at hm
        exact Lite.value (fun w' hw' => by simp only [execOp, ho, e, hmx, Sem.run_bind, cut_str_sound (P := P) (w := w') hu hl hhi h0, Result.andThen_ok, Sem.run_pure]) (Lite.here hs (sv := .c (.str _)) rfl h)
      have sl : ∀ {e : TypeId} {ei : TI} {T : Ty} {xs : List T.den}, TIok P e ei → P.underlying t = some (.slice e) → T.size = ei.size → SC.Rep w H g (.ro T xs) (a.eval x) →
          (boundS 0 (lo.map ev) fun l => boundS xs.length (hi.map ev) fun h => (0 ≤ l ∧ l ≤ h ∧ h ≤ xs.length) ∧
            (match mx.map ev with | none => True | some (.c (.int _ m)) => m = h ∧ (hi.map ev).isSome = true | _ => False) ∧ K (.c (.ro T ((xs.take h.toNat).drop l.toNat))) H) → Lite P o a w H g K := by
        intro e ei T xs hei hu hsz hro h
        obtain ⟨A, cap, e1, hro⟩ := hro
        simp only [List.cons.injEq, and_true] at e1
        obtain ⟨l, h, hl⟩ := bound_sound (hopt lo) h
        obtain ⟨hh, ⟨h0, hm, h⟩, hhi⟩ := bound_sound (hopt hi) h
        have hmx : mx.map a.eval = none ∨ ∃ k k', mx.map a.eval = some (.int k hh) ∧ hi.map a.eval = some (.int k' hh) := by
          cases mx with
          | none => exact .inl rfl
          | some y =>
            right
            have hy := hev y
            simp only [Option.map_some] at hm
            split at hm
            · rename_i heq; cases heq
            · rename_i k m heq
              rw [Option.some.injEq] at heq
              rw [heq] at hy
              have ey : a.eval y = .int k m := hy
              obtain ⟨q1, q2⟩ := hm
              subst q1
              rcases hhi with ⟨q3, _⟩ | ⟨k', q3⟩
              · cases hi with
                | none => simp at q2
                | some _ => simp at q3
              · exact ⟨k, k', by simp [ey], q3⟩
            · exact hm.elim
        obtain ⟨v, r1, r2⟩ := cut_sound (P := P) hei hu hro hl hhi h0 hmx hsz
        exact Lite.value (fun w' hw' => by simp only [execOp, ho, e1, Sem.run_bind, r1 w', Result.andThen_ok, Sem.run_pure]) (Lite.here hs (sv := .c (.ro _ _)) r2 h)
      cases hd : ti.desc <;> rw [hd] at h hti <;> simp only at h <;> try exact h.elim
      case str =>
        unfold cutStr at h
        split at h
        · rename_i s heq
          rw [heq] at hx
          exact str s hx hti h
        · exact h.elim
      case slice e =>
        cases he : tyFind e C.tys with
        | none => rw [he] at h; exact h.elim
        | some ei =>
          rw [he] at h
          simp only at h
          unfold sliceS at h
          split at h
          · rename_i i ver heq
            rw [heq] at hx
            obtain ⟨h1x, hr⟩ := hx
            unfold OwnRep at hr
            cases hei : H[i]? with
            | none => rw [hei] at h; exact h.elim
            | some en =>
              rw [hei] at h hr
              cases en with
              | dead => exact h.elim
              | blk => exact h.elim
              | tab => exact h.elim
              | iter => exact h.elim
              | row et T ver' xs =>
                simp only at h hr
                cases hb : (Nat.beq ver ver' && Nat.beq T.size ei.size) with
                | false => rw [hb] at h; exact h.elim
                | true =>
                  rw [hb] at h
                  rw [Bool.and_eq_true] at hb
                  simp only [cond_true] at h
                  split at h
                  · rename_i kk n h1 hy h3
                    cases lo with
                    | some _ => simp at h1
                    | none =>
                      cases hi with
                      | none => simp at hy
                      | some y =>
                        cases mx with
                        | some _ => simp at h3
                        | none =>
                          rw [Option.map_some, Option.some.injEq] at hy
                          have hyr := hev y
                          rw [hy] at hyr
                          have ey : a.eval y = .int kk n := hyr
                          obtain ⟨⟨n0, n1⟩, h⟩ := h
                          have hver := Nat.eq_of_beq_eq_true hb.1
                          have hv := hr.2 hver
                          obtain ⟨cells, ho', hE, hone, hmine⟩ := hs.ents i _ hei
                          have hu : P.underlying t = some (.slice e) := hti
                          have hshape : ∃ A cap, g.v i = .slice A xs.length cap ∧ xs.length ≤ cap ∧ (A = none → xs.length = 0 ∧ cap = 0) := by
                            rcases ho'.2 with ⟨e1, e2⟩ | ⟨gb, cap, cur, e1, _, _, e3, _⟩
                            · exact ⟨none, 0, by rw [e1, e2], by omega, fun _ => ⟨e2, rfl⟩⟩
                            · exact ⟨_, cap, e1, e3, fun h => by cases h⟩
                          obtain ⟨A, cap, s1, s2, s3⟩ := hshape
                          have hbnd : ∀ w' : World, (Instr.sliceBounds true xs.length cap none (some (.int kk n)) none).run P w' = .ok (0, n.toNat, cap) w' := fun w' => by
                            have := run_bounds (P := P) (w := w') true (len := xs.length) (cap := cap) s2 (lo := none) (hi := some (.int kk n)) (l := 0) (h := n) (.inl ⟨rfl, rfl⟩) (.inr ⟨kk, rfl⟩) (Int.le_refl _) n0 n1
                            simpa using this
                          refine Lite.value (v := .slice A n.toNat cap) (fun w' _ => ?_) (Lite.here hs (sv := .c (.pre i ver n.toNat)) ⟨rfl, ?_⟩ h)
                          · simp only [execOp, ho, Option.map_none, Option.map_some, ey, hv, s1]
                            simp only [Instr.sliceAt, Instr.slice, Sem.run_bind, run_underlying hu, Result.andThen_ok, hbnd w', (hC.tys _ _ he).sizeOf, Sem.run_pure]
                            cases A <;> simp [Addr.add]
                          · unfold PreRep
                            rw [hei]
                            exact ⟨hr.1, fun _ => ⟨by omega, A, xs.length, cap, s1, rfl⟩⟩
                  · rename_i kk n hz h2 h3
                    cases lo with
                    | none => simp at hz
                    | some z =>
                      cases hi with
                      | some _ => simp at h2
                      | none =>
                        cases mx with
                        | some _ => simp at h3
                        | none =>
                          rw [Option.map_some, Option.some.injEq] at hz
                          have hzr := hev z
                          rw [hz] at hzr
                          have ez : a.eval z = .int kk n := hzr
                          obtain ⟨⟨n0, n1⟩, h⟩ := h
                          have hsuf : SufRep H g i ver 0 (a.eval x) := own_suf (w := w) hs (by unfold OwnRep; rw [hei]; exact hr)
                          obtain ⟨v', r1, r2⟩ := cut_suf (P := P) hs (hC.tys _ _ he) hti hei (Nat.eq_of_beq_eq_true hb.1) (Nat.eq_of_beq_eq_true hb.2) hsuf (n := n) (k := kk) ⟨n0, by simpa using n1⟩
                          rw [Nat.zero_add] at r2
                          exact Lite.value (v := v') (fun w' _ => by simp only [execOp, ho, Option.map_some, Option.map_none, ez, Sem.run_bind, r1 w', Result.andThen_ok, Sem.run_pure]) (Lite.here hs (sv := .c (.suf i ver n.toNat)) r2 h)
                  · exact h.elim
          · rename_i i ver m heq
            rw [heq] at hx
            obtain ⟨h1x, hr⟩ := hx
            cases hei : H[i]? with
            | none => rw [hei] at h; exact h.elim
            | some en =>
              rw [hei] at h
              cases en with
              | dead => exact h.elim
              | blk => exact h.elim
              | tab => exact h.elim
              | iter => exact h.elim
              | row et T ver' xs =>
                simp only at h
                cases hb : (Nat.beq ver ver' && Nat.beq T.size ei.size) with
                | false => rw [hb] at h; exact h.elim
                | true =>
                  rw [hb] at h
                  rw [Bool.and_eq_true] at hb
                  simp only [cond_true] at h
                  split at h
                  · rename_i kk n hz h2 h3
                    cases lo with
                    | none => simp at hz
                    | some z =>
                      cases hi with
                      | some _ => simp at h2
                      | none =>
                        cases mx with
                        | some _ => simp at h3
                        | none =>
                          rw [Option.map_some, Option.some.injEq] at hz
                          have hzr := hev z
                          rw [hz] at hzr
                          have ez : a.eval z = .int kk n := hzr
                          obtain ⟨n0, h⟩ := h
                          obtain ⟨v', r1, r2⟩ := cut_suf (P := P) hs (hC.tys _ _ he) hti hei (Nat.eq_of_beq_eq_true hb.1) (Nat.eq_of_beq_eq_true hb.2) hr (n := n) (k := kk) n0
                          exact Lite.value (v := v') (fun w' _ => by simp only [execOp, ho, Option.map_some, Option.map_none, ez, Sem.run_bind, r1 w', Result.andThen_ok, Sem.run_pure]) (Lite.here hs (sv := .c (.suf i ver (m + n.toNat))) r2 h)
                  · exact h.elim
          · rename_i T xs heq
            rw [heq] at hx
            cases hsz : Nat.beq T.size ei.size with
            | false => rw [hsz] at h; exact h.elim
            | true =>
              rw [hsz] at h
              exact sl (hC.tys _ _ he) hti (Nat.eq_of_beq_eq_true hsz) hx h
          · exact h.elim
  case fieldAddr t x f =>
    cases ht : tyFind t C.tys with
    | none => rw [ht] at h; exact h.elim
    | some ti =>
      rw [ht] at h
      simp only at h
      cases hd : ti.desc <;> rw [hd] at h <;> simp only at h <;> try exact h.elim
      rename_i fs
      cases hf : fs[f]? with
      | none => rw [hf] at h; exact h.elim
      | some p =>
        obtain ⟨off, ft⟩ := p
        rw [hf] at h
        simp only at h
        cases hft : tyFind ft C.tys with
        | none => rw [hft] at h; exact h.elim
        | some fi =>
          rw [hft] at h
          simp only at h
          cases hz : Nat.beq fi.size 0 with
          | true => rw [hz] at h; exact h.elim
          | false =>
            rw [hz] at h
            simp only [cond_false] at h
            have hne : fi.size ≠ 0 := by intro e; rw [e] at hz; simp at hz
            obtain ⟨v, sv, r1, r2, r3⟩ := field_sound hd (hC.tys _ _ ht) hf (hC.tys _ _ hft) hne (hev x) h
            exact Lite.value (fun w' hw' => by simp only [execOp, ho, Sem.run_bind, r1 w', Result.andThen_ok, Sem.run_pure]) (Lite.here hs r2 r3)
  case field t x f =>
    cases ht : tyFind t C.tys with
    | none => rw [ht] at h; exact h.elim
    | some ti =>
      rw [ht] at h
      simp only at h
      have hti := (hC.tys _ _ ht).desc
      cases hd : ti.desc <;> rw [hd] at h hti <;> simp only at h <;> try exact h.elim
      rename_i fs
      obtain ⟨fields, u1, u2⟩ := hti
      have hx := hev x
      split at h
      · rename_i off ft cs e1 e2
        rw [e2] at hx
        obtain ⟨vs, hv, hr, h1⟩ := hx
        cases hft : tyFind ft C.tys with
        | none => rw [hft] at h; exact h.elim
        | some fi =>
          rw [hft] at h
          simp only at h
          cases hb : Nat.ble (off + fi.size) cs.length with
          | false => rw [hb] at h; exact h.elim
          | true =>
            rw [hb] at h
            obtain ⟨v, r1, r2⟩ := part_sound (P := P) (hC.tys _ _ hft) hr h1 (Nat.le_of_ble_eq_true hb)
            rw [← u2, List.getElem?_map] at e1
            cases hq : fields.toList[f]? with
            | none => rw [hq] at e1; simp at e1
            | some fld =>
              rw [hq] at e1
              simp only [Option.map_some, Option.some.injEq, Prod.mk.injEq] at e1
              have hq' : fields[f]? = some fld := by simpa using hq
              refine Lite.value (v := v) ?_ (Lite.here hs r2 h)
              rw [← e1.1, ← e1.2] at r1
              simp [execOp, ho, Instr.field, run_underlying u1, hq', hv, asAgg, r1]
      · exact h.elim
  case indexAddr t x i =>
    cases ht : tyFind t C.tys with
    | none => rw [ht] at h; exact h.elim
    | some ti =>
      rw [ht] at h
      simp only at h
      have hti := (hC.tys _ _ ht).desc
      cases hd : ti.desc <;> rw [hd] at h hti <;> simp only at h <;> try exact h.elim
      rotate_left
      · rename_i len e
        have hu : P.underlying t = some (.array len e) := hti
        have go : ∀ (k : IntKind) (z : Int) (n : Nat) {ei : TI}, tyFind e C.tys = some ei → a.eval i = .int k z → z = (n : Int) → n < len → fieldS (n * ei.size) (ev x) H (fun v => K v H) → Lite P o a w H g K := by
          intro k z n ei he e1 hz hlt h
          subst hz
          obtain ⟨ad, sv, r1, r2, r3⟩ := place_sound (hev x) h
          refine Lite.value (v := .pointer (some (ad.add (n * ei.size)))) (fun w' hw' => ?_) (Lite.here hs r2 r3)
          have h0 : (0 : Int) ≤ Int.ofNat n := Int.natCast_nonneg n
          have h1 : (Int.ofNat n) < (len : Int) := Int.ofNat_lt.2 hlt
          simp [execOp, ho, r1, e1, Instr.indexAt, run_underlying hu, asIntOf, Instr.sureAddr, hlt, (hC.tys _ _ he).sizeOf]
        cases hsym : ti.sym with
        | true =>
          rw [hsym] at h
          simp only [cond_true] at h
          split at h
          · rename_i k z hi
            have hvi := hev i
            rw [hi] at hvi
            have e1 : a.eval i = .int k z := hvi
            cases he : tyFind e C.tys with
            | none => rw [he] at h; exact h.elim
            | some ei =>
              rw [he] at h
              simp only at h
              obtain ⟨⟨z0, z1⟩, h⟩ := h
              have hz : z = (z.toNat : Int) := by omega
              exact go k z z.toNat he e1 hz (by omega) (casesN_get len h z.toNat (by omega) hz)
          · exact h.elim
        | false =>
        rw [hsym] at h
        simp only [cond_false] at h
        split at h
        · rename_i k n hi
          have hvi := hev i
          rw [hi] at hvi
          have e1 : a.eval i = .int k (.ofNat n) := hvi
          cases he : tyFind e C.tys with
          | none => rw [he] at h; exact h.elim
          | some ei =>
            rw [he] at h
            simp only at h
            cases hb : Nat.blt n len with
            | false => rw [hb] at h; exact h.elim
            | true =>
              rw [hb] at h
              simp only [cond_true] at h
              exact go k (.ofNat n) n he e1 rfl (Nat.le_of_ble_eq_true hb) h
        · exact h.elim
      rename_i e
      cases he : tyFind e C.tys with
      | none => rw [he] at h; exact h.elim
      | some ei =>
        rw [he] at h
        obtain ⟨v, sv, r1, r2, r3⟩ := index_sound hs hti (hC.tys _ _ he) (hev x) (hev i) h
        exact Lite.value (fun w' hw' => by simp only [execOp, ho, Sem.run_bind, r1 w', Result.andThen_ok, Sem.run_pure]) (Lite.here hs r2 r3)
  case index t x i =>
    cases ht : tyFind t C.tys with
    | none => rw [ht] at h; exact h.elim
    | some ti =>
      rw [ht] at h
      simp only at h
      have hti := (hC.tys _ _ ht).desc
      have hx := hev x
      have hi := hev i
      split at h
      · rename_i s k n e1 e2 e3
        rw [e1] at hti
        rw [e2] at hx
        rw [e3] at hi
        have ex : a.eval x = .string s := hx
        have ei : a.eval i = .int k n := hi
        have hu : P.underlying t = some .string := hti
        obtain ⟨⟨h0, h1⟩, h⟩ := h
        have hlt : n.toNat < s.size := by omega
        refine Lite.value (v := .int .u8 (bt s n.toNat)) ?_ (Lite.here hs (sv := .c (.int .u8 (bt s n.toNat))) rfl h)
        have hlt' : n.toNat < s.data.size := hlt
        have hb : s[n.toNat]? = some s[n.toNat] := getElem?_pos s n.toNat hlt
        have hbt : bt s n.toNat = ((s[n.toNat]).toNat : Int) := by
          unfold bt
          rw [Array.getElem?_eq_getElem hlt']
          rfl
        simp [execOp, ho, ex, ei, Instr.index, run_underlying hu, asIntOf, h0, hb, hbt]
      · rename_i len e cs k z e1 e2 e3
        rw [e1] at hti
        rw [e2] at hx
        rw [e3] at hi
        obtain ⟨vs, ex, hr, hone⟩ := hx
        have hu : P.underlying t = some (.array len e) := hti
        cases hsym : ti.sym with
        | true =>
          rw [hsym] at h
          simp only [cond_true] at h
          have ei : a.eval i = .int k z := hi
          cases he : tyFind e C.tys with
          | none => rw [he] at h; exact h.elim
          | some ei' =>
            rw [he] at h
            simp only at h
            obtain ⟨⟨z0, z1⟩, h⟩ := h
            obtain ⟨n, rfl⟩ : ∃ n : Nat, z = (n : Int) := ⟨z.toNat, by omega⟩
            have hlt : n < len := by omega
            have h := casesN_get len h n hlt rfl
            cases hb : (Nat.ble (n * ei'.size + ei'.size) cs.length) with
            | false => rw [hb] at h; exact h.elim
            | true =>
              rw [hb] at h
              obtain ⟨v, r1, r2⟩ := part_sound (P := P) (hC.tys _ _ he) hr hone (Nat.le_of_ble_eq_true hb)
              refine Lite.value (v := v) ?_ (Lite.here hs r2 h)
              simp [execOp, ho, ex, ei, Instr.index, run_underlying hu, asIntOf, hlt, (hC.tys _ _ he).sizeOf, r1]
        | false =>
        rw [hsym] at h
        simp only [cond_false] at h
        split at h
        rotate_left
        · exact h.elim
        rename_i n
        have ei : a.eval i = .int k (Int.ofNat n) := hi
        cases he : tyFind e C.tys with
        | none => rw [he] at h; exact h.elim
        | some ei' =>
          rw [he] at h
          simp only at h
          cases hb : (Nat.blt n len && Nat.ble (n * ei'.size + ei'.size) cs.length) with
          | false => rw [hb] at h; exact h.elim
          | true =>
            rw [hb] at h
            rw [Bool.and_eq_true] at hb
            have hlt : n < len := by have := hb.1; simpa [Nat.blt_eq] using this
            obtain ⟨v, r1, r2⟩ := part_sound (P := P) (hC.tys _ _ he) hr hone (Nat.le_of_ble_eq_true hb.2)
            refine Lite.value (v := v) ?_ (Lite.here hs r2 h)
            simp [execOp, ho, ex, ei, Instr.index, run_underlying hu, asIntOf, hlt, (hC.tys _ _ he).sizeOf, r1]
      · exact h.elim
  case lookup t m k ok =>
    obtain ⟨a', et, kt, e, hu, hk, ei, hei, ha, het, h⟩ := mapTy_sound hC.tys h
    obtain ⟨v, sv, r1, r2, r3⟩ := look_sound hs hu hk hei ha het ok (hev m) (hev k) h
    refine Lite.value (v := v) (fun w' hw' => ?_) (Lite.here hs r2 r3)
    have hl : Later w w' := hw'.resolve_left (by rw [ho]; exact Bool.false_ne_true)
    simp only [execOp, ho, Sem.run_bind, r1 w' hl, Result.andThen_ok, Sem.run_pure]
  case extract x i =>
    have hx := hev x
    split at h
    · rename_i l heq
      rw [heq] at hx
      obtain ⟨vs, e, hl, hr⟩ := hx
      cases hp : l[i]? with
      | none => rw [hp] at h; exact h.elim
      | some p =>
        rw [hp] at h
        have hi : i < vs.length := by rw [hl]; exact (List.getElem?_eq_some_iff.1 hp).1
        obtain ⟨us, q1, q2, q3⟩ := hr i p _ hp (List.getElem?_eq_getElem hi)
        refine Lite.value (v := vs[i]) ?_ (Lite.here hs (mkV_rep q1 q2 q3) h)
        simp [execOp, ho, e, Instr.extract, hi]
    · exact h.elim
  case call c =>
    simp only [lightOp] at hl
    cases hcal : c.callee <;> rw [hcal] at h hl <;> simp only at h hl <;> try cases hl
    rename_i b
    have hb : b = .len ∨ b = .max ∨ b = .min := by cases b <;> simp at hl ⊢
    refine builtin_light (type := o.type) (consts := c.args.map fun | .const _ => true | _ => false) hC hs hb (args_rep hev c.args.toList) (fun v w' hr => ?_) h
    have hargs : (c.args.toList.map a.eval).toArray = c.args.map a.eval := by apply Array.toList_inj.1; rw [Array.toList_map]
    rw [hargs] at hr
    have htys : c.argTypes.toList.toArray = c.argTypes := by simp
    rw [htys] at hr
    simp only [execOp, ho, resolve, hcal, Sem.run_bind, Sem.run_pure, Result.andThen_ok, invoke]
    exact hr

/-- The others. -/
theorem opStep_heavy (hC : CtxOK P C) {o : Oper} {a : Act} (hs : Sat B X w0 H g w) {ev : Operand → SV} (hev : ∀ x, (ev x).Rep w H g (a.eval x)) {K : SV → List Ent → Prop}
    (hli : lightOp o.op = false) (h : opStep C o.op ev H K) : Runs P o a w (Post B X w0 K w H g) := by
  have hmap : ∀ (l : List (Nat × Operand)), (l.map fun p => (p.1, ev p.2)).map Prod.fst = (l.map fun p => (p.1, a.eval p.2)).map Prod.fst ∧
      ∀ (j : Nat) (p : Nat × SV) (q : Nat × Value), (l.map fun p => (p.1, ev p.2))[j]? = some p → (l.map fun p => (p.1, a.eval p.2))[j]? = some q → p.2.Rep w H g q.2 := by
    intro l
    refine ⟨by simp [List.map_map, Function.comp_def], fun j p q h1 h2 => ?_⟩
    rw [List.getElem?_map] at h1 h2
    cases hj : l[j]? with
    | none => rw [hj] at h1; simp at h1
    | some r => rw [hj] at h1 h2; simp at h1 h2; subst h1; subst h2; exact hev _
  cases ho : o.op <;> rw [ho] at h hli <;> simp only [opStep] at h <;> try (first | exact h.elim | exact Bool.noConfusion hli)
  case alloc e =>
    cases ht : tyFind e C.tys with
    | none => rw [ht] at h; exact h.elim
    | some ti =>
      rw [ht] at h
      have hti := hC.tys _ _ ht
      obtain ⟨z, z1, z2, _⟩ := hti.zero (w := w)
      obtain ⟨g', b1, b2, b3⟩ := new_blk hs e (reps_zero ti.zero) hti.one
      refine Runs.value (w' := w.alloc (.cells ti.zero.toArray e)) (v := .pointer (some ⟨w.heap.size, 0, none⟩)) ?_ ⟨_, _, g', h, b1, b2, ⟨by simp, by rw [b3]⟩⟩
      simp [execOp, ho, Instr.alloc, z1, newVar, newRow, ← z2]
  case box e x =>
    cases hc : (ev x).cells with
    | none => rw [hc] at h; exact h.elim
    | some l =>
      rw [hc] at h
      obtain ⟨r1, r2⟩ := SV.cells_rep hc (hev x)
      obtain ⟨g', b1, b2, b3⟩ := new_blk hs e r1 r2
      refine Runs.value (w' := w.alloc (.cells (a.eval x).cells.toList.toArray e)) (v := .pointer (some ⟨w.heap.size, 0, none⟩)) ?_ ⟨_, _, g', h, b1, b2, ⟨by simp, by rw [b3]⟩⟩
      simp [execOp, ho, Instr.box, newVar, newRow]
  case buildSlice t n parts =>
    cases ht : tyFind t C.tys with
    | none => rw [ht] at h; exact h.elim
    | some ti =>
      rw [ht] at h
      simp only at h
      have hti := hC.tys _ _ ht
      cases hd : ti.desc <;> rw [hd] at h <;> simp only at h <;> try exact h.elim
      rename_i e
      cases he : tyFind e C.tys with
      | none => rw [he] at h; exact h.elim
      | some ei =>
        rw [he] at h
        simp only at h
        cases het : ei.ty with
        | none => rw [het] at h; exact h.elim
        | some et =>
          rw [het] at h
          simp only at h
          cases hn : Nat.ble (n * ei.size) 10000 with
          | false => rw [hn] at h; exact h.elim
          | true =>
            rw [hn] at h
            simp only [cond_true] at h
            cases hf : fillS (fun j => some (j * ei.size, ei.size)) (parts.toList.map fun p => (p.1, ev p.2)) (rep0 n (ei.zero.map constSC)) with
            | none => rw [hf] at h; exact h.elim
            | some cs =>
              rw [hf] at h
              obtain ⟨m1, m2⟩ := hmap parts.toList
              obtain ⟨v, w1, r1, r2, _⟩ := buildSlice_sound hC.tys hs hti hd he het (Nat.le_of_ble_eq_true hn) m1 m2 hf h
              refine Runs.value ?_ r2
              have hp : (parts.map fun (x : Nat × Operand) => (x.1, a.eval x.2)) = (parts.toList.map fun p => (p.1, a.eval p.2)).toArray := by apply Array.toList_inj.1; rw [Array.toList_map]
              simp only [execOp, ho, hp, Sem.run_bind, r1, Result.andThen_ok, Sem.run_pure]
  case store t x y =>
    cases ht : tyFind t C.tys with
    | none => rw [ht] at h; exact h.elim
    | some ti =>
      rw [ht] at h
      simp only at h
      split at h
      · rename_i i ver n heq
        have hy := hev y
        rw [heq] at hy
        obtain ⟨h1y, hy⟩ := hy
        unfold PreRep at hy
        cases hei : H[i]? with
        | none => rw [hei] at h; exact h.elim
        | some en =>
          rw [hei] at h hy
          cases en with
          | dead => exact h.elim
          | blk => exact h.elim
          | tab => exact h.elim
          | iter => exact h.elim
          | row e T ver' xs =>
            simp only at h hy
            cases hb : Nat.beq ver ver' with
            | false => rw [hb] at h; exact h.elim
            | true =>
              rw [hb] at h
              simp only [cond_true] at h
              have hver := Nat.eq_of_beq_eq_true hb
              obtain ⟨hn, A, len, cap, hg0, hv⟩ := hy.2 hver
              obtain ⟨cells, ho0, hE, hone, hmine⟩ := hs.ents i _ hei
              obtain ⟨cells', p1, p2, p3, p4⟩ := row_prefix ho0 hE hone hn hg0 hv
              have hil : i < H.length := (List.getElem?_eq_some_iff.1 hei).1
              have hlt : (xs.take n).length = n := by simp; omega
              obtain ⟨b1, b2⟩ := Sat.upd (g1 := ⟨g.b, fun k => if k = i then a.eval y else g.v k, g.ok⟩) (w1 := w) hs i _ (.row e T (ver + 1) (xs.take n)) hei rfl (fun _ => rfl) (fun k hk => if_neg hk) rfl rfl rfl (Nat.le_refl _)
                (fun b _ _ => rfl) (fun b hb => by
                  simp only [Ent.blocks, if_true] at hb
                  left; show (g.v i).ownBlock = some b; rw [← p4]; exact hb)
                (fun e t v x he => by cases he; exact ⟨ver', xs, rfl, .inl (by omega)⟩)
                (fun hev' => ⟨cells', by simp only [if_true, hlt]; exact p1, p2.mono (fun _ _ h => Ty.Rep.mono hev'.keeps T h) (fun _ _ h => h), p3, fun b hb => by
                  simp only [if_true] at hb
                  rw [p4] at hb
                  exact hmine b hb⟩)
              have hown : (SV.c (.own i (ver + 1))).Rep w (H.set i (.row e T (ver + 1) (xs.take n))) ⟨g.b, fun k => if k = i then a.eval y else g.v k, g.ok⟩ (a.eval y) :=
                own_rep (w := w) (e := e) (T := T) (xs := xs.take n) (List.getElem?_set_self hil) (if_pos rfl) h1y
              obtain ⟨w1, H1, g1, r1, r2, r3, r4⟩ := store_sound b1 (hC.tys _ _ ht) ((hev x).evo b2) hown h
              exact Runs.skip (w' := w1) (by simp only [execOp, ho, Sem.run_bind, r1, Result.andThen_ok, Sem.run_pure]) ⟨_, H1, g1, r2, r3, b2.trans r4, trivial⟩
      · obtain ⟨w1, H1, g1, r1, r2, r3, r4⟩ := store_sound hs (hC.tys _ _ ht) (hev x) (hev y) h
        exact Runs.skip (w' := w1) (by simp only [execOp, ho, Sem.run_bind, r1, Result.andThen_ok, Sem.run_pure]) ⟨_, H1, g1, r2, r3, r4, trivial⟩
  case makeMap t res =>
    cases res with
    | some _ => exact h.elim
    | none =>
      obtain ⟨a', et, kt, e, hu, hk, ei, hei, ha, het, h⟩ := mapTy_sound hC.tys h
      obtain ⟨g', b1, b2, b3⟩ := new_tab hs a' et
      refine Runs.value (w' := w.alloc (.map #[] 0)) (v := .map (some w.heap.size)) ?_ ⟨_, _, g', h, b1, b2, ⟨by simp, by rw [b3]⟩⟩
      simp [execOp, ho, Instr.makeMap]
  case mapUpdate t m k y =>
    obtain ⟨a', et, kt, e, hu, hk, ei, hei, ha, het, h⟩ := mapTy_sound hC.tys h
    have hm := hev m
    have hkk := hev k
    have hy := hev y
    split at h
    · rename_i i n e1 e2
      rw [e1] at hm
      rw [e2] at hkk
      cases hi : H[i]? with
      | none => rw [hi] at h; exact h.elim
      | some en =>
        rw [hi] at h
        cases en with
        | dead => exact h.elim
        | blk => exact h.elim
        | row => exact h.elim
        | iter => exact h.elim
        | tab a2 t2 es =>
          simp only at h
          cases hb : (a' == a2 && noIter i H) with
          | false => rw [hb] at h; exact h.elim
          | true =>
            rw [hb] at h
            simp only [cond_true] at h
            rw [Bool.and_eq_true] at hb
            have haa : a' = a2 := by simpa using hb.1
            subst haa
            split at h
            · rename_i htt
              subst htt
              obtain ⟨x, H1, d2, d3, d3', d6, d8⟩ := elem_sound hs hy h
              rcases d3' i with hi1 | hi1
              · rw [hi] at hi1
                rw [hi1] at d8
                obtain ⟨w1, u1, u2, u3⟩ := upd_sound (P := P) d2 hu hk hi1 (noIter_mono d3' hb.2) (n := n) d6
                have em : a.eval m = .map (some (g.b i)) := hm.2
                have ek : a.eval k = .int .i64 n := hkk
                exact Runs.skip (w' := w1) (by simp only [execOp, ho, em, ek, Sem.run_bind, u1, Result.andThen_ok, Sem.run_pure]) ⟨_, _, g, d8, u2, d3.trans u3, trivial⟩
              · rw [hi1] at d8; exact d8.elim
            · exact h.elim
    · exact h.elim
  case range t m =>
    obtain ⟨a', et, kt, e, hu, hk, ei, hei, ha, het, h⟩ := mapTy_sound hC.tys h
    have hm := hev m
    split at h
    · rename_i i e1
      rw [e1] at hm
      obtain ⟨hil, em⟩ := hm
      cases hi : H[i]? with
      | none => rw [hi] at h; exact h.elim
      | some en =>
        rw [hi] at h
        cases en with
        | dead => exact h.elim
        | blk => exact h.elim
        | row => exact h.elim
        | iter => exact h.elim
        | tab a2 t2 es =>
          simp only at h
          cases hb : (a' == a2) with
          | false => rw [hb] at h; exact h.elim
          | true =>
            rw [hb] at h
            simp only [cond_true] at h
            have haa : a' = a2 := by simpa using hb
            subst haa
            split at h
            · rename_i htt
              subst htt
              obtain ⟨w1, g', r1, r2, r3, r4⟩ := range_sound (P := P) hs hu hi
              refine Runs.value (w' := w1) (v := .pointer (some ⟨w.heap.size, 0, none⟩)) ?_ ⟨_, _, g', h, r2, r3, ⟨by simp, by rw [r4]⟩⟩
              simp only [execOp, ho, em, Sem.run_bind, r1, Result.andThen_ok, Sem.run_pure]
            · exact h.elim
    · exact h.elim
  case next it str =>
    cases str with
    | true => simp only at h
    | false =>
      simp only at h
      have hm := hev it
      split at h
      · rename_i n e1
        rw [e1] at hm
        obtain ⟨hnl, em⟩ := hm
        cases hn : H[n]? with
        | none => rw [hn] at h; exact h.elim
        | some en =>
          rw [hn] at h
          cases en with
          | dead => exact h.elim
          | blk => exact h.elim
          | row => exact h.elim
          | tab => exact h.elim
          | iter i a2 t2 left cur =>
            simp only at h
            obtain ⟨hA, hB⟩ := h
            rcases next_sound (P := P) (ty := o.type) hs hn with ⟨l0, r1, r2, r3⟩ | ⟨k, p, v, w1, f1, r1, r2, r3, r4⟩
            · refine Runs.value (w' := w) (v := .tuple #[.bool false]) ?_ ⟨_, _, g, hA l0, r2, r3, ?_⟩
              · simp only [execOp, ho, em, Sem.run_bind, r1, Result.andThen_ok, Sem.run_pure]
              · exact ⟨[.bool false], rfl, rfl, fun j q u h1 h2 => comp_one (by rfl) (by rfl) h1 h2⟩
            · refine Runs.value (w' := w1) (v := .tuple #[.bool true, .int .i64 p.1, v]) ?_ ⟨_, _, g, hB k p f1, r2, r3, ?_⟩
              · simp only [execOp, ho, em, Sem.run_bind, r1, Result.andThen_ok, Sem.run_pure]
              · obtain ⟨_, vs, k2, k3, k4⟩ := elem_rep r4
                refine ⟨[.bool true, .int .i64 p.1, v], rfl, rfl, fun j q u h1 h2 => ?_⟩
                match j, h1, h2 with
                | 0, h1, h2 =>
                  simp at h1 h2; subst h1; subst h2
                  exact ⟨[.bool true], ⟨rfl, fun j c v h1 h2 => by cases j with | zero => simp at h1 h2; subst h1; subst h2; rfl | succ j => simp at h1⟩, by simp [Value.oneCell'], by simp⟩
                | 1, h1, h2 =>
                  simp at h1 h2; subst h1; subst h2
                  exact ⟨[.int .i64 p.1], ⟨rfl, fun j c v h1 h2 => by cases j with | zero => simp at h1 h2; subst h1; subst h2; rfl | succ j => simp at h1⟩, by simp [Value.oneCell'], by simp⟩
                | 2, h1, h2 =>
                  simp at h1 h2; subst h1; subst h2
                  exact ⟨vs, k2, k3, k4⟩
                | j + 3, h1, _ => simp at h1
      · exact h.elim
  case entry it =>
    have hm := hev it
    split at h
    · rename_i n e1
      rw [e1] at hm
      obtain ⟨hnl, em⟩ := hm
      split at h
      · rename_i i a2 t2 left p hn
        obtain ⟨v, r1, r4⟩ := entry_sound (P := P) hs hn
        refine Runs.value (w' := w) (v := .tuple #[.int .i64 p.1, v]) ?_ ⟨_, H, g, h, hs, Evo.refl _ _ _, ?_⟩
        · simp only [execOp, ho, em, Sem.run_bind, r1, Result.andThen_ok, Sem.run_pure]
        · obtain ⟨_, vs, k2, k3, k4⟩ := elem_rep r4
          refine ⟨[.int .i64 p.1, v], rfl, rfl, fun j q u h1 h2 => ?_⟩
          match j, h1, h2 with
          | 0, h1, h2 =>
            simp at h1 h2; subst h1; subst h2
            exact ⟨[.int .i64 p.1], ⟨rfl, fun j c v h1 h2 => by cases j with | zero => simp at h1 h2; subst h1; subst h2; rfl | succ j => simp at h1⟩, by simp [Value.oneCell'], by simp⟩
          | 1, h1, h2 =>
            simp at h1 h2; subst h1; subst h2
            exact ⟨vs, k2, k3, k4⟩
          | j + 2, h1, _ => simp at h1
      · exact h.elim
    · exact h.elim
  case makeSlice t l c =>
    cases ht : tyFind t C.tys with
    | none => rw [ht] at h; exact h.elim
    | some ti =>
      rw [ht] at h
      simp only at h
      have hti := (hC.tys _ _ ht).desc
      cases hd : ti.desc <;> rw [hd] at h hti <;> simp only at h <;> try exact h.elim
      rename_i e
      have hu : P.underlying t = some (.slice e) := hti
      cases he : tyFind e C.tys with
      | none => rw [he] at h; exact h.elim
      | some ei =>
        rw [he] at h
        simp only at h
        have hl := hev l
        have hc := hev c
        split at h
        · rename_i et k1 n k2 m e1 e2 e3
          rw [e2] at hl
          rw [e3] at hc
          have hl' : a.eval l = .int k1 n := hl
          have hc' : a.eval c = .int k2 m := hc
          cases hb : Nat.ble ei.bytes 100000 with
          | false => rw [hb] at h; exact h.elim
          | true =>
            rw [hb] at h
            obtain ⟨v, w1, r1, r2, _⟩ := make_sound (kl := k1) (kc := k2) hs hu (hC.tys _ _ he) e1 (Nat.le_of_ble_eq_true hb) h.1 h.2
            exact Runs.value (by simp only [execOp, ho, hl', hc', Sem.run_bind, r1, Result.andThen_ok, Sem.run_pure]) r2
        · exact h.elim
  case call c =>
    cases hcal : c.callee <;> rw [hcal] at h <;> simp only at h <;> try exact h.elim
    case value f =>
      have hf := hev f
      split at h
      · rename_i fid caps heq
        rw [heq] at hf
        obtain ⟨hf1, hf2⟩ := hf
        cases hsp : specFind fid C.fns with
        | none => rw [hsp] at h; exact h.elim
        | some s =>
          rw [hsp] at h
          obtain ⟨⟨fn, p1, p2, p3⟩, hspec⟩ := hC.fns _ _ hsp
          have hargs : ArgsRep w H g (c.args.toList.map ev ++ caps.map fun i => .c (.ptr i 0)) (c.args.toList.map a.eval ++ caps.map fun i => Value.pointer (some ⟨g.b i, 0, none⟩)) := by
            obtain ⟨q1, q2⟩ := args_rep hev c.args.toList
            refine ⟨by simp, fun j x v h1 h2 => ?_⟩
            rcases Nat.lt_or_ge j c.args.toList.length with hj | hj
            · rw [List.getElem?_append_left (by simpa using hj)] at h1 h2
              exact q2 j x v h1 h2
            · rw [List.getElem?_append_right (by simpa using hj), List.getElem?_map] at h1 h2
              simp only [List.length_map] at h1 h2
              cases hq : caps[j - c.args.toList.length]? with
              | none => rw [hq] at h1; simp at h1
              | some m =>
                rw [hq] at h1 h2
                simp at h1 h2
                subst h1; subst h2
                exact ⟨hf2 m (List.mem_of_getElem? hq), rfl⟩
          have hcalls := hspec B X w0 H g w _ _ K h hs hargs
          refine Runs.enter ?_ hcalls
          have hal : (#[] ++ c.args.map a.eval) ++ (caps.map fun i => Value.pointer (some ⟨g.b i, 0, none⟩)).toArray = (c.args.toList.map a.eval ++ caps.map fun i => Value.pointer (some ⟨g.b i, 0, none⟩)).toArray := by
            apply Array.toList_inj.1
            simp
          rw [← hal]
          simp only [execOp, ho, resolve, hcal, hf1, Deferred.ofValue, Sem.run_bind, Sem.run_pure, Result.andThen_ok, invoke, run_callFunc p1 p2 p3]
      · rename_i fid bs heq
        rw [heq] at hf
        obtain ⟨hf1, hf2⟩ := hf
        cases hsp : specFind fid C.fns with
        | none => rw [hsp] at h; exact h.elim
        | some s =>
          rw [hsp] at h
          obtain ⟨⟨fn, p1, p2, p3⟩, hspec⟩ := hC.fns _ _ hsp
          have hargs := bound_args hev (w := w) (H := H) (g := g) c.args.toList bs hf2
          have hcalls := hspec B X w0 H g w _ _ K h hs hargs
          refine Runs.enter ?_ hcalls
          have hal : ((bs.map fun i => Value.pointer (some ⟨g.b i, 0, none⟩)).toArray ++ c.args.map a.eval) ++ #[] = ((bs.map fun i => Value.pointer (some ⟨g.b i, 0, none⟩)) ++ c.args.toList.map a.eval).toArray := by
            apply Array.toList_inj.1
            simp
          rw [← hal]
          simp only [execOp, ho, resolve, hcal, hf1, Deferred.ofValue, Sem.run_bind, Sem.run_pure, Result.andThen_ok, invoke, run_callFunc p1 p2 p3]
      · exact h.elim
    case builtin b =>
      have hargs : (c.args.toList.map a.eval).toArray = c.args.map a.eval := by apply Array.toList_inj.1; rw [Array.toList_map]
      have htys : c.argTypes.toList.toArray = c.argTypes := by simp
      have hb : b = .append ∨ b = .copy ∨ b = .delete := by
        simp only [lightOp, hcal] at hli
        cases b <;> simp at hli <;> simp only [builtinS] at h <;> first | (simp; done) | exact h.elim
      rcases hb with hb | hb | hb
      rotate_left
      · refine copy_op_sound (type := o.type) (consts := c.args.map fun | .const _ => true | _ => false) hC hs hb (args_rep hev c.args.toList) (fun v w' hr => ?_) h
        rw [hargs, htys] at hr
        simp only [execOp, ho, resolve, hcal, Sem.run_bind, Sem.run_pure, Result.andThen_ok, invoke]
        exact hr
      · refine delete_op_sound (type := o.type) (consts := c.args.map fun | .const _ => true | _ => false) hC hs hb (args_rep hev c.args.toList) (fun v w' hr => ?_) h
        rw [hargs, htys] at hr
        simp only [execOp, ho, resolve, hcal, Sem.run_bind, Sem.run_pure, Result.andThen_ok, invoke]
        exact hr
      refine append_op_sound (type := o.type) (consts := c.args.map fun | .const _ => true | _ => false) hC hs hb (args_rep hev c.args.toList) (fun v w' hr => ?_) h
      have hargs : (c.args.toList.map a.eval).toArray = c.args.map a.eval := by apply Array.toList_inj.1; rw [Array.toList_map]
      rw [hargs] at hr
      have htys : c.argTypes.toList.toArray = c.argTypes := by simp
      rw [htys] at hr
      simp only [execOp, ho, resolve, hcal, Sem.run_bind, Sem.run_pure, Result.andThen_ok, invoke]
      exact hr
/-- Those that change nothing that was there. -/
theorem opStep_keep (hC : CtxOK P C) {o : Oper} {a : Act} (hs : Sat B X w0 H g w) {ev : Operand → SV} (hev : ∀ x, (ev x).Rep w H g (a.eval x)) {K : SV → List Ent → Prop}
    (hli : keepOp C o.op = true) (h : opStep C o.op ev H K) : Runs P o a w fun v w' => Post B X w0 K w H g v w' ∧ Later w w' := by
  have hmap : ∀ (l : List (Nat × Operand)), (l.map fun p => (p.1, ev p.2)).map Prod.fst = (l.map fun p => (p.1, a.eval p.2)).map Prod.fst ∧
      ∀ (j : Nat) (p : Nat × SV) (q : Nat × Value), (l.map fun p => (p.1, ev p.2))[j]? = some p → (l.map fun p => (p.1, a.eval p.2))[j]? = some q → p.2.Rep w H g q.2 := by
    intro l
    refine ⟨by simp [List.map_map, Function.comp_def], fun j p q h1 h2 => ?_⟩
    rw [List.getElem?_map] at h1 h2
    cases hj : l[j]? with
    | none => rw [hj] at h1; simp at h1
    | some r => rw [hj] at h1 h2; simp at h1 h2; subst h1; subst h2; exact hev _
  cases ho : o.op <;> rw [ho] at h hli <;> simp only [opStep] at h <;> try (first | exact h.elim | exact Bool.noConfusion hli)
  case alloc e =>
    cases ht : tyFind e C.tys with
    | none => rw [ht] at h; exact h.elim
    | some ti =>
      rw [ht] at h
      have hti := hC.tys _ _ ht
      obtain ⟨z, z1, z2, _⟩ := hti.zero (w := w)
      obtain ⟨g', b1, b2, b3⟩ := new_blk hs e (reps_zero ti.zero) hti.one
      refine Runs.value (w' := w.alloc (.cells ti.zero.toArray e)) (v := .pointer (some ⟨w.heap.size, 0, none⟩)) ?_ ⟨⟨_, _, g', h, b1, b2, ⟨by simp, by rw [b3]⟩⟩, Later.alloc w _⟩
      simp [execOp, ho, Instr.alloc, z1, newVar, newRow, ← z2]
  case box e x =>
    cases hc : (ev x).cells with
    | none => rw [hc] at h; exact h.elim
    | some l =>
      rw [hc] at h
      obtain ⟨r1, r2⟩ := SV.cells_rep hc (hev x)
      obtain ⟨g', b1, b2, b3⟩ := new_blk hs e r1 r2
      refine Runs.value (w' := w.alloc (.cells (a.eval x).cells.toList.toArray e)) (v := .pointer (some ⟨w.heap.size, 0, none⟩)) ?_ ⟨⟨_, _, g', h, b1, b2, ⟨by simp, by rw [b3]⟩⟩, Later.alloc w _⟩
      simp [execOp, ho, Instr.box, newVar, newRow]
  case buildSlice t n parts =>
    cases ht : tyFind t C.tys with
    | none => rw [ht] at h; exact h.elim
    | some ti =>
      rw [ht] at h
      simp only at h
      have hti := hC.tys _ _ ht
      cases hd : ti.desc <;> rw [hd] at h <;> simp only at h <;> try exact h.elim
      rename_i e
      cases he : tyFind e C.tys with
      | none => rw [he] at h; exact h.elim
      | some ei =>
        rw [he] at h
        simp only at h
        cases het : ei.ty with
        | none => rw [het] at h; exact h.elim
        | some et =>
          rw [het] at h
          simp only at h
          cases hn : Nat.ble (n * ei.size) 10000 with
          | false => rw [hn] at h; exact h.elim
          | true =>
            rw [hn] at h
            simp only [cond_true] at h
            cases hf : fillS (fun j => some (j * ei.size, ei.size)) (parts.toList.map fun p => (p.1, ev p.2)) (rep0 n (ei.zero.map constSC)) with
            | none => rw [hf] at h; exact h.elim
            | some cs =>
              rw [hf] at h
              obtain ⟨m1, m2⟩ := hmap parts.toList
              obtain ⟨v, w1, r1, r2, rl⟩ := buildSlice_sound hC.tys hs hti hd he het (Nat.le_of_ble_eq_true hn) m1 m2 hf h
              refine Runs.value ?_ ⟨r2, rl⟩
              have hp : (parts.map fun (x : Nat × Operand) => (x.1, a.eval x.2)) = (parts.toList.map fun p => (p.1, a.eval p.2)).toArray := by apply Array.toList_inj.1; rw [Array.toList_map]
              simp only [execOp, ho, hp, Sem.run_bind, r1, Result.andThen_ok, Sem.run_pure]
  case makeSlice t l c =>
    cases ht : tyFind t C.tys with
    | none => rw [ht] at h; exact h.elim
    | some ti =>
      rw [ht] at h
      simp only at h
      have hti := (hC.tys _ _ ht).desc
      cases hd : ti.desc <;> rw [hd] at h hti <;> simp only at h <;> try exact h.elim
      rename_i e
      have hu : P.underlying t = some (.slice e) := hti
      cases he : tyFind e C.tys with
      | none => rw [he] at h; exact h.elim
      | some ei =>
        rw [he] at h
        simp only at h
        have hl := hev l
        have hc := hev c
        split at h
        · rename_i et k1 n k2 m e1 e2 e3
          rw [e2] at hl
          rw [e3] at hc
          have hl' : a.eval l = .int k1 n := hl
          have hc' : a.eval c = .int k2 m := hc
          cases hb : Nat.ble ei.bytes 100000 with
          | false => rw [hb] at h; exact h.elim
          | true =>
            rw [hb] at h
            obtain ⟨v, w1, r1, r2, rl⟩ := make_sound (kl := k1) (kc := k2) hs hu (hC.tys _ _ he) e1 (Nat.le_of_ble_eq_true hb) h.1 h.2
            exact Runs.value (by simp only [execOp, ho, hl', hc', Sem.run_bind, r1, Result.andThen_ok, Sem.run_pure]) ⟨r2, rl⟩
        · exact h.elim
  case call c =>
    cases hcal : c.callee <;> simp only [keepOp, hcal] at hli <;> rw [hcal] at h <;> simp only at h <;> try (first | exact h.elim | cases hli)
    case value f =>
      cases f <;> simp only at hli <;> try cases hli
      rename_i f0
      have hf := hev (.func f0)
      split at h
      · rename_i fid caps heq
        rw [heq] at hf
        obtain ⟨hf1, hf2⟩ := hf
        have hfid : fid = f0 := by
          have e := hf1
          simp [Act.eval] at e
          exact e.1.symm
        subst hfid
        cases hsp : specFind fid C.fns with
        | none => rw [hsp] at h; exact h.elim
        | some s =>
          rw [hsp] at h
          obtain ⟨⟨fn, p1, p2, p3⟩, _⟩ := hC.fns _ _ hsp
          have hargs : ArgsRep w H g (c.args.toList.map ev ++ caps.map fun i => .c (.ptr i 0)) (c.args.toList.map a.eval ++ caps.map fun i => Value.pointer (some ⟨g.b i, 0, none⟩)) := by
            obtain ⟨q1, q2⟩ := args_rep hev c.args.toList
            refine ⟨by simp, fun j x v h1 h2 => ?_⟩
            rcases Nat.lt_or_ge j c.args.toList.length with hj | hj
            · rw [List.getElem?_append_left (by simpa using hj)] at h1 h2
              exact q2 j x v h1 h2
            · rw [List.getElem?_append_right (by simpa using hj), List.getElem?_map] at h1 h2
              simp only [List.length_map] at h1 h2
              cases hq : caps[j - c.args.toList.length]? with
              | none => rw [hq] at h1; simp at h1
              | some m =>
                rw [hq] at h1 h2
                simp at h1 h2
                subst h1; subst h2
                exact ⟨hf2 m (List.mem_of_getElem? hq), rfl⟩
          have hcalls := hC.keeps _ _ hli hsp B X w0 H g w _ _ K h hs hargs
          refine Runs.enter ?_ hcalls
          have hal : (#[] ++ c.args.map a.eval) ++ (caps.map fun i => Value.pointer (some ⟨g.b i, 0, none⟩)).toArray = (c.args.toList.map a.eval ++ caps.map fun i => Value.pointer (some ⟨g.b i, 0, none⟩)).toArray := by
            apply Array.toList_inj.1
            simp
          rw [← hal]
          simp only [execOp, ho, resolve, hcal, hf1, Deferred.ofValue, Sem.run_bind, Sem.run_pure, Result.andThen_ok, invoke, run_callFunc p1 p2 p3]
      · rename_i fid bs heq
        rw [heq] at hf
        obtain ⟨hf1, hf2⟩ := hf
        have hfid : fid = f0 := by
          have e := hf1
          simp [Act.eval] at e
          exact e.1.symm
        subst hfid
        cases hsp : specFind fid C.fns with
        | none => rw [hsp] at h; exact h.elim
        | some s =>
          rw [hsp] at h
          obtain ⟨⟨fn, p1, p2, p3⟩, _⟩ := hC.fns _ _ hsp
          have hargs := bound_args hev (w := w) (H := H) (g := g) c.args.toList bs hf2
          have hcalls := hC.keeps _ _ hli hsp B X w0 H g w _ _ K h hs hargs
          refine Runs.enter ?_ hcalls
          have hal : ((bs.map fun i => Value.pointer (some ⟨g.b i, 0, none⟩)).toArray ++ c.args.map a.eval) ++ #[] = ((bs.map fun i => Value.pointer (some ⟨g.b i, 0, none⟩)) ++ c.args.toList.map a.eval).toArray := by
            apply Array.toList_inj.1
            simp
          rw [← hal]
          simp only [execOp, ho, resolve, hcal, hf1, Deferred.ofValue, Sem.run_bind, Sem.run_pure, Result.andThen_ok, invoke, run_callFunc p1 p2 p3]
      · exact h.elim
/-- The executor's operation stands for the model's. -/
theorem opStep_sound (hC : CtxOK P C) {o : Oper} {a : Act} (hs : Sat B X w0 H g w) {ev : Operand → SV} (hev : ∀ x, (ev x).Rep w H g (a.eval x)) {K : SV → List Ent → Prop}
    (h : opStep C o.op ev H K) : Runs P o a w (Post B X w0 K w H g) := by
  cases hli : lightOp o.op with
  | true =>
    obtain ⟨v, sv, r1, r2, r3⟩ := opStep_light hC hs hev hli h
    exact Runs.value (r1 w (.inr (Later.refl w))) (Post.here hs r2 r3)
  | false => exact opStep_heavy hC hs hev hli h
end
end Go.SX

/- SX, part K: the executor over code is sound. -/
namespace Go.SX
open Go Go.RowKit

/-- The start of a call: its world, its symbolic heap. -/
structure Ini where
  n : Nat
  B : Nat
  X : Nat → Prop
  w0 : World
  wi : World
  Hi : List Ent
  gi : Gh

structure Holds (I : Ini) (st : St) (a : Act) (w : World) : Prop where
  defers : a.defers = []
  size : a.tmps.size = st.n
  n : st.n = I.n
  sat : ∃ g, Sat I.B I.X I.w0 st.h g w ∧ Evo I.wi I.Hi I.gi w st.h g ∧ ∀ d, (findT d st.t).Rep w st.h g (a.tmps.getD d undef)

def Ex.toExit : Ex → Exit
  | .normal => .normal
  | .exit id => .exit id
  | .ret => .ret

def QR (I : Ini) (Q : Ex → St → Prop) : Exit → Act → World → Prop := fun e a w => ∃ x st, x.toExit = e ∧ Q x st ∧ Holds I st a w

section
variable {P : Program} {I : Ini} {C : Ctx}

theorem ev_rep {st : St} {a : Act} {w : World} {g : Gh} (ht : ∀ d, (findT d st.t).Rep w st.h g (a.tmps.getD d undef)) (x : Operand) : (st.ev x).Rep w st.h g (a.eval x) := by
  cases x with
  | tmp d => exact ht d
  | const v => exact rep_constSV v
  | global g => exact rfl
  | func f => exact ⟨rfl, fun i hi => by simp at hi⟩

theorem put_defers (a : Act) (d : Option Tmp) (v : Value) : (a.put d v).defers = a.defers := by cases d <;> rfl
theorem put_size (a : Act) (d : Option Tmp) (v : Value) : (a.put d v).tmps.size = a.tmps.size := by cases d <;> simp [Act.put]

theorem SV.tag_rep {w : World} {H : List Ent} {g : Gh} {d : Nat} {x : SV} {v : Value} (h : x.Rep w H g v) : (x.tag d).Rep w H g v := by
  unfold SV.tag
  split <;> exact h

theorem Holds.put {st : St} {a : Act} {w w' : World} {g g' : Gh} {H' : List Ent} (h1 : a.defers = []) (h2 : a.tmps.size = st.n) (hn : st.n = I.n) (hev0 : Evo I.wi I.Hi I.gi w st.h g) (ht : ∀ d, (findT d st.t).Rep w st.h g (a.tmps.getD d undef))
    (hs : Sat I.B I.X I.w0 H' g' w') (hev : Evo w st.h g w' H' g') {sv : SV} {v : Value} (hr : sv.Rep w' H' g' v) (dst : Option Tmp) : Holds I (st.put dst sv H') (a.put dst v) w' := by
  have hold : ∀ d, (findT d st.t).Rep w' H' g' (a.tmps.getD d undef) := fun d => (ht d).evo hev
  cases dst with
  | none => exact ⟨h1, h2, hn, g', hs, hev0.trans hev, hold⟩
  | some d =>
    refine ⟨by rw [put_defers]; exact h1, ?_, ?_, g', ?_, ?_, fun k => ?_⟩
    · rw [put_size, h2]; simp only [St.put]; cases Nat.blt d st.n <;> rfl
    · simp only [St.put]; cases Nat.blt d st.n <;> exact hn
    · simp only [St.put]; cases Nat.blt d st.n <;> exact hs
    · simp only [St.put]; cases Nat.blt d st.n <;> exact hev0.trans hev
    · have hget : (a.put (some d) v).tmps.getD k undef = if d = k ∧ d < a.tmps.size then v else a.tmps.getD k undef := by
        simp only [Act.put, Array.getD_eq_getD_getElem?, Array.getElem?_setIfInBounds]
        by_cases hdk : d = k
        · subst hdk
          by_cases hd : d < a.tmps.size
          · simp [hd]
          · simp [hd]
        · simp [hdk]
      rw [hget]
      simp only [St.put]
      cases hb : Nat.blt d st.n with
      | false =>
        have hge : ¬ d < a.tmps.size := by
          rw [h2]; intro hlt
          have : Nat.blt d st.n = true := by simpa [Nat.blt_eq] using hlt
          rw [hb] at this; cases this
        rw [if_neg (fun h => hge h.2)]
        exact hold k
      | true =>
        have hlt : d < a.tmps.size := by rw [h2]; simpa [Nat.blt_eq] using hb
        simp only [cond_true, findT]
        cases hdk : Nat.beq d k with
        | true =>
          have := Nat.eq_of_beq_eq_true hdk
          rw [if_pos ⟨this, hlt⟩]
          exact SV.tag_rep hr
        | false =>
          have : ¬ d = k := Nat.ne_of_beq_eq_false hdk
          rw [if_neg (fun h => this h.1)]
          exact hold k

theorem assumeT_sound {w : World} {H : List Ent} {g : Gh} (id : Nat) (b : Bool) : (t : List (Nat × SV)) → {K : List (Nat × SV) → Prop} → assumeT id b t K → ∃ t', K t' ∧ ∀ (d : Nat) (v : Value), (findT d t).Rep w H g v → (findT d t').Rep w H g v
  | [], K, h => ⟨[], h, fun _ _ h => h⟩
  | (k, sv) :: r, K, h => by
    have keep : ∀ sv', (∀ v, sv.Rep w H g v → sv'.Rep w H g v) → assumeT id b r (fun r => K ((k, sv') :: r)) → ∃ t', K t' ∧ ∀ (d : Nat) (v : Value), (findT d ((k, sv) :: r)).Rep w H g v → (findT d t').Rep w H g v := by
      intro sv' hsv h
      obtain ⟨t', h1, h2⟩ := assumeT_sound id b r h
      refine ⟨(k, sv') :: t', h1, fun d v hv => ?_⟩
      unfold findT at hv ⊢
      cases hk : Nat.beq k d with
      | true => rw [hk] at hv; exact hsv v hv
      | false => rw [hk] at hv; exact h2 d v hv
    unfold assumeT at h
    split at h
    · rename_i i p dp
      cases hi : Nat.beq i id with
      | false => rw [hi] at h; exact keep _ (fun _ h => h) h
      | true =>
        rw [hi] at h
        obtain ⟨hp, h⟩ := h
        refine keep (.c (.kb b)) (fun v hv => ?_) h
        have e : v = .bool (@decide p dp) := hv
        rw [e]
        show Value.bool _ = Value.bool _
        congr 1
        cases b with
        | true => exact decide_eq_true (p := p) hp
        | false => exact decide_eq_false (p := p) hp
    · rename_i i x
      cases hi : Nat.beq i id with
      | false => rw [hi] at h; exact keep _ (fun _ h => h) h
      | true =>
        rw [hi] at h
        obtain ⟨hp, h⟩ := h
        refine keep (.c (.kb b)) (fun v hv => ?_) h
        have e : v = .bool x := hv
        rw [e, hp]; rfl
    · exact keep _ (fun _ h => h) h

theorem assumeS_sound {st : St} {a : Act} {w : World} (hh : Holds I st a w) (id : Nat) (b : Bool) {K : St → Prop} (h : assumeS id b st K) : ∃ st', K st' ∧ Holds I st' a w ∧ st'.n = st.n := by
  unfold assumeS at h
  split at h
  · exact ⟨st, h, hh, rfl⟩
  · obtain ⟨h1, h2, hn, g, hs, hev, ht⟩ := hh
    obtain ⟨t', k1, k2⟩ := assumeT_sound (w := w) (H := st.h) (g := g) _ b st.t h
    exact ⟨_, k1, ⟨h1, h2, hn, g, hs, hev, fun d => k2 d _ (ht d)⟩, rfl⟩

theorem condS_sound {st : St} {a : Act} {w : World} (hh : Holds I st a w) {sv : SV} {v : Value} (hr : ∀ g, Sat I.B I.X I.w0 st.h g w → (∀ d, (findT d st.t).Rep w st.h g (a.tmps.getD d undef)) → sv.Rep w st.h g v) {A B : St → Prop} (h : sv.condS st A B) :
    ∃ b, v = .bool b ∧ (b = true → ∃ st', A st' ∧ Holds I st' a w ∧ st'.n = st.n) ∧ (b = false → ∃ st', B st' ∧ Holds I st' a w ∧ st'.n = st.n) := by
  have hh0 := hh
  obtain ⟨_, _, _, g, hs, _, ht⟩ := hh
  replace hr := hr g hs ht
  unfold SV.condS at h
  split at h
  · rename_i id p d
    exact ⟨_, hr, fun hb => assumeS_sound hh0 _ _ (h.1 (of_decide_eq_true hb)), fun hb => assumeS_sound hh0 _ _ (h.2 (of_decide_eq_false hb))⟩
  · rename_i id b
    exact ⟨b, hr, fun hb => assumeS_sound hh0 _ _ (h.1 hb), fun hb => assumeS_sound hh0 _ _ (h.2 hb)⟩
  · rename_i b
    cases b with
    | true => exact ⟨true, hr, fun _ => ⟨st, h, hh0, rfl⟩, fun h => (by cases h)⟩
    | false => exact ⟨false, hr, fun h => (by cases h), fun _ => ⟨st, h, hh0, rfl⟩⟩
  · exact h.elim

theorem frz_one {g : Gh} {H : List Ent} {w : World} {i ver : Nat} {e : TypeId} {T : Ty} {xs : List T.den} (hs : Sat I.B I.X I.w0 H g w) (he : H[i]? = some (.row e T ver xs)) {v : Value} (hr : (SC.own i ver).Rep w H g v) :
    Sat I.B I.X I.w0 (H.set i .dead) g w ∧ Evo w H g w (H.set i .dead) g ∧ (SC.ro T xs).Rep w (H.set i .dead) g v := by
  have hx : Reps w H g [.own i ver] [v] := ⟨rfl, fun j c u h1 h2 => by
    cases j with
    | zero => simp at h1 h2; subst h1; subst h2; exact hr
    | succ j => simp at h1⟩
  obtain ⟨y, cs, r, vr, H', a1, a2, a3, _, _, _, a6, a7, a8⟩ := dat_sound (ok := fun _ => True) false (.slice T) hs hx (K := fun y r H' => y = xs ∧ r = [] ∧ H' = H.set i .dead) (by
    simp only [Ty.dat, he, Nat.beq_refl, cond_true]
    simp) (fun h => by cases h)
  obtain ⟨rfl, rfl, rfl⟩ := a8
  have hvr : vr = [] := List.eq_nil_of_length_eq_zero a7.1
  subst hvr
  rw [List.append_nil] at a1
  subst a1
  exact ⟨a2, a3, a6 rfl⟩

theorem frzT_find (i ver : Nat) (T : Ty) (xs : List T.den) (d : Nat) : (t : List (Nat × SV)) → findT d (frzT i ver T xs t) = frzV i ver T xs (findT d t)
  | [] => rfl
  | (k, v) :: r => by
    unfold frzT findT
    cases Nat.beq k d with
    | true => rfl
    | false => exact frzT_find i ver T xs d r

theorem frzA_sound {a : Act} {w : World} : (l : List Operand) → {st : St} → Holds I st a w → Holds I (frzA l st) a w
  | [], st, h => h
  | x :: r, st, h => by
    unfold frzA
    split
    · rename_i i ver heq
      split
      · rename_i e T ver' xs he
        cases hb : Nat.beq ver ver' with
        | false => exact frzA_sound r h
        | true =>
          have hv := Nat.eq_of_beq_eq_true hb
          subst hv
          refine frzA_sound r ?_
          obtain ⟨h1, h2, hn, g, hs, hev, ht⟩ := h
          have hx := ev_rep ht x
          rw [heq] at hx
          obtain ⟨b1, b2, _⟩ := frz_one hs he hx
          refine ⟨h1, h2, hn, g, b1, hev.trans b2, fun d => ?_⟩
          show SV.Rep w (st.h.set i .dead) g (findT d (frzT i ver T xs st.t)) _
          rw [frzT_find]
          have hd := ht d
          unfold frzV
          split
          · rename_i j wv heq2
            rw [heq2] at hd
            cases hb2 : (Nat.beq j i && Nat.beq wv ver) with
            | false => exact SV.Rep.evo (x := .c (.own j wv)) b2 hd
            | true =>
              rw [Bool.and_eq_true] at hb2
              have e1 := Nat.eq_of_beq_eq_true hb2.1
              have e2 := Nat.eq_of_beq_eq_true hb2.2
              subst e1; subst e2
              exact (frz_one hs he hd).2.2
          · exact hd.evo b2
      · exact frzA_sound r h
    · exact frzA_sound r h

theorem frzOp_sound {a : Act} {w : World} (C : Ctx) (o : Op) {st : St} (h : Holds I st a w) : Holds I (frzOp C o st) a w := by
  unfold frzOp
  split
  · split
    · rename_i f _
      cases C.frz f with
      | false => exact h
      | true => exact frzA_sound _ h
    · exact h
  · exact h

theorem skipped_wanted {o : Oper} {all : Array Oper} {a : Act} {w : World} {H : List Ent} {g : Gh} {j d : Nat} {want : Bool} (hg : o.guard = some (j, want)) (hd : (all[j]?).bind (·.dst) = some d) {sv : SV} (hs : sv.skipped = true)
    (hr : sv.Rep w H g (a.tmps.getD d undef)) : Region.wanted o (yielded all a.tmps) = false := by
  unfold SV.skipped at hs
  split at hs
  · cases hs
  · rename_i u hnb
    have e : a.tmps.getD d undef = u := hr
    have hne : ∀ b, a.tmps[d]? ≠ some (Value.bool b) := fun b hb => by
      rw [Array.getD_eq_getD_getElem?, hb] at e
      exact hnb b e.symm
    simp only [Region.wanted, hg, yielded, hd, Option.bind_some]
    cases hq : a.tmps[d]? with
    | none => rfl
    | some v => cases v <;> first | rfl | exact absurd hq (hne _)
  · cases hs

theorem execOps_sound (hC : CtxOK P C) {all : Array Oper} (Q : Exit → Act → World → Prop) : (l : List Oper) → {st : St} → {R : St → Prop} → {a : Act} → {w : World} → (∀ st a w, R st → Holds I st a w → Q .normal a w) →
    execOps C all l st R → Holds I st a w → wpList P all Q l a w
  | [], st, R, a, w, hQ, h, hh => wpList_nil (hQ st a w h hh)
  | o :: r, st, R, a, w, hQ, h, hh => by
    unfold execOps at h
    have hrun : ∀ {st : St}, Holds I st a w → ∀ (K : Act → World → Prop), (∀ a w, wpList P all Q r a w → K a w) → (runOp C o st fun st => execOps C all r st R) → o.wp P a w K Q := by
      intro st hh0 K hK h
      obtain ⟨h1, h2, hn, g, hs, hev, ht⟩ := frzOp_sound C o.op hh0
      unfold runOp at h
      refine opStep_sound hC hs (ev_rep ht) h K Q ?_
      rintro v w' ⟨sv, H', g', q1, q2, q3, q4⟩
      exact hK _ _ (execOps_sound hC Q r hQ q1 (Holds.put h1 h2 hn hev ht q2 q3 q4 o.dst))
    have hskip : ∀ {st : St}, Holds I st a w → ∀ (K : Act → World → Prop), (∀ a w, wpList P all Q r a w → K a w) → execOps C all r (st.put o.dst (.c (.raw undef)) st.h) R → K (a.put o.dst undef) w := by
      rintro st ⟨h1, h2, hn, g, hs, hev, ht⟩ K hK h
      exact hK _ _ (execOps_sound hC Q r hQ h (Holds.put h1 h2 hn hev ht hs (Evo.refl _ _ _) (sv := .c (.raw undef)) rfl o.dst))
    cases hg : o.guard with
    | none =>
      rw [hg] at h
      exact wpList_plain hg fun K hK => hrun hh K hK h
    | some p =>
      obtain ⟨j, want⟩ := p
      rw [hg] at h
      simp only at h
      cases hd : (all[j]?).bind (·.dst) with
      | none => rw [hd] at h; exact h.elim
      | some d =>
        rw [hd] at h
        simp only at h
        cases hb : Nat.blt d st.n with
        | false => rw [hb] at h; exact h.elim
        | true =>
          rw [hb] at h
          simp only [cond_true] at h
          have hlt : d < a.tmps.size := by rw [hh.size]; simpa [Nat.blt_eq] using hb
          have hw : ∀ b, a.tmps.getD d undef = .bool b → Region.wanted o (yielded all a.tmps) = (b == want) := by
            intro b hv
            have hq : a.tmps[d]? = some (.bool b) := by
              rw [Array.getD_eq_getD_getElem?, Array.getElem?_eq_getElem hlt] at hv
              rw [Array.getElem?_eq_getElem hlt]
              simpa using hv
            simp [Region.wanted, hg, yielded, hd, hq]
          refine wpList_step fun K hK => ?_
          cases hsk : (findT d st.t).skipped with
          | true =>
            rw [hsk] at h
            have hw0 : Region.wanted o (yielded all a.tmps) = false := by
              obtain ⟨_, _, _, g, _, _, ht⟩ := hh
              exact skipped_wanted hg hd hsk (ht d)
            rw [hw0]
            exact hskip hh K hK h
          | false =>
          rw [hsk] at h
          simp only [cond_false] at h
          cases want with
          | true =>
            simp only [cond_true] at h
            obtain ⟨b, hv, hA, hB⟩ := condS_sound hh (fun g _ ht => ht d) h
            rw [hw b hv]
            cases b with
            | true => obtain ⟨st', k1, k2, _⟩ := hA rfl; exact hrun k2 K hK k1
            | false => obtain ⟨st', k1, k2, _⟩ := hB rfl; exact hskip k2 K hK k1
          | false =>
            simp only [cond_false] at h
            obtain ⟨b, hv, hA, hB⟩ := condS_sound hh (fun g _ ht => ht d) h
            rw [hw b hv]
            cases b with
            | true => obtain ⟨st', k1, k2, _⟩ := hA rfl; exact hskip k2 K hK k1
            | false => obtain ⟨st', k1, k2, _⟩ := hB rfl; exact hrun k2 K hK k1

end
end Go.SX

/- SX, part KA: regions whose order is drawn. -/
namespace Go.SX
open Go Go.RowKit

section
variable {P : Program} {ops : Array Oper} {Q : Exit → Act → World → Prop} {D : Nat → Prop}

/-- Whatever order is picked; behind each operation that is not of D all that was there is as it was. -/
def wpR (P : Program) (ops : Array Oper) (Q : Exit → Act → World → Prop) (D : Nat → Prop) : Nat → Array Bool → Act → World → Prop
  | 0, listed, a, w => Region.ready .any ops listed = [] ∧ Q .normal a w
  | fuel + 1, listed, a, w =>
    (Region.ready .any ops listed = [] → Q .normal a w) ∧
    ∀ i ∈ Region.ready .any ops listed, wpOp P ops Q i (fun a' w' => (¬ D i → Later w w') ∧ wpR P ops Q D fuel (listed.setIfInBounds i true) a' w') a w

theorem wpAny_of_R : ∀ (fuel : Nat) (listed : Array Bool) (a : Act) (w : World), wpR P ops Q D fuel listed a w → wpAny P .any ops Q fuel listed a w
  | 0, _, _, _, h => h
  | fuel + 1, _, _, _, h => ⟨h.1, fun i hi => wpOp_mono (fun a' w' h' => wpAny_of_R fuel _ a' w' h'.2) (h.2 i hi)⟩

def Closed (ops : Array Oper) (listed : Array Bool) : Prop :=
  ∀ j oj, ops[j]? = some oj → listed.getD j false = true → ∀ e ∈ oj.after, Region.binds .any e = true → listed.getD e.on false = true

theorem Closed.set {listed : Array Bool} {i : Nat} (h : Closed ops listed) (hi : i ∈ Region.ready .any ops listed) : Closed ops (listed.setIfInBounds i true) := by
  obtain ⟨_, oi, hoi, hall⟩ := mem_ready.1 hi
  intro j oj hj hl e he hb
  by_cases hij : i = j
  · subst hij
    have : oj = oi := Option.some.inj (hj.symm.trans hoi)
    subst this
    exact getD_set_true (hall e he hb)
  · rw [getD_set_ne false hij] at hl
    exact getD_set_true (h j oj hj hl e he hb)

/-- d does not come up before i. -/
def Waits (ops : Array Oper) (i d : Nat) : Prop := ∀ listed : Array Bool, Closed ops listed → listed.size = ops.size → listed.getD i true = false → d ∉ Region.ready .any ops listed

theorem wpR_first {pu : Bool} {i : Nat} {oi : Oper} {v : Value} (hi : ops[i]? = some oi) (hsel : ∀ (j : Nat) (o : Oper) cs b, ops[j]? = some o → o.op ≠ .select cs b)
    (hQ : ∀ c a w, Q (.panic c) (a.put oi.dst v) w → Q (.panic c) a w) :
    ∀ (fuel : Nat) (listed : Array Bool) (a : Act) (w : World), listed.size = ops.size →
      (∀ j oj, ops[j]? = some oj → j ≠ i → listed.getD j true = false → (∀ e ∈ oj.after, Region.binds .any e = true → e.on ≠ i) → oi.apart ops oj = true) →
      Closed ops listed → (pu = false → ∀ d, D d → listed.getD d true = false → Waits ops i d) →
      i ∈ Region.ready .any ops listed → YieldsIf P ops (fun w' => pu = true ∨ Later w w') oi v a →
      wpR P ops Q D fuel (listed.setIfInBounds i true) (a.put oi.dst v) w → wpR P ops Q D (fuel + 1) listed a w := by
  intro fuel
  induction fuel with
  | zero =>
    intro listed a w _ _ _ _ hr hy H
    refine ⟨fun h => (by rw [h] at hr; cases hr), fun j hj => ?_⟩
    by_cases hji : j = i
    · subst hji; exact hy.wpOp hi (.inr (Later.refl w)) ⟨fun _ => Later.refl w, H⟩
    · have := ready_mono hj hji
      rw [H.1] at this
      cases this
  | succ fuel ih =>
    intro listed a w hsz hfree hc hd hr hy H
    refine ⟨fun h => (by rw [h] at hr; cases hr), fun j hj => ?_⟩
    by_cases hji : j = i
    · subst hji; exact hy.wpOp hi (.inr (Later.refl w)) ⟨fun _ => Later.refl w, H⟩
    · have h1 := H.2 j (ready_mono hj hji)
      obtain ⟨hjun, oj, hoj, hall⟩ := mem_ready.1 hj
      have hiun := (mem_ready.1 hr).1
      have hnot : ∀ e ∈ oj.after, Region.binds .any e = true → e.on ≠ i := fun e he hb heq => by
        have h1 := hall e he hb
        rw [heq] at h1
        rcases Nat.lt_or_ge i listed.size with h' | h'
        · simp [h'] at hiun h1; rw [hiun] at h1; cases h1
        · simp [Array.getElem?_eq_none h'] at h1
      have hjd : pu = false → ¬ D j := fun hp hm => hd hp j hm hjun listed hc hsz hiun hj
      have h2 := wpOp_putIf hoj (hfree j oj hoj hji hjun hnot) (fun cs b => hsel i oi cs b hi) (fun cs b => hsel j oj cs b hoj) hQ hy h1
      have hfree' : ∀ k ok, ops[k]? = some ok → k ≠ i → (listed.setIfInBounds j true).getD k true = false →
          (∀ e ∈ ok.after, Region.binds .any e = true → e.on ≠ i) → oi.apart ops ok = true := fun k ok hk hki hun hno => by
        refine hfree k ok hk hki ?_ hno
        by_cases hjk : j = k
        · subst hjk; exact hjun
        · rw [getD_set_ne true hjk] at hun; exact hun
      have hd' : pu = false → ∀ d, D d → (listed.setIfInBounds j true).getD d true = false → Waits ops i d := fun hp d hm hun => by
        refine hd hp d hm ?_
        by_cases hjk : j = d
        · subst hjk; exact hjun
        · rw [getD_set_ne true hjk] at hun; exact hun
      refine wpOp_mono (fun a' w' h3 => ⟨h3.2.1, ih (listed.setIfInBounds j true) a' w' (by simpa using hsz) hfree' (hc.set hj) hd' (ready_mono hr (Ne.symm hji))
        (h3.1.imp (fun ⟨q1, q2⟩ => ⟨q1, fun w'' hw'' => q2 w'' (by
          rcases hw'' with hp | hl
          · exact .inl hp
          · cases hpu : pu with
            | true => exact .inl rfl
            | false => exact .inr ((h3.2.1 (hjd hpu)).trans hl))⟩) id) ?_⟩) h2
      rw [Array.setIfInBounds_comm _ _ hji]
      exact h3.2.2

theorem wpR_all {fuel : Nat} {listed : Array Bool} {a : Act} {w : World} (hne : Region.ready .any ops listed ≠ [])
    (h : ∀ i ∈ Region.ready .any ops listed, wpOp P ops Q i (fun a' w' => (¬ D i → Later w w') ∧ wpR P ops Q D fuel (listed.setIfInBounds i true) a' w') a w) : wpR P ops Q D (fuel + 1) listed a w :=
  ⟨fun h0 => absurd h0 hne, h⟩

theorem wpR_done {listed : Array Bool} {a : Act} {w : World} (hr : Region.ready .any ops listed = []) (h : Q .normal a w) : ∀ fuel, wpR P ops Q D fuel listed a w
  | 0 => ⟨hr, h⟩
  | _ + 1 => ⟨fun _ => h, by rw [hr]; simp⟩

/-! ### Masks -/

theorem tb_eq (m i : Nat) : tb m i = m.testBit i := by
  unfold tb
  rw [Nat.testBit_eq_decide_div_mod_eq]
  show Nat.beq (1 &&& (m >>> i)) 1 = _
  rw [Nat.and_comm, Nat.and_one_is_mod, Nat.shiftRight_eq_div_pow]
  by_cases h : m / 2 ^ i % 2 = 1
  · rw [h]; simp
  · have : m / 2 ^ i % 2 = 0 := by omega
    rw [this]; rfl

theorem subM_iff {d m : Nat} : subM d m = true ↔ ∀ j, d.testBit j = true → m.testBit j = true := by
  unfold subM
  constructor
  · intro h j hj
    have e : d &&& m = d := Nat.eq_of_beq_eq_true h
    have := congrArg (fun x => x.testBit j) e
    simp only [Nat.testBit_and, hj, Bool.true_and] at this
    exact this
  · intro h
    have : d &&& m = d := by
      apply Nat.eq_of_testBit_eq
      intro j
      rw [Nat.testBit_and]
      cases hj : d.testBit j with
      | false => simp
      | true => rw [h j hj]; simp
    show Nat.beq (d &&& m) d = true
    rw [this]; simp

theorem bit_or (m i j : Nat) : (Nat.lor m (Nat.shiftLeft 1 i)).testBit j = (m.testBit j || decide (i = j)) := by
  show (m ||| (1 <<< i)).testBit j = _
  rw [Nat.testBit_or, Nat.one_shiftLeft, Nat.testBit_two_pow]

theorem depE_bit : (l : List Edge) → (j : Nat) → ((depE l).testBit j = true ↔ ∃ e ∈ l, Region.binds .any e = true ∧ e.on = j)
  | [], j => by simp [depE]
  | e :: r, j => by
    have ih := depE_bit r j
    unfold depE
    cases hb : Region.binds .any e with
    | false =>
      simp only [cond_false, ih, List.mem_cons]
      constructor
      · rintro ⟨x, h1, h2⟩; exact ⟨x, .inr h1, h2⟩
      · rintro ⟨x, h1 | h1, h2, h3⟩
        · subst h1; rw [hb] at h2; cases h2
        · exact ⟨x, h1, h2, h3⟩
    | true =>
      simp only [cond_true]
      rw [show Nat.lor (Nat.shiftLeft 1 e.on) (depE r) = Nat.lor (depE r) (Nat.shiftLeft 1 e.on) from Nat.or_comm _ _, bit_or, Bool.or_eq_true, ih]
      constructor
      · rintro (⟨x, h1, h2⟩ | h)
        · exact ⟨x, List.mem_cons_of_mem _ h1, h2⟩
        · exact ⟨e, List.mem_cons_self, hb, of_decide_eq_true h⟩
      · rintro ⟨x, h1, h2, h3⟩
        rcases List.mem_cons.1 h1 with h | h
        · subst h; right; exact decide_eq_true h3
        · left; exact ⟨x, h, h2, h3⟩

theorem depsOf_get : (l : List Oper) → (j : Nat) → (depsOf l)[j]? = (l[j]?).map fun o => depE o.after.toList
  | [], j => by simp [depsOf]
  | o :: r, 0 => by simp [depsOf]
  | o :: r, j + 1 => by simpa [depsOf] using depsOf_get r j

/-- The array that a mask stands for. -/
structure MaskOf (ops : Array Oper) (m : Nat) (l : Array Bool) : Prop where
  size : l.size = ops.size
  bit : ∀ i, i < ops.size → l[i]? = some (m.testBit i)
  out : ∀ i, ops.size ≤ i → m.testBit i = false

theorem MaskOf.zero (ops : Array Oper) : MaskOf ops 0 (Array.replicate ops.size false) :=
  ⟨by simp, fun i hi => by simp [hi], fun i _ => by simp⟩

theorem MaskOf.set {m : Nat} {l : Array Bool} (h : MaskOf ops m l) {i : Nat} (hi : i < ops.size) : MaskOf ops (Nat.lor m (Nat.shiftLeft 1 i)) (l.setIfInBounds i true) := by
  refine ⟨by simpa using h.size, fun j hj => ?_, fun j hj => ?_⟩
  · rw [bit_or, Array.getElem?_setIfInBounds]
    by_cases hij : i = j
    · subst hij; simp [h.size, hi]
    · simp [hij, h.bit j hj]
  · rw [bit_or, h.out j hj]
    have : ¬ i = j := by omega
    simp [this]

theorem MaskOf.getF {m : Nat} {l : Array Bool} (h : MaskOf ops m l) (i : Nat) : l.getD i false = m.testBit i := by
  rcases Nat.lt_or_ge i ops.size with hi | hi
  · rw [Array.getD_eq_getD_getElem?, h.bit i hi]; rfl
  · rw [Array.getD_eq_getD_getElem?, Array.getElem?_eq_none (by rw [h.size]; exact hi), h.out i hi]; rfl

theorem MaskOf.getT {m : Nat} {l : Array Bool} (h : MaskOf ops m l) {i : Nat} (hi : i < ops.size) : l.getD i true = m.testBit i := by
  rw [Array.getD_eq_getD_getElem?, h.bit i hi]; rfl

theorem readyL_mem {m : Nat} : (l : List Nat) → (k i : Nat) → (i ∈ readyL m l k ↔ ∃ d, k ≤ i ∧ l[i - k]? = some d ∧ m.testBit i = false ∧ subM d m = true)
  | [], k, i => by simp [readyL]
  | d :: r, k, i => by
    have ih := readyL_mem (m := m) r (k + 1) i
    have tail : (i ∈ readyL m r (k + 1)) ↔ ∃ x, k + 1 ≤ i ∧ (d :: r)[i - k]? = some x ∧ m.testBit i = false ∧ subM x m = true := by
      rw [ih]
      constructor
      · rintro ⟨x, h1, h2, h3⟩
        refine ⟨x, h1, ?_, h3⟩
        rw [show i - k = (i - (k + 1)) + 1 by omega]
        simpa using h2
      · rintro ⟨x, h1, h2, h3⟩
        refine ⟨x, h1, ?_, h3⟩
        rw [show i - k = (i - (k + 1)) + 1 by omega] at h2
        simpa using h2
    unfold readyL
    cases hb : (!(tb m k) && subM d m) with
    | true =>
      simp only [cond_true, List.mem_cons, tail]
      rw [Bool.and_eq_true, Bool.not_eq_true', tb_eq] at hb
      constructor
      · rintro (h | ⟨x, h1, h2⟩)
        · subst h; exact ⟨d, Nat.le_refl _, by simp, hb.1, hb.2⟩
        · exact ⟨x, by omega, h2⟩
      · rintro ⟨x, h1, h2⟩
        rcases Nat.lt_or_ge k i with h | h
        · right; exact ⟨x, h, h2⟩
        · left; omega
    | false =>
      simp only [cond_false, tail]
      constructor
      · rintro ⟨x, h1, h2⟩; exact ⟨x, by omega, h2⟩
      · rintro ⟨x, h1, h2, h3, h4⟩
        refine ⟨x, ?_, h2, h3, h4⟩
        rcases Nat.lt_or_ge k i with h | h
        · exact h
        · have e : i = k := by omega
          subst e
          simp at h2
          subst h2
          rw [tb_eq, h3, h4] at hb
          simp at hb

theorem ready_iff {m : Nat} {l : Array Bool} (h : MaskOf ops m l) (i : Nat) : i ∈ readyL m (depsOf ops.toList) 0 ↔ i ∈ Region.ready .any ops l := by
  rw [readyL_mem, mem_ready]
  simp only [Nat.zero_le, true_and, Nat.sub_zero, depsOf_get]
  constructor
  · rintro ⟨d, h1, h2, h3⟩
    cases ho : ops[i]? with
    | none => simp [ho] at h1
    | some o =>
      have hi : i < ops.size := (Array.getElem?_eq_some_iff.1 ho).1
      refine ⟨by rw [h.getT hi, h2], o, rfl, fun e he hb => ?_⟩
      simp [ho] at h1
      subst h1
      rw [h.getF]
      exact subM_iff.1 h3 _ ((depE_bit _ _).2 ⟨e, by simpa using he, hb, rfl⟩)
  · rintro ⟨h1, o, ho, h2⟩
    have hi : i < ops.size := (Array.getElem?_eq_some_iff.1 ho).1
    refine ⟨depE o.after.toList, by simp [ho], by rw [← h.getT hi, h1], subM_iff.2 fun j hj => ?_⟩
    obtain ⟨e, he, hb, rfl⟩ := (depE_bit _ _).1 hj
    rw [← h.getF]
    exact h2 e (by simpa using he) hb

theorem readyL_nil {m : Nat} {l : Array Bool} (h : MaskOf ops m l) (hr : readyL m (depsOf ops.toList) 0 = []) : Region.ready .any ops l = [] := by
  cases hq : Region.ready .any ops l with
  | nil => rfl
  | cons i r =>
    have := (ready_iff h i).2 (by rw [hq]; exact List.mem_cons_self)
    rw [hr] at this
    cases this

/-! ### What waits -/

theorem orAll_bit (dep : Nat) : (l : List Nat) → (k j : Nat) → ((orAll dep l k).testBit j = true ↔ ∃ i t, l[i]? = some t ∧ dep.testBit (k + i) = true ∧ t.testBit j = true)
  | [], k, j => by simp [orAll]
  | t :: r, k, j => by
    have ih := orAll_bit dep r (k + 1) j
    have tail : (orAll dep r (k + 1)).testBit j = true ↔ ∃ i u, (t :: r)[i + 1]? = some u ∧ dep.testBit (k + (i + 1)) = true ∧ u.testBit j = true := by
      rw [ih]
      constructor
      · rintro ⟨i, u, h1, h2, h3⟩; exact ⟨i, u, by simpa using h1, by rw [show k + (i + 1) = k + 1 + i by omega]; exact h2, h3⟩
      · rintro ⟨i, u, h1, h2, h3⟩; exact ⟨i, u, by simpa using h1, by rw [show k + 1 + i = k + (i + 1) by omega]; exact h2, h3⟩
    unfold orAll
    cases hb : tb dep k with
    | true =>
      rw [tb_eq] at hb
      simp only [cond_true]
      rw [show Nat.lor t (orAll dep r (k + 1)) = t ||| orAll dep r (k + 1) from rfl, Nat.testBit_or, Bool.or_eq_true, tail]
      constructor
      · rintro (h | ⟨i, u, h1, h2, h3⟩)
        · exact ⟨0, t, by simp, by simpa using hb, h⟩
        · exact ⟨i + 1, u, h1, h2, h3⟩
      · rintro ⟨i, u, h1, h2, h3⟩
        cases i with
        | zero => left; simp at h1; subst h1; exact h3
        | succ i => right; exact ⟨i, u, h1, h2, h3⟩
    | false =>
      rw [tb_eq] at hb
      simp only [cond_false, tail]
      constructor
      · rintro ⟨i, u, h⟩; exact ⟨i + 1, u, h⟩
      · rintro ⟨i, u, h1, h2, h3⟩
        cases i with
        | zero => simp at h2; rw [hb] at h2; cases h2
        | succ i => exact ⟨i, u, h1, h2, h3⟩

/-- A set that is closed under the direct waits (by masks). -/
def ClosedM (deps : List Nat) (S : Nat → Prop) : Prop := ∀ (j d : Nat), S j → deps[j]? = some d → ∀ k, d.testBit k = true → S k

theorem tcGo_ok {deps : List Nat} {S : Nat → Prop} (hS : ClosedM deps S) : (l acc : List Nat) → (∀ (j : Nat) (d : Nat), l[j]? = some d → deps[acc.length + j]? = some d) →
    (∀ (j t d : Nat), acc[j]? = some t → deps[j]? = some d → (∀ k, d.testBit k = true → S k) → ∀ k, t.testBit k = true → S k) →
    ∀ (j t d : Nat), (tcGo l acc)[j]? = some t → deps[j]? = some d → (∀ k, d.testBit k = true → S k) → ∀ k, t.testBit k = true → S k
  | [], acc, _, ha => ha
  | d0 :: r, acc, hl, ha => by
    unfold tcGo
    have h0 : deps[acc.length]? = some d0 := by simpa using hl 0 d0 rfl
    refine tcGo_ok hS r _ (fun j d hj => ?_) ?_
    · have := hl (j + 1) d (by simpa using hj)
      rw [List.length_append, List.length_singleton, show acc.length + 1 + j = acc.length + (j + 1) by omega]
      exact this
    · intro j t d hj hd hsub k hk
      rcases Nat.lt_or_ge j acc.length with hlt | hge
      · rw [List.getElem?_append_left hlt] at hj
        exact ha j t d hj hd hsub k hk
      · rw [List.getElem?_append_right hge] at hj
        have e : j - acc.length = 0 := by
          rcases Nat.eq_zero_or_pos (j - acc.length) with h | h
          · exact h
          · rw [List.getElem?_eq_none (by simp; omega)] at hj; cases hj
        have e' : j = acc.length := by omega
        subst e'
        rw [e] at hj
        simp at hj
        subst hj
        have hdd : d = d0 := Option.some.inj (hd.symm.trans h0)
        subst hdd
        rw [Nat.testBit_or, Bool.or_eq_true] at hk
        rcases hk with hk | hk
        · exact hsub k hk
        · obtain ⟨i, u, h1, h2, h3⟩ := (orAll_bit d acc 0 k).1 hk
          rw [Nat.zero_add] at h2
          have hi := hsub i h2
          have hil : i < acc.length := (List.getElem?_eq_some_iff.1 h1).1
          cases hdi : deps[i]? with
          | none =>
            have h5 := List.getElem?_eq_none_iff.1 hdi
            have h6 := (List.getElem?_eq_some_iff.1 h0).1
            omega
          | some di => exact ha i u di h1 hdi (fun k hk => hS i di hi hdi k hk) k h3

theorem waits_of_tc {i d t : Nat} (ht : (tcGo (depsOf ops.toList) [])[d]? = some t) (hb : t.testBit i = true) : Waits ops i d := by
  intro listed hc hsz hun hd
  obtain ⟨_, od, hod, hall⟩ := mem_ready.1 hd
  have hS : ClosedM (depsOf ops.toList) (fun j => listed.getD j false = true) := by
    intro j dj hj hdj k hk
    rw [depsOf_get] at hdj
    cases ho : ops.toList[j]? with
    | none => simp [ho] at hdj
    | some o =>
      simp [ho] at hdj
      subst hdj
      obtain ⟨e, he, hbb, rfl⟩ := (depE_bit _ _).1 hk
      exact hc j o (by simpa using ho) hj e (by simpa using he) hbb
  have := tcGo_ok hS (depsOf ops.toList) [] (fun j d h => by simpa using h) (fun j t d h => by simp at h) d t (depE od.after.toList) ht (by rw [depsOf_get]; simp [hod]) (fun k hk => by
    obtain ⟨e, he, hbb, rfl⟩ := (depE_bit _ _).1 hk
    exact hall e (by simpa using he) hbb) i hb
  rcases Nat.lt_or_ge i listed.size with h | h
  · simp [h] at this hun
    rw [this] at hun; cases hun
  · simp [Array.getElem?_eq_none h] at this

end

section
variable {P : Program} {I : Ini} {C : Ctx} {ops : Array Oper}

def LastD (C : Ctx) (ops : Array Oper) (d : Nat) : Prop := ∃ o, ops[d]? = some o ∧ lightOp o.op = false ∧ keepOp C o.op = false

theorem lastL_ok {m i : Nat} : (l : List Oper) → (ts : List Nat) → (k : Nat) → lastL C m i l ts k = true →
    ∀ (j : Nat) (o : Oper), l[j]? = some o → lightOp o.op = false → keepOp C o.op = false → m.testBit (k + j) = true ∨ ∃ t, ts[j]? = some t ∧ t.testBit i = true
  | [], _, _, _, j, o, h => by simp at h
  | x :: l, [], _, h, _, _, _ => by simp [lastL] at h
  | x :: l, t :: r, k, h, j, o, hj => by
    simp only [lastL, Bool.and_eq_true, Bool.or_eq_true, tb_eq] at h
    intro h1 h2
    cases j with
    | zero =>
      simp at hj
      subst hj
      rcases h.1 with ((h3 | h3) | h3) | h3
      · rw [h1] at h3; cases h3
      · rw [h2] at h3; cases h3
      · exact .inl h3
      · exact .inr ⟨t, rfl, h3⟩
    | succ j =>
      have := lastL_ok l r (k + 1) h.2 j o (by simpa using hj) h1 h2
      rw [show k + 1 + j = k + (j + 1) by omega] at this
      simpa using this

theorem freeL_ok {x : Oper} {m i : Nat} : (l : List Oper) → (ds : List Nat) → (k : Nat) → freeL ops x m i l ds k = true →
    ∀ (j : Nat) (y : Oper), l[j]? = some y → m.testBit (k + j) = true ∨ k + j = i ∨ (∃ d, ds[j]? = some d ∧ d.testBit i = true) ∨ x.apart ops y = true
  | [], _, _, _, j, o, h => by simp at h
  | _ :: l, [], _, h, _, _, _ => by simp [freeL] at h
  | z :: l, d :: r, k, h, j, y, hj => by
    simp only [freeL, Bool.and_eq_true, Bool.or_eq_true, tb_eq] at h
    cases j with
    | zero =>
      simp at hj
      subst hj
      rcases h.1 with ((h3 | h3) | h3) | h3
      · exact .inl h3
      · exact .inr (.inl (Nat.eq_of_beq_eq_true h3))
      · exact .inr (.inr (.inl ⟨d, rfl, h3⟩))
      · exact .inr (.inr (.inr h3))
    | succ j =>
      have := freeL_ok l r (k + 1) h.2 j y (by simpa using hj)
      rw [show k + 1 + j = k + (j + 1) by omega] at this
      simpa using this

theorem allL_mem {p : Nat → Prop} : (l : List Nat) → allL l p → ∀ i ∈ l, p i
  | [], _, i, h => by cases h
  | [x], h, i, hi => by simp at hi; subst hi; exact h
  | x :: y :: r, h, i, hi => by
    rcases List.mem_cons.1 hi with h' | h'
    · subst h'; exact h.1
    · exact allL_mem (y :: r) h.2 i h'

theorem pickL_spec {deps tcs : List Nat} {m : Nat} : (l : List Nat) → {i : Nat} → pickL C ops deps tcs m l = some i → i ∈ l ∧ pickOK C ops deps tcs m i = true
  | [], i, h => by cases h
  | x :: r, i, h => by
    unfold pickL at h
    cases hb : pickOK C ops deps tcs m x with
    | true => rw [hb] at h; simp at h; subst h; exact ⟨List.mem_cons_self, hb⟩
    | false =>
      rw [hb] at h
      obtain ⟨h1, h2⟩ := pickL_spec r h
      exact ⟨List.mem_cons_of_mem _ h1, h2⟩

/-- The guard's two ways. -/
theorem guard_sound (_hC : CtxOK P C) {o : Oper} {st : St} {R : St → Prop} {a : Act} {w : World} (h : execOps C ops [o] st R) (hh : Holds I st a w) :
    (∃ st', Holds I st' a w ∧ Region.wanted o (yielded ops a.tmps) = true ∧ opStep C o.op st'.ev st'.h fun v H => R (st'.put o.dst v H)) ∨
    (∃ st', Holds I st' (a.put o.dst undef) w ∧ Region.wanted o (yielded ops a.tmps) = false ∧ R st') := by
  have hskip : ∀ {st : St}, Holds I st a w → Holds I (st.put o.dst (.c (.raw undef)) st.h) (a.put o.dst undef) w := by
    rintro st ⟨h1, h2, hn, g, hs, hev, ht⟩
    exact Holds.put h1 h2 hn hev ht hs (Evo.refl _ _ _) (sv := .c (.raw undef)) rfl o.dst
  have hrun : ∀ {st : St}, Holds I st a w → Region.wanted o (yielded ops a.tmps) = true → (runOp C o st fun st => execOps C ops [] st R) → ∃ st', Holds I st' a w ∧ Region.wanted o (yielded ops a.tmps) = true ∧ opStep C o.op st'.ev st'.h fun v H => R (st'.put o.dst v H) :=
    fun h0 hw h => ⟨_, frzOp_sound C o.op h0, hw, h⟩
  unfold execOps at h
  cases hg : o.guard with
  | none =>
    rw [hg] at h
    exact .inl (hrun hh (by simp [Region.wanted, hg]) h)
  | some p =>
    obtain ⟨j, want⟩ := p
    rw [hg] at h
    simp only at h
    cases hd : (ops[j]?).bind (·.dst) with
    | none => rw [hd] at h; exact h.elim
    | some d =>
      rw [hd] at h
      simp only at h
      cases hb : Nat.blt d st.n with
      | false => rw [hb] at h; exact h.elim
      | true =>
        rw [hb] at h
        simp only [cond_true] at h
        have hlt : d < a.tmps.size := by rw [hh.size]; simpa [Nat.blt_eq] using hb
        have hw : ∀ b, a.tmps.getD d undef = .bool b → Region.wanted o (yielded ops a.tmps) = (b == want) := by
          intro b hv
          have hq : a.tmps[d]? = some (.bool b) := by
            rw [Array.getD_eq_getD_getElem?, Array.getElem?_eq_getElem hlt] at hv
            rw [Array.getElem?_eq_getElem hlt]
            simpa using hv
          simp [Region.wanted, hg, yielded, hd, hq]
        cases hsk : (findT d st.t).skipped with
        | true =>
          rw [hsk] at h
          have hw0 : Region.wanted o (yielded ops a.tmps) = false := by
            obtain ⟨_, _, _, g, _, _, ht⟩ := hh
            exact skipped_wanted hg hd hsk (ht d)
          exact .inr ⟨_, hskip hh, hw0, h⟩
        | false =>
        rw [hsk] at h
        simp only [cond_false] at h
        cases want with
        | true =>
          simp only [cond_true] at h
          obtain ⟨b, hv, hA, hB⟩ := condS_sound hh (fun g _ ht => ht d) h
          cases b with
          | true => obtain ⟨st', k1, k2, _⟩ := hA rfl; exact .inl (hrun k2 (by rw [hw _ hv]; rfl) k1)
          | false => obtain ⟨st', k1, k2, _⟩ := hB rfl; exact .inr ⟨_, hskip k2, by rw [hw _ hv]; rfl, k1⟩
        | false =>
          simp only [cond_false] at h
          obtain ⟨b, hv, hA, hB⟩ := condS_sound hh (fun g _ ht => ht d) h
          cases b with
          | true => obtain ⟨st', k1, k2, _⟩ := hA rfl; exact .inr ⟨_, hskip k2, by rw [hw _ hv]; rfl, k1⟩
          | false => obtain ⟨st', k1, k2, _⟩ := hB rfl; exact .inl (hrun k2 (by rw [hw _ hv]; rfl) k1)

theorem light_step (hC : CtxOK P C) {o : Oper} {st : St} {R : St → Prop} {a : Act} {w : World} (hl : lightOp o.op = true) (h : execOps C ops [o] st R) (hh : Holds I st a w) :
    ∃ v st', YieldsIf P ops (fun w' => pureOp o.op = true ∨ Later w w') o v a ∧ Holds I st' (a.put o.dst v) w ∧ R st' := by
  rcases guard_sound hC h hh with ⟨st', k1, k2, k3⟩ | ⟨st', k1, k2, k3⟩
  · obtain ⟨h1, h2, hn, g, hs, hev, ht⟩ := k1
    obtain ⟨v, sv, r1, r2, r3⟩ := opStep_light hC hs (ev_rep ht) hl k3
    exact ⟨v, _, .inl ⟨k2, r1⟩, Holds.put h1 h2 hn hev ht hs (Evo.refl _ _ _) r2 o.dst, r3⟩
  · exact ⟨undef, st', .inr ⟨k2, rfl⟩, k1, k3⟩

theorem op_step (hC : CtxOK P C) {Q : Exit → Act → World → Prop} {i : Nat} {o : Oper} {st : St} {R : St → Prop} {a : Act} {w : World} (ho : ops[i]? = some o) (h : execOps C ops [o] st R) (hh : Holds I st a w)
    {K : Act → World → Prop} (hK : ∀ st' a' w', R st' → Holds I st' a' w' → (¬ LastD C ops i → Later w w') → K a' w') : wpOp P ops Q i K a w := by
  unfold wpOp
  simp only [ho]
  rcases guard_sound hC h hh with ⟨st', k1, k2, k3⟩ | ⟨st', k1, k2, k3⟩
  · rw [if_pos k2]
    refine .inl ?_
    obtain ⟨h1, h2, hn, g, hs, hev, ht⟩ := k1
    cases hl : lightOp o.op with
    | true =>
      obtain ⟨v, sv, r1, r2, r3⟩ := opStep_light hC hs (ev_rep ht) hl k3
      refine Runs.value (R := fun v' w' => v' = v ∧ w' = w) (r1 w (.inr (Later.refl w))) ⟨rfl, rfl⟩ K Q ?_
      rintro v' w' ⟨rfl, rfl⟩
      exact hK _ _ _ r3 (Holds.put h1 h2 hn hev ht hs (Evo.refl _ _ _) r2 o.dst) fun _ => Later.refl _
    | false =>
      cases hk : keepOp C o.op with
      | true =>
        refine opStep_keep hC hs (ev_rep ht) hk k3 K Q ?_
        rintro v w' ⟨⟨sv, H', g', q1, q2, q3, q4⟩, hlat⟩
        exact hK _ _ _ q1 (Holds.put h1 h2 hn hev ht q2 q3 q4 o.dst) fun _ => hlat
      | false =>
        refine opStep_sound hC hs (ev_rep ht) k3 K Q ?_
        rintro v w' ⟨sv, H', g', q1, q2, q3, q4⟩
        exact hK _ _ _ q1 (Holds.put h1 h2 hn hev ht q2 q3 q4 o.dst) fun hn => absurd ⟨o, ho, hl, hk⟩ hn
  · rw [if_neg (by rw [k2]; simp)]
    exact hK _ _ _ k3 k1 fun _ => Later.refl _

theorem execAny_sound (hC : CtxOK P C) {Q : Exit → Act → World → Prop} (hQ : ∀ c a w, ¬ Q (.panic c) a w) {R : St → Prop} (hR : ∀ st a w, R st → Holds I st a w → Q .normal a w) (hsel : Region.noSelect ops = true) :
    (f : Nat) → {m : Nat} → {l : Array Bool} → {st : St} → {a : Act} → {w : World} → execAny C ops (depsOf ops.toList) (tcGo (depsOf ops.toList) []) f m st R → MaskOf ops m l → Closed ops l → Holds I st a w →
    wpR P ops Q (LastD C ops) f l a w
  | 0, m, l, st, a, w, h, hm, hc, hh => by
    unfold execAny at h
    split at h
    · rename_i heq; exact wpR_done (readyL_nil hm heq) (hR _ _ _ h hh) 0
    · exact h.elim
  | f + 1, m, l, st, a, w, h, hm, hc, hh => by
    unfold execAny at h
    split at h
    · rename_i heq; exact wpR_done (readyL_nil hm heq) (hR _ _ _ h hh) _
    · rename_i i0 r0 heq
      have hne : Region.ready .any ops l ≠ [] := fun e => by
        have := (ready_iff hm i0).1 (by rw [heq]; exact List.mem_cons_self)
        rw [e] at this; cases this
      split at h
      · rename_i i hp
        obtain ⟨p1, p2⟩ := pickL_spec _ hp
        have hri : i ∈ Region.ready .any ops l := (ready_iff hm i).1 (by rw [heq]; exact p1)
        cases ho : ops[i]? with
        | none => rw [ho] at h; exact h.elim
        | some o =>
          have hil : i < ops.size := (Array.getElem?_eq_some_iff.1 ho).1
          rw [ho] at h
          simp only at h
          unfold pickOK at p2
          rw [ho] at p2
          simp only [Bool.and_eq_true] at p2
          obtain ⟨⟨q1, q2⟩, q3⟩ := p2
          obtain ⟨v, st', y1, y2, y3⟩ := light_step hC q1 h hh
          refine wpR_first ho (Region.noSelect_spec hsel) (fun c a w hq => absurd hq (hQ c _ w)) f l a w hm.size ?_ hc ?_ hri y1 (execAny_sound hC hQ hR hsel f y3 (hm.set hil) (hc.set hri) y2)
          · intro j oj hj hji hun hno
            have hjl : j < ops.size := (Array.getElem?_eq_some_iff.1 hj).1
            have := freeL_ok ops.toList _ 0 q3 j oj (by simpa using hj)
            rw [Nat.zero_add] at this
            rcases this with h1 | h1 | ⟨d, h1, h2⟩ | h1
            · rw [hm.getT hjl, h1] at hun; cases hun
            · exact absurd h1 hji
            · rw [depsOf_get] at h1
              simp [hj] at h1
              subst h1
              obtain ⟨e, he, hb, hon⟩ := (depE_bit _ _).1 h2
              exact absurd hon (hno e (by simpa using he) hb)
            · exact h1
          · rintro hpu d ⟨od, hod, hd1, hd2⟩ hun
            have hdl : d < ops.size := (Array.getElem?_eq_some_iff.1 hod).1
            rw [Bool.or_eq_true, hpu] at q2
            rcases lastL_ok ops.toList _ 0 (q2.resolve_left Bool.false_ne_true) d od (by simpa using hod) hd1 hd2 with h1 | ⟨t, h1, h2⟩
            · rw [Nat.zero_add] at h1; rw [hm.getT hdl, h1] at hun; cases hun
            · exact waits_of_tc h1 h2
      · rename_i hp
        refine wpR_all hne fun i hi => ?_
        have hi' := (ready_iff hm i).2 hi
        rw [heq] at hi'
        have h1 := allL_mem _ h i hi'
        cases ho : ops[i]? with
        | none => rw [ho] at h1; exact h1.elim
        | some o =>
          have hil : i < ops.size := (Array.getElem?_eq_some_iff.1 ho).1
          rw [ho] at h1
          simp only at h1
          exact op_step hC ho h1 hh fun st' a' w' k1 k2 k3 => ⟨k3, execAny_sound hC hQ hR hsel f k1 (hm.set hil) (hc.set hi) k2⟩

theorem execDraw_sound (hC : CtxOK P C) {Q : Exit → Act → World → Prop} (hQ : ∀ c a w, ¬ Q (.panic c) a w) {R : St → Prop} (hR : ∀ st a w, R st → Holds I st a w → Q .normal a w) {id : Nat} {st : St} {a : Act} {w : World}
    (h : execDraw C ops st R) (hh : Holds I st a w) : (Code.region id ops true).wp P Q a w := by
  unfold execDraw at h
  cases hs : Region.noSelect ops with
  | false => rw [hs] at h; exact h.elim
  | true =>
    rw [hs] at h
    simp only [cond_true] at h
    refine wp_region_any hC.mixed (wpAny_of_R (D := LastD C ops) _ _ _ _ (execAny_sound hC hQ hR hs _ h (MaskOf.zero ops) (fun j oj _ hl => ?_) ?_))
    · rw [(MaskOf.zero ops).getF] at hl; simp at hl
    · obtain ⟨h1, h2, hn, g, hsat, hev, ht⟩ := hh
      obtain ⟨b1, b2⟩ := Sat.same (w1 := { w with drawn := w.drawn + 1 }) hsat rfl rfl rfl (Nat.le_refl _) (fun _ _ => rfl)
      exact ⟨h1, h2, hn, g, b1, hev.trans b2, fun d => (ht d).evo b2⟩

end
end Go.SX

/- SX, part L: loops; the executor over code is sound. -/
namespace Go.SX
open Go Go.RowKit

section
variable {P : Program} {I : Ini} {C : Ctx} {w : World} {H H' : List Ent} {g : Gh} {fresh : Nat → Bool} {B0 : Nat} {X0 : Nat → Prop} {v0 : World}

/-- Each entry of the one heap stands in the other. -/
def LeH (fresh : Nat → Bool) (H H' : List Ent) : Prop := ∀ (i : Nat) (e' : Ent), H'[i]? = some e' → ∃ e, H[i]? = some e ∧ Ent.le H H' (fresh i) e e'

theorem entsLe_sound : (H0 : List Ent) → (H1 : List Ent) → (k : Nat) → entsLe fresh H H' k H0 H1 → ∀ (i : Nat) (e' : Ent), H1[i]? = some e' → ∃ e, H0[i]? = some e ∧ Ent.le H H' (fresh (k + i)) e e'
  | _, [], _, _, i, e', h => by simp at h
  | [], _ :: _, _, h, _, _, _ => h.elim
  | a :: r, b :: s, k, h, i, e', hi => by
    cases i with
    | zero => simp at hi; subst hi; exact ⟨a, rfl, h.1⟩
    | succ i =>
      obtain ⟨e, h1, h2⟩ := entsLe_sound r s (k + 1) h.2 i e' (by simpa using hi)
      exact ⟨e, by simpa using h1, by rw [show k + (i + 1) = k + 1 + i by omega]; exact h2⟩

theorem Ent.le_blocks {f : Bool} {i b : Nat} : {e e' : Ent} → Ent.le H H' f e e' → e'.blocks g i b → e.blocks g i b
  | _, .dead, _, h => h.elim
  | .blk .., .blk .., _, h => h
  | .row .., .row .., _, h => h
  | .tab .., .tab .., _, h => h
  | .iter .., .iter .., _, h => h
  | .dead, .blk .., h, _ => h.elim
  | .dead, .row .., h, _ => h.elim
  | .dead, .tab .., h, _ => h.elim
  | .blk .., .row .., h, _ => h.elim
  | .blk .., .tab .., h, _ => h.elim
  | .row .., .blk .., h, _ => h.elim
  | .row .., .tab .., h, _ => h.elim
  | .tab .., .blk .., h, _ => h.elim
  | .tab .., .row .., h, _ => h.elim
  | .dead, .iter .., h, _ => h.elim
  | .blk .., .iter .., h, _ => h.elim
  | .row .., .iter .., h, _ => h.elim
  | .tab .., .iter .., h, _ => h.elim
  | .iter .., .blk .., h, _ => h.elim
  | .iter .., .row .., h, _ => h.elim
  | .iter .., .tab .., h, _ => h.elim

theorem LeH.owned (h : LeH fresh H H') {b : Nat} (ho : Owned H' g b) : Owned H g b := by
  obtain ⟨i, e', h1, h2⟩ := ho
  obtain ⟨e, h3, h4⟩ := h i e' h1
  exact ⟨i, e, h3, Ent.le_blocks h4 h2⟩

theorem LeH.keeps (h : LeH fresh H H') : Keeps w (Stable H g) w (Stable H' g) := ⟨Nat.le_refl _, fun _ _ hs => ⟨⟨hs.1, fun ho => hs.2 (h.owned ho)⟩, rfl⟩⟩

theorem decide_iff {p q : Prop} {dp : Decidable p} {dq : Decidable q} (h : p ↔ q) : @decide p dp = @decide q dq := by
  by_cases hp : p
  · have hq := h.1 hp
    simp [hp, hq]
  · have hq : ¬ q := fun hq => hp (h.2 hq)
    simp [hp, hq]

theorem bool_iff {b : Bool} {p : Prop} {d : Decidable p} (h : b = true ↔ p) : b = @decide p d := by
  cases b with
  | true => exact (decide_eq_true (h.1 rfl)).symm
  | false => exact (decide_eq_false (fun hp => by have := h.2 hp; cases this)).symm

theorem SC.le_sound (hs : Sat B0 X0 v0 H g w) (hH : LeH fresh H H') {x y : SC} {v : Value} (h : SC.le H H' x y) (hr : x.Rep w H g v) : y.Rep w H' g v := by
  cases y with
  | any => trivial
  | int k' n' =>
    cases x with
    | int k n =>
      by_cases e : k = k'
      · subst e
        have hn : n = n' := by simpa [SC.le] using h
        subst hn
        exact hr
      · simp only [SC.le, decide_eq_false e, cond_false] at h
    | _ => exact h.elim
  | prop id q dq =>
    cases x with
    | prop _ p d => have e : v = _ := hr; rw [e]; show Value.bool _ = Value.bool _; rw [decide_iff h]
    | bool _ b =>
      have e : v = .bool _ := hr
      rw [e]; show Value.bool _ = Value.bool _
      rw [bool_iff h]
    | kb b =>
      have e : v = .bool _ := hr
      rw [e]; show Value.bool _ = Value.bool _
      rw [bool_iff h]
    | _ => exact h.elim
  | bool id b' =>
    cases x with
    | prop _ p d =>
      have h' : @decide p d = b' := h
      have e : v = _ := hr
      rw [e]; show Value.bool _ = Value.bool _; rw [h']
    | bool _ b => have h' : b = b' := h; subst h'; exact hr
    | kb b => have h' : b = b' := h; subst h'; exact hr
    | _ => exact h.elim
  | kb b' =>
    cases x with
    | kb b =>
      have h' : (bif b == b' then True else False) := h
      cases hb : b == b' with
      | false => rw [hb] at h'; exact h'.elim
      | true =>
        have : b = b' := by simpa using hb
        subst this; exact hr
    | prop id p d =>
      have e : v = .bool (@decide p d) := hr
      rw [e]; show Value.bool _ = Value.bool _
      congr 1
      cases b' with
      | true => exact decide_eq_true (p := p) h
      | false => exact decide_eq_false (p := p) h
    | bool _ b =>
      have h' : b = b' := h
      have e : v = .bool _ := hr
      rw [e]; show Value.bool _ = Value.bool _
      rw [h']
    | _ => exact h.elim
  | str s' =>
    cases x with
    | str s => have h' : s = s' := h; subst h'; exact hr
    | _ => exact h.elim
  | ptr j o' =>
    cases x with
    | ptr i o =>
      have h' : (bif Nat.beq i j && Nat.beq o o' && Nat.blt j H'.length then True else False) := h
      cases hb : (Nat.beq i j && Nat.beq o o' && Nat.blt j H'.length) with
      | false => rw [hb] at h'; exact h'.elim
      | true =>
        rw [Bool.and_eq_true, Bool.and_eq_true] at hb
        have h1 := Nat.eq_of_beq_eq_true hb.1.1
        have h2 := Nat.eq_of_beq_eq_true hb.1.2
        have h3 : j < H'.length := by simpa [Nat.blt_eq] using hb.2
        subst h1; subst h2
        exact ⟨h3, hr.2⟩
    | _ => exact h.elim
  | tab j =>
    cases x with
    | tab i =>
      have h' : (bif Nat.beq i j && Nat.blt j H'.length then True else False) := h
      cases hb : (Nat.beq i j && Nat.blt j H'.length) with
      | false => rw [hb] at h'; exact h'.elim
      | true =>
        rw [Bool.and_eq_true] at hb
        have h1 := Nat.eq_of_beq_eq_true hb.1
        have h3 : j < H'.length := by simpa [Nat.blt_eq] using hb.2
        subst h1
        exact ⟨h3, hr.2⟩
    | _ => exact h.elim
  | ro t' xs' =>
    cases x with
    | ro t xs =>
      have h' : if h : t = t' then (h ▸ xs) = xs' else False := h
      split at h'
      · rename_i ht
        subst ht
        subst h'
        exact Ty.Rep.mono hH.keeps (.slice t) hr
      · exact h'.elim
    | raw u =>
      have h' : (bif isNil u then xs' = [] else False) := h
      cases hu : isNil u with
      | false => rw [hu] at h'; exact h'.elim
      | true =>
        rw [hu] at h'
        have hx : xs' = [] := h'
        subst hx
        have e : v = u := hr
        exact ⟨none, 0, by rw [e, isNil_eq hu]; rfl, Nat.le_refl _, fun h => absurd rfl h⟩
    | own i ver =>
      have h' : (match H[i]? with
        | some (.row _ t ver1 xs) => bif Nat.beq ver ver1 && goneE H'[i]? then (if h : t = t' then (h ▸ xs) = xs' else False) else False
        | _ => False) := h
      cases he : H[i]? with
      | none => rw [he] at h'; exact h'.elim
      | some en =>
        rw [he] at h'
        cases en with
        | dead => exact h'.elim
        | blk => exact h'.elim
        | tab => exact h'.elim
        | iter => exact h'.elim
        | row e t ver1 xs =>
          simp only at h'
          cases hb : (Nat.beq ver ver1 && goneE H'[i]?) with
          | false => rw [hb] at h'; exact h'.elim
          | true =>
            rw [hb] at h'
            simp only [cond_true] at h'
            rw [Bool.and_eq_true] at hb
            split at h'
            · rename_i ht
              subst ht
              subst h'
              have hx : Reps w H g [.own i ver] [v] := ⟨rfl, fun j c u h1 h2 => by
                cases j with
                | zero => simp at h1 h2; subst h1; subst h2; exact hr
                | succ j => simp at h1⟩
              obtain ⟨y, cs, r, vr, H1, a1, a2, a3, _, _, _, a6, _, a8⟩ := dat_sound (ok := fun _ => True) false (.slice t) hs hx (K := fun y r H1 => y = xs ∧ r = [] ∧ H1 = H.set i .dead) (by
                simp only [Ty.dat, he, hb.1, cond_true, cond_false]
                rw [dif_pos trivial]
                simp) (fun h => by cases h)
              obtain ⟨e1, e2, e3⟩ := a8
              subst e1
              subst e2
              subst e3
              have hcs := a6 rfl
              have hl := Ty.Rep.len _ hcs
              have e4 : cs = [v] := by
                cases cs with
                | nil => simp [Ty.size] at hl
                | cons c cr =>
                  have : cr = [] := by
                    have h3 : (c :: cr).length = 1 := hl
                    exact List.eq_nil_of_length_eq_zero (by simpa using h3)
                  subst this
                  simp at a1
                  rw [a1.1]
              rw [e4] at hcs
              refine Ty.Rep.mono ⟨Nat.le_refl _, fun b _ hst => ⟨⟨hst.1, ?_⟩, rfl⟩⟩ (.slice t) hcs
              rintro ⟨j, f, hj, hbj⟩
              obtain ⟨f0, k1, k2⟩ := hH j f hj
              have hji : j ≠ i := by
                rintro rfl
                rw [hj] at hb
                cases f with
                | dead => exact hbj
                | blk => exact absurd hb.2 (by simp [goneE])
                | row => exact absurd hb.2 (by simp [goneE])
                | tab => exact absurd hb.2 (by simp [goneE])
                | iter => exact absurd hb.2 (by simp [goneE])
              exact hst.2 ⟨j, f0, by rw [List.getElem?_set_ne (Ne.symm hji)]; exact k1, Ent.le_blocks k2 hbj⟩
            · exact h'.elim
    | _ => exact h.elim
  | raw u' =>
    cases x with
    | raw u => have h' : u = u' := h; subst h'; exact hr
    | _ => exact h.elim
  | own j ver' =>
    cases x with
    | own i ver =>
      cases hb : Nat.beq i j with
      | false => simp only [SC.le, hb, cond_false] at h
      | true =>
        simp only [SC.le, hb, cond_true] at h
        have hij := Nat.eq_of_beq_eq_true hb
        subst hij
        obtain ⟨h1, hr⟩ := hr
        unfold OwnRep at hr
        cases q1 : H[i]? with
        | none => rw [q1] at hr; exact hr.elim
        | some en =>
          cases q2 : H'[i]? with
          | none => rw [q1, q2] at h; cases en <;> exact h.elim
          | some en' =>
            rw [q1, q2] at h
            cases en with
            | dead => exact h.elim
            | blk => exact h.elim
            | tab => exact h.elim
            | iter => exact h.elim
            | row e t v1 xs =>
              cases en' with
              | dead => exact h.elim
              | blk => exact h.elim
              | tab => exact h.elim
              | iter => exact h.elim
              | row e' t' v2 xs' =>
                simp only at h
                rw [q1] at hr
                cases hb2 : (Nat.beq ver v1 && Nat.beq ver' v2) with
                | false => rw [hb2] at h; exact h.elim
                | true =>
                  rw [Bool.and_eq_true] at hb2
                  have e1 := Nat.eq_of_beq_eq_true hb2.1
                  have e2 := Nat.eq_of_beq_eq_true hb2.2
                  refine ⟨h1, ?_⟩
                  unfold OwnRep
                  rw [q2]
                  exact ⟨by omega, fun _ => hr.2 e1⟩
    | _ => exact h.elim
  | fn f' cs' =>
    cases x with
    | fn f cs =>
      have h' : (bif Nat.beq f f' && natsEq cs cs' && cs.all (fun i => Nat.blt i H'.length) then True else False) := h
      cases hb : (Nat.beq f f' && natsEq cs cs' && cs.all (fun i => Nat.blt i H'.length)) with
      | false => rw [hb] at h'; exact h'.elim
      | true =>
        rw [Bool.and_eq_true, Bool.and_eq_true] at hb
        have hf := Nat.eq_of_beq_eq_true hb.1.1
        have hc : cs = cs' := natsEq_eq hb.1.2
        subst hf; subst hc
        exact ⟨hr.1, fun i hi => by have := List.all_eq_true.1 hb.2 i hi; simpa [Nat.blt_eq] using this⟩
    | _ => exact h.elim
  | bfn f' cs' =>
    cases x with
    | bfn f cs =>
      have h' : (bif Nat.beq f f' && natsEq cs cs' && cs.all (fun i => Nat.blt i H'.length) then True else False) := h
      cases hb : (Nat.beq f f' && natsEq cs cs' && cs.all (fun i => Nat.blt i H'.length)) with
      | false => rw [hb] at h'; exact h'.elim
      | true =>
        rw [Bool.and_eq_true, Bool.and_eq_true] at hb
        have hf := Nat.eq_of_beq_eq_true hb.1.1
        have hc : cs = cs' := natsEq_eq hb.1.2
        subst hf; subst hc
        exact ⟨hr.1, fun i hi => by have := List.all_eq_true.1 hb.2 i hi; simpa [Nat.blt_eq] using this⟩
    | _ => exact h.elim
  | suf j ver' n' =>
    cases x with
    | suf i ver n =>
      cases hb : Nat.beq i j with
      | false => simp only [SC.le, hb, cond_false] at h
      | true =>
        simp only [SC.le, hb, cond_true] at h
        have hij := Nat.eq_of_beq_eq_true hb
        subst hij
        obtain ⟨h1, hr⟩ := hr
        unfold SufRep at hr
        cases q1 : H[i]? with
        | none => rw [q1] at hr; exact hr.elim
        | some en =>
          cases q2 : H'[i]? with
          | none => rw [q1, q2] at h; cases en <;> exact h.elim
          | some en' =>
            rw [q1, q2] at h
            cases en with
            | dead => exact h.elim
            | blk => exact h.elim
            | tab => exact h.elim
            | iter => exact h.elim
            | row e t v1 xs =>
              cases en' with
              | dead => exact h.elim
              | blk => exact h.elim
              | tab => exact h.elim
              | iter => exact h.elim
              | row e' t' v2 xs' =>
                simp only at h
                rw [q1] at hr
                cases hb2 : (Nat.beq ver v1 && Nat.beq ver' v2 && Nat.beq t.size t'.size) with
                | false => rw [hb2] at h; exact h.elim
                | true =>
                  rw [hb2] at h
                  simp only [cond_true] at h
                  rw [Bool.and_eq_true, Bool.and_eq_true] at hb2
                  have e1 := Nat.eq_of_beq_eq_true hb2.1.1
                  have e2 := Nat.eq_of_beq_eq_true hb2.1.2
                  have e3 := Nat.eq_of_beq_eq_true hb2.2
                  obtain ⟨h3, h4⟩ := h
                  subst h3
                  refine ⟨h1, ?_⟩
                  unfold SufRep
                  rw [q2]
                  exact ⟨by omega, fun _ => by rw [← h4, ← e3]; exact hr.2 e1⟩
    | _ => exact h.elim
  | roa => cases x <;> exact h.elim
  | owna => cases x <;> exact h.elim
  | pre => cases x <;> exact h.elim

theorem leL_sound (hs : Sat B0 X0 v0 H g w) (hH : LeH fresh H H') : {l m : List SC} → {vs : List Value} → leL H H' l m → Reps w H g l vs → Reps w H' g m vs
  | [], [], vs, _, hr => ⟨hr.1, fun j c v h1 _ => by simp at h1⟩
  | x :: r, y :: s, vs, h, hr => by
    match vs, hr with
    | [], hr => exact absurd hr.1 (by simp)
    | v :: vs, hr =>
      have ih := leL_sound hs hH (vs := vs) h.2 ⟨by simpa using hr.1, fun j c u h1 h2 => hr.2 (j + 1) c u (by simpa using h1) (by simpa using h2)⟩
      refine ⟨by simp [ih.1], fun j c u h1 h2 => ?_⟩
      cases j with
      | zero => simp at h1 h2; subst h1; subst h2; exact SC.le_sound hs hH h.1 (hr.2 0 x v rfl rfl)
      | succ j => exact ih.2 j c u (by simpa using h1) (by simpa using h2)
  | [], _ :: _, _, h, _ => h.elim
  | _ :: _, [], _, h, _ => h.elim

theorem SV.le_sound (hs : Sat B0 X0 v0 H g w) (hH : LeH fresh H H') {x y : SV} {v : Value} (h : SV.le H H' x y) (hr : x.Rep w H g v) : y.Rep w H' g v := by
  unfold SV.le at h
  split at h
  · trivial
  · exact SC.le_sound hs hH h hr
  · obtain ⟨vs, h1, h2, h3⟩ := hr; exact ⟨vs, h1, leL_sound hs hH h h2, h3⟩
  · exact h.elim

theorem Ent.le_OK {B : Nat} {X : Nat → Prop} (hs : Sat B0 X0 v0 H g w) (hH : LeH fresh H H') {i : Nat} {f : Bool} : {e e' : Ent} → Ent.le H H' f e e' → e.OK B X w H g i → e'.OK B X w H' g i
  | _, .dead, _, _ => trivial
  | .blk t cs, .blk t' cs', h, ⟨vs, h1, h2, h3, h4⟩ => by
    simp only [Ent.le] at h
    cases hb : Nat.beq t t' with
    | false => rw [hb] at h; exact h.elim
    | true =>
      rw [hb] at h
      have := Nat.eq_of_beq_eq_true hb
      subst this
      exact ⟨vs, h1, leL_sound hs hH h h2, h3, h4⟩
  | .row e t ver xs, .row e' t' ver' xs', h, ⟨cells, h1, h2, h3, h4⟩ => by
    simp only [Ent.le] at h
    cases hb : (Nat.beq e e' && (f || Nat.beq ver ver')) with
    | false => rw [hb] at h; exact h.elim
    | true =>
      rw [hb] at h
      rw [Bool.and_eq_true] at hb
      have := Nat.eq_of_beq_eq_true hb.1
      subst this
      simp only [cond_true] at h
      split at h
      · rename_i ht
        subst ht
        subst h
        exact ⟨cells, h1, h2.mono (fun _ _ h => Ty.Rep.mono hH.keeps t h) (fun _ _ h => h), h3, h4⟩
      · exact h.elim
  | .tab a t es, .tab a' t' es', h, ⟨ents, c, h1, h2, h3⟩ => by
    simp only [Ent.le] at h
    cases hb : (a == a') with
    | false => rw [hb] at h; exact h.elim
    | true =>
      rw [hb] at h
      simp only [cond_true] at h
      have : a = a' := by simpa using hb
      subst this
      split at h
      · rename_i ht
        subst ht
        subst h
        exact ⟨ents, c, h1, ⟨h2.1.mono hH.keeps, h2.2⟩, h3⟩
      · exact h.elim
  | .iter j a t l c, .iter j' a' t' l' c', h, ⟨es, ents, clock, since, c0, seen, h1, h2, h3, ⟨h4, h5, h6, ⟨h7, h8⟩, h9⟩, h10⟩ => by
    simp only [Ent.le] at h
    cases hb : (Nat.beq j j' && a == a') with
    | false => rw [hb] at h; exact h.elim
    | true =>
      rw [hb] at h
      simp only [cond_true] at h
      rw [Bool.and_eq_true] at hb
      have hj := Nat.eq_of_beq_eq_true hb.1
      have ha : a = a' := by simpa using hb.2
      subst hj; subst ha
      split at h
      · rename_i ht
        subst ht
        obtain ⟨⟨k1, k2⟩, k3⟩ := h
        have k1 : l = l' := k1
        subst k1
        rw [h1] at k3
        cases q : H'[j]? with
        | none => rw [q] at k3; exact k3.elim
        | some en =>
          rw [q] at k3
          cases en with
          | dead => exact k3.elim
          | blk => exact k3.elim
          | row => exact k3.elim
          | iter => exact k3.elim
          | tab a2 t2 es2 =>
            simp only at k3
            cases hb2 : (a == a2) with
            | false => rw [hb2] at k3; exact k3.elim
            | true =>
              rw [hb2] at k3
              simp only [cond_true] at k3
              have ha2 : a = a2 := by simpa using hb2
              subst ha2
              split at k3
              · rename_i ht2
                subst ht2
                have k3 : es = es2 := k3
                subst k3
                have hc : ∀ p, c' = some p → c = some p := fun p hp => by subst hp; exact k2
                exact ⟨es, ents, clock, since, c0, seen, q, h2, h3, ⟨h4, h5, h6, ⟨h7, fun p hp => h8 p (hc p hp)⟩, fun hne => by
                  cases c' with
                  | none => exact absurd rfl hne
                  | some p => exact h9 (by rw [hc p rfl]; simp)⟩, h10⟩
              · exact k3.elim
      · exact h.elim
  | .dead, .blk .., h, _ => h.elim
  | .dead, .row .., h, _ => h.elim
  | .dead, .tab .., h, _ => h.elim
  | .blk .., .row .., h, _ => h.elim
  | .blk .., .tab .., h, _ => h.elim
  | .row .., .blk .., h, _ => h.elim
  | .row .., .tab .., h, _ => h.elim
  | .tab .., .blk .., h, _ => h.elim
  | .tab .., .row .., h, _ => h.elim
  | .dead, .iter .., h, _ => h.elim
  | .blk .., .iter .., h, _ => h.elim
  | .row .., .iter .., h, _ => h.elim
  | .tab .., .iter .., h, _ => h.elim
  | .iter .., .blk .., h, _ => h.elim
  | .iter .., .row .., h, _ => h.elim
  | .iter .., .tab .., h, _ => h.elim

theorem slotsLe_sound (hs : Sat B0 X0 v0 H g w) (hH : LeH fresh H H') {t : List (Nat × SV)} {get : Nat → Value} (ht : ∀ d, (findT d t).Rep w H g (get d)) : (l : List (Nat × SV)) → slotsLe t H H' l → ∀ d, (findT d l).Rep w H' g (get d)
  | [], _, d => trivial
  | (k, v) :: r, h, d => by
    unfold findT
    cases hk : Nat.beq k d with
    | true =>
      have := Nat.eq_of_beq_eq_true hk
      subst this
      exact SV.le_sound hs hH h.1 (ht k)
    | false => exact slotsLe_sound hs hH ht r h.2 d

theorem St.le_sound {st inv : St} {a : Act} (hn : st.n = inv.n) (h : St.le fresh st inv) (hlen : I.Hi.length ≤ inv.h.length)
    (hver : ∀ i e t ver xs, i < I.Hi.length → fresh i = true → inv.h[i]? = some (.row e t ver xs) → ∀ ver0 xs0, I.Hi[i]? = some (.row e t ver0 xs0) → ver0 < ver)
    (hh : Holds I st a w) : Holds I inv a w := by
  obtain ⟨h1, h2, hn0, g, hs, hev, ht⟩ := hh
  have hH : LeH fresh st.h inv.h := fun i e' hi => by
    obtain ⟨e, q1, q2⟩ := entsLe_sound st.h inv.h 0 h.1 i e' hi
    rw [Nat.zero_add] at q2
    exact ⟨e, q1, q2⟩
  refine ⟨h1, h2.trans hn, hn.symm.trans hn0, g, ⟨hs.os, hs.tape, hs.output, hs.size0, hs.hB, hs.okB, hs.old, fun i e' hi => ?_, fun i j e' f' b hi hj hbi hbj => ?_⟩, ⟨hev.ok, hev.keeps.trans hH.keeps, hlen, fun i hi => hev.ptr i hi, fun i e t ver xs hi hr => ?_⟩, slotsLe_sound hs hH ht inv.t h.2⟩
  · obtain ⟨e, q1, q2⟩ := hH i e' hi
    exact Ent.le_OK hs hH q2 (hs.ents i e q1)
  · obtain ⟨e, q1, q2⟩ := hH i e' hi
    obtain ⟨f, q3, q4⟩ := hH j f' hj
    exact hs.apart i j e f b q1 q3 (Ent.le_blocks q2 hbi) (Ent.le_blocks q4 hbj)
  · obtain ⟨e0, q1, q2⟩ := hH i _ hr
    cases e0 with
    | dead => exact q2.elim
    | blk => exact q2.elim
    | tab => exact q2.elim
    | iter => exact q2.elim
    | row e1 t1 ver1 xs1 =>
      simp only [Ent.le] at q2
      cases hb : (Nat.beq e1 e && (fresh i || Nat.beq ver1 ver)) with
      | false => rw [hb] at q2; exact q2.elim
      | true =>
        rw [hb] at q2
        rw [Bool.and_eq_true] at hb
        have e1e := Nat.eq_of_beq_eq_true hb.1
        subst e1e
        simp only [cond_true] at q2
        split at q2
        · rename_i htt
          subst htt
          subst q2
          obtain ⟨ver0, xs0, r1, r2⟩ := hev.row i _ _ _ _ hi q1
          refine ⟨ver0, xs0, r1, ?_⟩
          cases hf : fresh i with
          | true => exact .inl (hver i _ _ _ _ hi hf hr ver0 xs0 r1)
          | false =>
            rw [hf] at hb
            have : ver1 = ver := Nat.eq_of_beq_eq_true (by simpa using hb.2)
            subst this
            exact r2
        · exact q2.elim

theorem setEnts_length (H0 : List Ent) : (l : List (Nat × Ent)) → (H : List Ent) → (setEnts H0 l H).length = H.length
  | [], _ => rfl
  | (i, e) :: r, H => by
    unfold setEnts
    split
    · rw [setEnts_length]; simp
    · exact setEnts_length H0 r H

theorem setEnts_get (H0 : List Ent) : (l : List (Nat × Ent)) → (H : List Ent) → ∀ (i : Nat) (e' : Ent), (setEnts H0 l H)[i]? = some e' → H[i]? = some e' ∨ ∃ old e, H0[i]? = some old ∧ e' = bumpE old e
  | [], H, i, e', h => .inl h
  | (k, e) :: r, H, i, e', h => by
    unfold setEnts at h
    split at h
    · rename_i old hold
      rcases setEnts_get H0 r _ i e' h with h1 | h1
      · rw [List.getElem?_set] at h1
        split at h1
        · rename_i hk
          subst hk
          split at h1
          · cases h1; exact .inr ⟨old, e, hold, rfl⟩
          · cases h1
        · exact .inl h1
      · exact .inr h1
    · exact setEnts_get H0 r H i e' h

theorem setEnts_old (H0 : List Ent) : (l : List (Nat × Ent)) → (H : List Ent) → (i : Nat) → (∀ p ∈ l, p.1 ≠ i) → (setEnts H0 l H)[i]? = H[i]?
  | [], _, _, _ => rfl
  | (k, e) :: r, H, i, h => by
    unfold setEnts
    have hk : k ≠ i := h (k, e) (by simp)
    split
    · rw [setEnts_old H0 r _ i (fun p hp => h p (by simp [hp])), List.getElem?_set_ne hk]
    · exact setEnts_old H0 r H i (fun p hp => h p (by simp [hp]))

theorem setEnts_new (H0 : List Ent) : (l : List (Nat × Ent)) → (H : List Ent) → H.length = H0.length → (i : Nat) → i < H0.length → (∃ p ∈ l, p.1 = i) → ∃ old e, (i, e) ∈ l ∧ H0[i]? = some old ∧ (setEnts H0 l H)[i]? = some (bumpE old e)
  | [], _, _, _, _, h => by obtain ⟨p, hp, _⟩ := h; simp at hp
  | (k, e) :: r, H, hl, i, hi, h => by
    by_cases hr : ∃ p ∈ r, p.1 = i
    · unfold setEnts
      split
      · obtain ⟨o, e', q1, q2⟩ := setEnts_new H0 r (H.set k (bumpE _ e)) (by simp [hl]) i hi hr
        exact ⟨o, e', List.mem_cons_of_mem _ q1, q2⟩
      · obtain ⟨o, e', q1, q2⟩ := setEnts_new H0 r H hl i hi hr
        exact ⟨o, e', List.mem_cons_of_mem _ q1, q2⟩
    · have hki : k = i := by
        obtain ⟨p, hp, hpi⟩ := h
        rcases List.mem_cons.1 hp with h | h
        · rw [h] at hpi; exact hpi
        · exact absurd ⟨p, h, hpi⟩ hr
      subst hki
      have hold : H0[k]? = some H0[k] := List.getElem?_eq_getElem hi
      unfold setEnts
      rw [hold]
      refine ⟨H0[k], e, List.mem_cons_self, rfl, ?_⟩
      simp only
      rw [setEnts_old H0 r _ k (fun p hp hpk => hr ⟨p, hp, hpk⟩), List.getElem?_set_self (by omega)]

/-- At the head of a loop the versions are as they must be. -/
theorem head_ver {an : Ann} {st : St} {a : Act} (hh : Holds I st a w) (x : an.τ) : ∀ i e t ver xs, i < I.Hi.length → an.fresh x i = true → (an.head st x).h[i]? = some (.row e t ver xs) → ∀ ver0 xs0, I.Hi[i]? = some (.row e t ver0 xs0) → ver0 < ver := by
  intro i e t ver xs hi hf hr ver0 xs0 h0
  obtain ⟨_, _, _, g, hs, hev, _⟩ := hh
  have hlen : i < st.h.length := Nat.lt_of_lt_of_le hi hev.len
  unfold Ann.fresh at hf
  rw [Bool.and_eq_true, Bool.not_eq_true', List.any_eq_true, List.any_eq_false] at hf
  have hmem : ∃ p ∈ an.ents x, p.1 = i := by
    obtain ⟨p, hp, hpi⟩ := hf.1
    exact ⟨p, hp, Nat.eq_of_beq_eq_true hpi⟩
  obtain ⟨old, e1, q0, q1, q2⟩ := setEnts_new st.h (an.ents x) st.h rfl i hlen hmem
  have hk0 : keepE e1 = false := by
    have := hf.2 _ q0
    simpa using this
  have hr' : (setEnts st.h (an.ents x) st.h)[i]? = some (.row e t ver xs) := hr
  rw [q2] at hr'
  have hb := Option.some.inj hr'
  cases old with
  | dead => cases e1 <;> simp [bumpE] at hb
  | blk => cases e1 <;> simp [bumpE] at hb
  | tab => cases e1 <;> simp [bumpE] at hb
  | iter => cases e1 <;> simp [bumpE] at hb
  | row e2 t2 ver2 xs2 =>
    obtain ⟨v0, x0, r1, r2⟩ := hev.row i _ _ _ _ hi q1
    rw [h0] at r1
    have r1' := Option.some.inj r1
    cases e1 with
    | dead => simp [bumpE] at hb
    | blk => simp [bumpE] at hb
    | tab => simp [bumpE] at hb
    | iter => simp [bumpE] at hb
    | row e3 t3 ver3 xs3 =>
      simp only [bumpE, Ent.row.injEq] at hb r1'
      have hv0 : ver0 = v0 := r1'.2.2.1
      have hk1 : Nat.beq ver3 0 = true := by simpa [keepE] using hk0
      have hv : ver2 + 1 = ver := by have := hb.2.2.1; rw [hk1] at this; exact this
      rcases r2 with r2 | ⟨r2, _⟩ <;> omega

theorem head_len (an : Ann) (st : St) (x : an.τ) : (an.head st x).h.length = st.h.length := setEnts_length _ _ _

theorem matSlots_sound : (l : List (Nat × TypeId × Ty)) → {st : St} → {a : Act} → Holds I st a w → Holds I (matSlots l st) a w
  | [], st, a, h => h
  | (d, e, t) :: r, st, a, h => by
    unfold matSlots
    split
    · rename_i u heq
      cases hb : (isNil u && Nat.blt d st.n) with
      | false => exact matSlots_sound r h
      | true =>
        refine matSlots_sound r ?_
        rw [Bool.and_eq_true] at hb
        obtain ⟨h1, h2, hn, g, hs, hev, ht⟩ := h
        have hd := ht d
        rw [heq] at hd
        have hv : a.tmps.getD d undef = .slice none 0 0 := by
          have : a.tmps.getD d undef = u := hd
          rw [this, isNil_eq hb.1]
        obtain ⟨g', b1, b2, b3⟩ := new_row hs e t (xs := []) (w1 := w) (World.grownBy.refl w none) (v := .slice none 0 0) (cells := []) (World.ownsRow_nil w 0 e t.size) (fun b hb => by simp [Value.ownBlock] at hb)
          (fun i x hx => by simp at hx) (fun u hu => by simp at hu)
        refine ⟨h1, h2, hn, g', b1, hev.trans b2, fun k => ?_⟩
        unfold findT
        cases hk : Nat.beq d k with
        | true =>
          have := Nat.eq_of_beq_eq_true hk
          subst this
          rw [hv]
          exact own_rep (w := w) (e := e) (T := t) (xs := []) (by simp) b3 rfl
        | false => exact (ht k).evo b2
    · exact matSlots_sound r h

theorem matCells_sound : (l : List (Nat × Nat × TypeId × Ty)) → {st : St} → {a : Act} → Holds I st a w → Holds I (matCells l st) a w
  | [], st, a, h => h
  | (i, o, e, t) :: r, st, a, h => by
    unfold matCells
    split
    · rename_i ty cs heq
      split
      · rename_i u hcell
        cases hb : isNil u with
        | false => exact matCells_sound r h
        | true =>
          refine matCells_sound r ?_
          obtain ⟨h1, h2, hn, g, hs, hev, ht⟩ := h
          obtain ⟨g', b1, b2, b3⟩ := new_row hs e t (xs := []) (w1 := w) (World.grownBy.refl w none) (v := .slice none 0 0) (cells := []) (World.ownsRow_nil w 0 e t.size) (fun b hb => by simp [Value.ownBlock] at hb)
            (fun i x hx => by simp at hx) (fun u hu => by simp at hu)
          have hi : i < st.h.length := (List.getElem?_eq_some_iff.1 heq).1
          have heq' : (st.h ++ [Ent.row e t 0 []])[i]? = some (.blk ty cs) := by rw [List.getElem?_append_left hi]; exact heq
          obtain ⟨c1, c2⟩ := Sat.upd (g1 := g') (w1 := w) b1 i _ (.blk ty (cs.set o (.own st.h.length 0))) heq' rfl (fun _ => rfl) (fun _ _ => rfl) rfl rfl rfl (Nat.le_refl _) (fun _ _ _ => rfl) (fun _ h => .inl h) (fun _ _ _ _ h => by cases h) (fun hev' => by
            obtain ⟨vs, k1, k2, k3, k4⟩ := b1.ents i _ heq'
            refine ⟨vs, k1, ?_, k3, k4⟩
            have hr := k2.evo hev'
            refine ⟨by simp [hr.1], fun j c v q1 q2 => ?_⟩
            rw [List.getElem?_set] at q1
            split at q1
            · rename_i hoj
              subst hoj
              split at q1
              · cases q1
                have hu := k2.2 o _ v hcell q2
                have hvn : v = .slice none 0 0 := by have : v = u := hu; rw [this, isNil_eq hb]
                subst hvn
                refine own_rep (w := w) (e := e) (T := t) (xs := []) ?_ b3 rfl
                rw [List.getElem?_set_ne (by omega)]
                simp
              · cases q1
            · exact hr.2 j c v q1 q2)
          exact ⟨h1, h2, hn, g', c1, (hev.trans b2).trans c2, fun k => ((ht k).evo b2).evo c2⟩
      · exact matCells_sound r h
    · exact matCells_sound r h

theorem matSlots_n : (l : List (Nat × TypeId × Ty)) → (st : St) → (matSlots l st).n = st.n
  | [], _ => rfl
  | (d, e, t) :: r, st => by
    unfold matSlots
    split
    · rename_i u _
      cases isNil u && Nat.blt d st.n <;> exact matSlots_n r _
    · exact matSlots_n r st

theorem matCells_n : (l : List (Nat × Nat × TypeId × Ty)) → (st : St) → (matCells l st).n = st.n
  | [], _ => rfl
  | (i, o, e, t) :: r, st => by
    unfold matCells
    split
    · split
      · rename_i u _
        cases isNil u <;> exact matCells_n r _
      · exact matCells_n r st
    · exact matCells_n r st

/-- The executor keeps the size of the frame. -/
theorem exec_sound (hC : CtxOK P C) : (c : Code) → {n : Nat} → {st : St} → {Q : Ex → St → Prop} → {a : Act} → {w : World} → exec C c n st Q → Holds I st a w → c.wp P (QR I Q) a w
  | .skip, n, st, Q, a, w, h, hh => wp_skip ⟨.normal, st, rfl, h, hh⟩
  | .region _ ops draw, n, st, Q, a, w, h, hh => by
    unfold exec at h
    cases draw with
    | true =>
      exact execDraw_sound hC (by rintro c a w ⟨x, st, e, _⟩; cases x <;> cases e) (fun st a w hq hh => ⟨.normal, st, rfl, hq, hh⟩) h hh
    | false =>
      exact wp_region_list (execOps_sound hC (QR I Q) ops.toList (fun st a w hq hh => ⟨.normal, st, rfl, hq, hh⟩) h hh)
  | .seq x y, n, st, Q, a, w, h, hh => by
    unfold exec at h
    refine wp_seq (wp_mono (exec_sound hC x h hh) ?_)
    rintro e a' w' ⟨ex, st', rfl, hq, hh'⟩
    cases ex with
    | normal => exact exec_sound hC y hq hh'
    | exit id => exact ⟨.exit id, st', rfl, hq, hh'⟩
    | ret => exact ⟨.ret, st', rfl, hq, hh'⟩
  | .cond c x y, n, st, Q, a, w, h, hh => by
    unfold exec at h
    obtain ⟨b, hv, hA, hB⟩ := condS_sound hh (fun g _ ht => ev_rep ht c) h
    refine wp_cond hv ?_
    cases b with
    | true => obtain ⟨st', k1, k2, _⟩ := hA rfl; exact exec_sound hC x k1 k2
    | false => obtain ⟨st', k1, k2, _⟩ := hB rfl; exact exec_sound hC y k1 k2
  | .block id c, n, st, Q, a, w, h, hh => by
    unfold exec at h
    refine wp_block (wp_mono (exec_sound hC c h hh) ?_)
    rintro e a' w' ⟨ex, st', rfl, hq, hh'⟩
    cases ex with
    | normal => exact ⟨.normal, st', rfl, hq, hh'⟩
    | exit j =>
      show if j = id then QR I Q .normal a' w' else QR I Q (.exit j) a' w'
      cases hj : Nat.beq j id with
      | true =>
        rw [if_pos (Nat.eq_of_beq_eq_true hj)]
        simp only [hj, cond_true] at hq
        exact ⟨.normal, st', rfl, hq, hh'⟩
      | false =>
        rw [if_neg (Nat.ne_of_beq_eq_false hj)]
        simp only [hj, cond_false] at hq
        exact ⟨.exit j, st', rfl, hq, hh'⟩
    | ret => exact ⟨.ret, st', rfl, hq, hh'⟩
  | .loop c, n, st, Q, a, w, h, hh => by
    unfold exec at h
    cases han : C.ann n with
    | none => rw [han] at h; exact h.elim
    | some f =>
      rw [han] at h
      simp only at h
      generalize f st = an at h
      obtain ⟨⟨x0, hx0, hle⟩, hround⟩ := h
      generalize hst : matCells an.preC (matSlots an.pre st) = st1 at hle hround
      have hh1 : Holds I st1 a w := by rw [← hst]; exact matCells_sound _ (matSlots_sound _ hh)
      have hlen : ∀ x, I.Hi.length ≤ (an.head st1 x).h.length := fun x => by
        rw [head_len]; obtain ⟨_, _, _, g, _, hev, _⟩ := hh1; exact hev.len
      have hver := fun x => head_ver (an := an) hh1 x
      refine wp_loop_ghost (fun k a w => ∃ x, an.ok x ∧ an.m x = k ∧ Holds I (an.head st1 x) a w) (an.m x0) ⟨x0, hx0, rfl, St.le_sound (st := st1) rfl hle (hlen x0) (hver x0) hh1⟩ ?_
      rintro k a' w' ⟨x, hx, rfl, hhx⟩
      refine wp_mono (exec_sound hC c (hround x hx) hhx) ?_
      rintro e a2 w2 ⟨ex, st2, rfl, hq, hh2⟩
      cases ex with
      | normal =>
        obtain ⟨x', hx', hlt, hle'⟩ := hq
        exact ⟨an.m x', hlt, x', hx', rfl, St.le_sound (hh2.n.trans hh1.n.symm) hle' (hlen x') (hver x') hh2⟩
      | exit id => exact ⟨.exit id, st2, rfl, hq, hh2⟩
      | ret => exact ⟨.ret, st2, rfl, hq, hh2⟩
  | .exit id, n, st, Q, a, w, h, hh => wp_exit ⟨.exit id, st, rfl, h, hh⟩
  | .ret, n, st, Q, a, w, h, hh => wp_ret ⟨.ret, st, rfl, h, hh⟩
  | .label l, n, st, Q, a, w, h, hh => wp_label ⟨.normal, st, rfl, h, hh⟩
  | .goto _, _, _, _, _, _, h, _ => h.elim
  | .rangeFunc .., _, _, _, _, _, h, _ => h.elim
  | .scope _, _, _, _, _, _, h, _ => h.elim
  | .refuse _, _, _, _, _, _, h, _ => h.elim

end
end Go.SX
