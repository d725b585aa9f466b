/- SX, part J: every operation of the executor is sound. -/
import Derived.Test.YtfbgbdiajghnbaaDoorSxIM
import Derived.Laws.BytesString
namespace Go.SX
open Go Go.RowKit

section
variable {P : Program} {B : Nat} {X : Nat → Prop} {w0 w : World} {H : List Ent} {g : Gh} {t : TypeId} {ti : TI} {C : Ctx}

theorem store_sound (hs : Sat B X w0 H g w) (hti : TIok P t ti) {a x : SV} {va vx : Value} (ha : a.Rep w H g va) (hx : x.Rep w H g vx) {K : List Ent → Prop} (h : storeS ti.size a x H K) :
    ∃ w1 H1 g1, (Instr.storeAt t va vx).run P w = .ok () w1 ∧ K H1 ∧ Sat B X w0 H1 g1 w1 ∧ Evo w H g w1 H1 g1 := by
  unfold storeS at h
  cases hc : x.cells with
  | none => rw [hc] at h; exact h.elim
  | some l =>
    rw [hc] at h
    simp only at h
    cases hb : Nat.beq l.length ti.size with
    | false => rw [hb] at h; exact h.elim
    | true =>
      rw [hb] at h
      simp only [cond_true] at h
      have hl := Nat.eq_of_beq_eq_true hb
      obtain ⟨hr, h1⟩ := SV.cells_rep hc hx
      split at h
      · rename_i i off
        obtain ⟨_, e⟩ := ha
        subst e
        cases he : H[i]? with
        | none => rw [he] at h; exact h.elim
        | some en =>
          rw [he] at h
          cases en with
          | dead => exact h.elim
          | row => exact h.elim
          | tab => exact h.elim
          | blk ty cs =>
            simp only at h
            cases hb2 : Nat.ble (off + ti.size) cs.length with
            | false => rw [hb2] at h; exact h.elim
            | true =>
              rw [hb2] at h
              obtain ⟨w1, r1, r2, r3⟩ := store_blk hs hti he (Nat.le_of_ble_eq_true hb2) hr h1 hl
              exact ⟨w1, _, g, by simp [Instr.storeAt, Instr.sureAddr, r1], h, r2, r3⟩
      · rename_i i ver k off
        obtain ⟨_, hrep⟩ := ha
        unfold OwnaRep at hrep
        cases he : H[i]? with
        | none => rw [he] at h; exact h.elim
        | some en =>
          rw [he] at h hrep
          cases en with
          | dead => exact h.elim
          | blk => exact h.elim
          | tab => exact h.elim
          | row e T ver' xs =>
            simp only at h hrep
            cases hb2 : (Nat.beq ver ver' && Nat.ble (off + ti.size) T.size) with
            | false => rw [hb2] at h; exact h.elim
            | true =>
              rw [hb2] at h
              simp only [cond_true] at h
              rw [Bool.and_eq_true] at hb2
              have hv := Nat.eq_of_beq_eq_true hb2.1
              have hle := Nat.le_of_ble_eq_true hb2.2
              subst hv
              obtain ⟨hk, b, hbk, hva⟩ := hrep.2 rfl
              obtain ⟨cells, ho, hE, hone, hmine⟩ := hs.ents i _ he
              have hxk : xs[k]? = some (xs.getD k T.dflt) := by simp [List.getD, List.getElem?_eq_getElem hk]
              obtain ⟨c, c1, c2, c3⟩ := hE k _ hxk
              have hspl : Reps w H g (spliceL (T.scs (xs.getD k T.dflt)) off l) (spliceV c off vx.cells.toList) := Reps.splice off (Ty.scs_rep T c1) hr
              obtain ⟨y, cs, r, vr, H1, d1, d2, d3, d3', _, _, d6, d7, d8⟩ := dat_sound (ok := fun _ => True) false T hs hspl h (fun h => by cases h)
              have hvr : vr = [] := by
                have e1 := congrArg List.length d1
                rw [spliceV_length, c2, List.length_append, (d6 rfl).len] at e1
                exact List.eq_nil_of_length_eq_zero (by omega)
              subst hvr
              rw [List.append_nil] at d1
              rcases d3' i with hi | hi
              · rw [he] at hi
                rw [hi] at d8
                obtain ⟨w1, r1, r2, r3⟩ := store_row d2 hti hi hk hle hbk (v := vx) (by rw [hr.1, hl]) h1 (x := y) (c := cs) (fun cells' ho' => by
                  have hcc : cells' = cells := by
                    obtain ⟨cap, cur, e1, e2, _, _, _, e5⟩ := row_cells ho hbk
                    obtain ⟨cap', cur', e1', e2', _, _, _, e5'⟩ := row_cells ho' hbk
                    rw [e2] at e2'
                    cases e2'
                    rw [← e5, ← e5']
                  rw [← d1, hcc]
                  congr 1
                  apply List.ext_getElem?
                  intro j
                  rw [List.getElem?_take]
                  split
                  · rename_i hj
                    rw [List.getElem?_drop]
                    have hj' : j < c.length := by omega
                    rw [List.getElem?_eq_getElem hj']
                    exact (c3 j _ (List.getElem?_eq_getElem hj')).symm
                  · rw [List.getElem?_eq_none (by omega)]) (d6 rfl)
                exact ⟨w1, _, g, by rw [hva]; simp [Instr.storeAt, Instr.sureAddr, r1], d8, r2, d3.trans r3⟩
              · rw [hi] at d8; exact d8.elim
      · exact h.elim

theorem place_sound {off : Nat} {x : SV} {vx : Value} (hx : x.Rep w H g vx) {K : SV → Prop} (h : fieldS off x H K) : ∃ a sv, vx = .pointer (some a) ∧ sv.Rep w H g (.pointer (some (a.add off))) ∧ K sv := by
  unfold fieldS at h
  split at h
  · rename_i i o
    obtain ⟨hi, e⟩ := hx
    exact ⟨_, .c (.ptr i (o + off)), e, ⟨hi, by rw [add_plain]⟩, h⟩
  · rename_i T xs k o
    obtain ⟨hk, ad, e, r⟩ := hx
    exact ⟨_, .c (.roa T xs k (o + off)), e, ⟨hk, ad, by rw [add_add, Nat.add_assoc], r⟩, h⟩
  · rename_i i ver k o
    obtain ⟨h1, hr⟩ := hx
    unfold OwnaRep at hr
    cases he : H[i]? with
    | none => rw [he] at h; exact h.elim
    | some en =>
      rw [he] at h hr
      cases en with
      | dead => exact h.elim
      | blk => exact h.elim
      | tab => exact h.elim
      | row e T ver' xs =>
        simp only at h hr
        cases hb : Nat.beq ver ver' with
        | false => rw [hb] at h; exact h.elim
        | true =>
          rw [hb] at h
          obtain ⟨hk, b, hbk, hv⟩ := hr.2 (Nat.eq_of_beq_eq_true hb)
          refine ⟨_, .c (.owna i ver k (o + off)), hv, ⟨by rw [add_plain]; rfl, ?_⟩, h⟩
          unfold OwnaRep
          rw [he]
          exact ⟨hr.1, fun _ => ⟨hk, b, hbk, by rw [add_plain, Nat.add_assoc]⟩⟩
  · exact h.elim

theorem field_sound {fs : List (Nat × TypeId)} (hd : ti.desc = .struct fs) (hti : TIok P t ti) {f off : Nat} {ft : TypeId} (hf : fs[f]? = some (off, ft)) {fi : TI} (hfi : TIok P ft fi) (hz : fi.size ≠ 0)
    {x : SV} {vx : Value} (hx : x.Rep w H g vx) {K : SV → Prop} (h : fieldS off x H K) : ∃ v sv, (∀ w' : World, (Instr.fieldAt t vx f).run P w' = .ok v w') ∧ sv.Rep w H g v ∧ K sv := by
  have hu := hti.desc
  rw [hd] at hu
  obtain ⟨fields, u1, u2⟩ := hu
  have hfld : ∃ fld, fields[f]? = some fld ∧ fld.offset = off ∧ fld.type = ft := by
    rw [← u2, List.getElem?_map] at hf
    cases hq : fields.toList[f]? with
    | none => rw [hq] at hf; simp at hf
    | some fld =>
      rw [hq] at hf
      simp at hf
      exact ⟨fld, by simpa using hq, hf.1, hf.2⟩
  obtain ⟨fld, q1, q2, q3⟩ := hfld
  have run : ∀ (a : Addr) (w' : World), (Instr.fieldAt t (.pointer (some a)) f).run P w' = .ok (.pointer (some (a.add off))) w' := by
    intro a w'
    have hs : (sizeOf fld.type).run P w' = .ok fi.size w' := by rw [q3]; exact hfi.sizeOf
    simp [Instr.fieldAt, run_underlying u1, q1, Instr.sureAddr, fieldPlace, hs, hz, q2]
  unfold fieldS at h
  split at h
  · rename_i i o
    obtain ⟨hi, e⟩ := hx
    subst e
    exact ⟨_, .c (.ptr i (o + off)), run _, ⟨hi, by rw [add_plain]⟩, h⟩
  · rename_i T xs k o
    obtain ⟨hk, ad, e, r⟩ := hx
    subst e
    exact ⟨_, .c (.roa T xs k (o + off)), run _, ⟨hk, ad, by rw [add_add, Nat.add_assoc], r⟩, h⟩
  · rename_i i ver k o
    obtain ⟨h1, hr⟩ := hx
    unfold OwnaRep at hr
    cases he : H[i]? with
    | none => rw [he] at h; exact h.elim
    | some en =>
      rw [he] at h hr
      cases en with
      | dead => exact h.elim
      | blk => exact h.elim
      | tab => exact h.elim
      | row e T ver' xs =>
        simp only at h hr
        cases hb : Nat.beq ver ver' with
        | false => rw [hb] at h; exact h.elim
        | true =>
          rw [hb] at h
          obtain ⟨hk, b, hbk, hv⟩ := hr.2 (Nat.eq_of_beq_eq_true hb)
          subst hv
          refine ⟨_, .c (.owna i ver k (o + off)), run _, ⟨by rw [add_plain]; rfl, ?_⟩, h⟩
          unfold OwnaRep
          rw [he]
          exact ⟨hr.1, fun _ => ⟨hk, b, hbk, by rw [add_plain, Nat.add_assoc]⟩⟩
  · exact h.elim

theorem args_rep {a : Act} {ev : Operand → SV} (hev : ∀ x, (ev x).Rep w H g (a.eval x)) (l : List Operand) : ArgsRep w H g (l.map ev) (l.map a.eval) := by
  refine ⟨by simp, fun j x v h1 h2 => ?_⟩
  rw [List.getElem?_map] at h1 h2
  cases hj : l[j]? with
  | none => rw [hj] at h1; simp at h1
  | some o => rw [hj] at h1 h2; simp at h1 h2; subst h1; subst h2; exact hev o

theorem caps_sound : (l : List SV) → {vs : List Value} → {is : List Nat} → capsOf l = some is → ArgsRep w H g l vs → vs = is.map (fun i => Value.pointer (some ⟨g.b i, 0, none⟩)) ∧ ∀ i ∈ is, i < H.length
  | [], vs, is, h, hr => by
    simp [capsOf] at h; subst h
    have : vs = [] := List.eq_nil_of_length_eq_zero hr.1
    subst this
    exact ⟨rfl, fun i hi => by simp at hi⟩
  | x :: r, vs, is, h, hr => by
    match vs, hr with
    | [], hr => exact absurd hr.1 (by simp)
    | v :: vs, hr =>
      have h0 := hr.2 0 x v rfl rfl
      have hrest : ArgsRep w H g r vs := ⟨by simpa using hr.1, fun j y u h1 h2 => hr.2 (j + 1) y u (by simpa using h1) (by simpa using h2)⟩
      unfold capsOf at h
      split at h
      · rename_i heq; cases heq
      · rename_i i r' heq
        cases heq
        cases hq : capsOf r with
        | none => rw [hq] at h; simp at h
        | some js =>
          rw [hq] at h
          simp at h
          subst h
          obtain ⟨k1, k2⟩ := caps_sound r hq hrest
          refine ⟨by rw [k1]; simp [h0.2], fun j hj => ?_⟩
          rcases List.mem_cons.1 hj with h | h
          · subst h; exact h0.1
          · exact k2 j h
      · cases h

theorem run_callFunc {f : FuncId} {fn : Func} (h1 : P.funcs[f]? = some fn) (h2 : (fn.name == "runtime.NumGoroutine") = false) (h3 : fn.body.isNone = false) (args : Array Value) :
    (callFunc f args).run P w = .ok (.enter f args) w := by
  have h2' : ¬ fn.name = "runtime.NumGoroutine" := by simpa using h2
  have h3' : ¬ fn.body = none := by intro e; rw [e] at h3; simp at h3
  simp [callFunc, program, Sem.run, h1, h2', h3']

theorem part_sound (hti : TIok P t ti) {cs : List SC} {vs : List Value} (hr : Reps w H g cs vs) (h1 : ∀ u ∈ vs, u.oneCell' = true) {off : Nat} (hle : off + ti.size ≤ cs.length) :
    ∃ v, (∀ w' : World, (part t vs.toArray off).run P w' = .ok v w') ∧ (mkV ti.desc.isAgg ((cs.drop off).take ti.size)).Rep w H g v := by
  have hl : ((vs.drop off).take ti.size).length = ti.size := by simp [hr.1]; omega
  obtain ⟨v, hv⟩ := as_value hti.single hl
  refine ⟨v, ?_, mkV_rep ((hr.drop off).take ti.size) (fun u hu => h1 u (List.mem_of_mem_drop (List.mem_of_mem_take hu))) hv⟩
  intro w'
  unfold part
  simp only [Sem.run_bind, hti.isAgg, Result.andThen_ok]
  cases hx : ti.desc.isAgg with
  | true =>
    rw [hx] at hv
    simp only [if_true] at hv ⊢
    simp only [Sem.run_bind, hti.sizeOf, Result.andThen_ok, Sem.run_pure]
    rw [hv]
    congr 2
    simp [List.extract_eq_take_drop]
  | false =>
    rw [hx] at hv
    simp only [Bool.false_eq_true, if_false] at hv ⊢
    have hs1 := hti.single hx
    rw [hs1] at hv hl
    have h0 : vs[off]? = some v := by
      have := congrArg (fun l : List Value => l[0]?) hv
      simp only [List.getElem?_take, List.getElem?_drop] at this
      simpa using this
    simp [h0]

theorem cond_sound {sv : SV} {v : Value} (hr : sv.Rep w H g v) {A B : Prop} (h : sv.cond A B) : ∃ b, v = .bool b ∧ (b = true → A) ∧ (b = false → B) := by
  unfold SV.cond at h
  split at h
  · rename_i id p d
    exact ⟨_, hr, fun hb => h.1 (of_decide_eq_true hb), fun hb => h.2 (of_decide_eq_false hb)⟩
  · rename_i id b
    exact ⟨b, hr, h.1, h.2⟩
  · rename_i b
    cases b with
    | true => exact ⟨true, hr, fun _ => h, fun h => (by cases h)⟩
    | false => exact ⟨false, hr, fun h => (by cases h), fun _ => h⟩
  · exact h.elim

/-- What an operation that changes nothing yields: now, and in every later world. -/
def Lite (P : Program) (o : Oper) (a : Act) (w : World) (H : List Ent) (g : Gh) (K : SV → List Ent → Prop) : Prop :=
  ∃ v sv, (∀ w', (pureOp o.op = true ∨ Later w w') → (execOp a.eval o).run P w' = .ok (.value v) w') ∧ sv.Rep w H g v ∧ K sv H

theorem Lite.value {o : Oper} {a : Act} {K : SV → List Ent → Prop} {v : Value} {sv : SV} (h : ∀ w', (pureOp o.op = true ∨ Later w w') → (execOp a.eval o).run P w' = .ok (.value v) w') (r : sv.Rep w H g v ∧ K sv H) : Lite P o a w H g K := ⟨v, sv, h, r.1, r.2⟩
theorem Lite.here {K : SV → List Ent → Prop} {v : Value} {sv : SV} (_ : Sat B X w0 H g w) (r : sv.Rep w H g v) (k : K sv H) : sv.Rep w H g v ∧ K sv H := ⟨r, k⟩

/-- The builtins. -/
theorem builtin_light (hC : CtxOK P C) {o : Oper} {a : Act} (hs : Sat B X w0 H g w) {b : Builtin} (hb : b = .len ∨ b = .max ∨ b = .min) {args : List SV} {vals : List Value} (hargs : ArgsRep w H g args vals) {tys : List TypeId} {type : TypeId} {consts : Array Bool}
    (hrun : ∀ v w', (builtin b tys.toArray type consts vals.toArray).run P w' = .ok (.value v) w' → (execOp a.eval o).run P w' = .ok (.value v) w') {K : SV → List Ent → Prop}
    (h : builtinS C b args tys H K) : Lite P o a w H g K := by
  cases b <;> simp at hb <;> simp only [builtinS] at h
  case len =>
    match args, vals, hargs, h with
    | [x], [vx], hargs, h =>
      have hx := hargs.2 0 x vx rfl rfl
      match tys, hrun, h with
      | [t], hrun, h =>
        simp only at h
        cases ht : tyFind t C.tys with
        | none => rw [ht] at h; exact h.elim
        | some ti =>
          rw [ht] at h
          simp only at h
          have hti := (hC.tys _ _ ht).desc
          have run : ∀ (w' : World) (v : Value), (Builtin.len_ #[t] type #[vx]).run P w' = .ok v w' → (execOp a.eval o).run P w' = .ok (.value v) w' := by
            intro w' v hr
            refine hrun v w' ?_
            have : ((Builtin.len_ #[t] type #[vx]) >>= fun v => (pure (Next.value v) : Sem Next)).run P w' = .ok (.value v) w' := by
              simp only [Sem.run_bind, hr, Result.andThen_ok, Sem.run_pure]
            exact this
          cases hd : ti.desc <;> rw [hd] at h hti <;> simp only at h <;> try exact h.elim
          case slice e =>
            have hu : P.underlying t = some (.slice e) := hti
            have key : ∀ n A cap, vx = .slice A n cap → K (.c (.int .i64 n)) H → Lite P o a w H g K := by
              intro n A cap e hk
              exact Lite.value (fun w' _ => run w' (.int .i64 n) (by rw [e]; simp [Builtin.len_, run_underlying hu, goInt])) (Lite.here hs (sv := .c (.int .i64 n)) rfl hk)
            clear run
            match x, hx, h with
            | .c (.ro T xs), hx, h =>
              obtain ⟨A, cap, e, _⟩ := hx
              simp only [List.cons.injEq, and_true] at e
              exact key _ _ _ e h
            | .c (.raw u), hx, h =>
              have e : vx = u := hx
              simp only [lenS] at h
              cases hu : isNil u with
              | false => rw [hu] at h; exact h.elim
              | true =>
                rw [hu] at h
                exact key 0 none 0 (by rw [e, isNil_eq hu]) h
            | .c (.own i ver), hx, h =>
              obtain ⟨_, hr⟩ := hx
              unfold OwnRep at hr
              simp only [lenS] at h
              cases he : H[i]? with
              | none => rw [he] at h; exact h.elim
              | some en =>
                rw [he] at h hr
                cases en with
                | dead => exact h.elim
                | blk => exact h.elim
                | tab => exact h.elim
                | row et T ver' xs =>
                  simp only at h hr
                  cases hb : Nat.beq ver ver' with
                  | false => rw [hb] at h; exact h.elim
                  | true =>
                    rw [hb] at h
                    have hv := hr.2 (Nat.eq_of_beq_eq_true hb)
                    obtain ⟨cells, ho', _⟩ := hs.ents i _ he
                    rcases ho'.2 with ⟨e1, e2⟩ | ⟨gb, cap, cur, e1, _⟩
                    · exact key _ none 0 (by rw [hv, e1, e2]) h
                    · exact key _ _ _ (by rw [hv, e1]) h
            | .c (.pre i ver n), hx, h =>
              obtain ⟨_, hr⟩ := hx
              unfold PreRep at hr
              simp only [lenS] at h
              cases he : H[i]? with
              | none => rw [he] at h; exact h.elim
              | some en =>
                rw [he] at h hr
                cases en with
                | dead => exact h.elim
                | blk => exact h.elim
                | tab => exact h.elim
                | row et T ver' xs =>
                  simp only at h hr
                  cases hb : Nat.beq ver ver' with
                  | false => rw [hb] at h; exact h.elim
                  | true =>
                    rw [hb] at h
                    obtain ⟨_, A, len, cap, _, hv⟩ := hr.2 (Nat.eq_of_beq_eq_true hb)
                    exact key _ _ _ hv h
          case str =>
            have hu : P.underlying t = some .string := hti
            match x, hx, h with
            | .c (.str s), hx, h =>
              have e : vx = .string s := hx
              exact Lite.value (fun w' _ => run w' (.int .i64 s.size) (by rw [e]; simp [Builtin.len_, run_underlying hu, goInt])) (Lite.here hs (sv := .c (.int .i64 s.size)) rfl h)
          case array n e =>
            have hu : P.underlying t = some (.array n e) := hti
            exact Lite.value (fun w' _ => run w' (.int .i64 n) (by simp [Builtin.len_, run_underlying hu, goInt])) (Lite.here hs (sv := .c (.int .i64 n)) rfl h)
  case max =>
    match args, vals, hargs, h with
    | .c (.int k x) :: r, v :: vs, hargs, h =>
      have h0 : v = .int k x := hargs.2 0 _ v rfl rfl
      subst h0
      obtain ⟨n, r1, r2⟩ := maxAll_sound (P := P) (w := w) (H := H) (g := g) true k r x (vs := vs) ⟨by simpa using hargs.1, fun j y u h1 h2 => hargs.2 (j + 1) y u (by simpa using h1) (by simpa using h2)⟩ h
      simp only [if_true] at r1
      refine Lite.value (fun w' _ => hrun (.int k n) w' ?_) (Lite.here hs (sv := .c (.int k n)) rfl r2)
      have : ((Builtin.max_ tys.toArray type (.int k x :: vs).toArray) >>= fun v => (pure (Next.value v) : Sem Next)).run P w' = .ok (.value (.int k n)) w' := by
        simp only [Sem.run_bind, Builtin.max_, r1 w', Result.andThen_ok, Sem.run_pure]
      exact this
  case min =>
    match args, vals, hargs, h with
    | .c (.int k x) :: r, v :: vs, hargs, h =>
      have h0 : v = .int k x := hargs.2 0 _ v rfl rfl
      subst h0
      obtain ⟨n, r1, r2⟩ := maxAll_sound (P := P) (w := w) (H := H) (g := g) false k r x (vs := vs) ⟨by simpa using hargs.1, fun j y u h1 h2 => hargs.2 (j + 1) y u (by simpa using h1) (by simpa using h2)⟩ h
      simp only [Bool.false_eq_true, if_false] at r1
      refine Lite.value (fun w' _ => hrun (.int k n) w' ?_) (Lite.here hs (sv := .c (.int k n)) rfl r2)
      have : ((Builtin.min_ tys.toArray type (.int k x :: vs).toArray) >>= fun v => (pure (Next.value v) : Sem Next)).run P w' = .ok (.value (.int k n)) w' := by
        simp only [Sem.run_bind, Builtin.min_, r1 w', Result.andThen_ok, Sem.run_pure]
      exact this

/-- append. -/
theorem append_op_sound (hC : CtxOK P C) {o : Oper} {a : Act} (hs : Sat B X w0 H g w) {b : Builtin} (hb : b = .append) {args : List SV} {vals : List Value} (hargs : ArgsRep w H g args vals) {tys : List TypeId} {type : TypeId} {consts : Array Bool}
    (hrun : ∀ v w', (builtin b tys.toArray type consts vals.toArray).run P w = .ok (.value v) w' → (execOp a.eval o).run P w = .ok (.value v) w') {K : SV → List Ent → Prop}
    (h : builtinS C b args tys H K) : Runs P o a w (Post B X w0 K w H g) := by
  subst hb
  simp only [builtinS] at h
  match args, vals, hargs, h with
  | [s, x], [vs, vx], hargs, h =>
    have h0 := hargs.2 0 s vs rfl rfl
    have h1 := hargs.2 1 x vx rfl rfl
    match tys, hrun, h with
    | [t, t'], hrun, h =>
      simp only at h
      cases hb : Nat.beq t t' with
      | false => rw [hb] at h; exact h.elim
      | true =>
        rw [hb] at h
        simp only [cond_true] at h
        have htt := Nat.eq_of_beq_eq_true hb
        subst htt
        cases ht : tyFind t C.tys with
        | none => rw [ht] at h; exact h.elim
        | some ti =>
          rw [ht] at h
          simp only at h
          have hti := hC.tys _ _ ht
          cases hd : ti.desc <;> rw [hd] at h <;> simp only at h <;> try exact h.elim
          rename_i e
          cases he : tyFind e C.tys with
          | none => rw [he] at h; exact h.elim
          | some ei =>
            rw [he] at h
            simp only at h
            cases het : ei.ty with
            | none => rw [het] at h; exact h.elim
            | some et =>
              rw [het] at h
              obtain ⟨v, w1, r1, r2⟩ := append_sound hC.tys hs hti hd he het h0 h1 h type
              refine Runs.value (hrun v w1 ?_) r2
              have : ((Builtin.append_ #[t, t] type #[vs, vx]) >>= fun v => (pure (Next.value v) : Sem Next)).run P w = .ok (.value v) w1 := by
                simp only [Sem.run_bind, r1, Result.andThen_ok, Sem.run_pure]
              exact this

theorem casesN_get : (m : Nat) → {n : Int} → {p : Nat → Prop} → casesN m n p → ∀ j, j < m → n = (j : Int) → p j
  | 0, _, _, _, j, hj, _ => absurd hj (Nat.not_lt_zero _)
  | m + 1, n, p, h, j, hj, e => by
    rcases Nat.lt_succ_iff_lt_or_eq.1 hj with h1 | h1
    · exact casesN_get m h.1 j h1 e
    · subst h1; exact h.2 e

/-- Bytes in memory, as a string. -/
theorem bytes_sound (hs : Sat B X w0 H g w) {x : SV} {v : Value} (hr : x.Rep w H g v) {K : List Int → Prop} (h : bytesOfS x H K) :
    ∃ l, K l ∧ (∃ A n c, v = .slice A n c) ∧ ∀ w', Later w w' → (Conv.bytesToString v).run P w' = .ok (.string (strOf l)) w' := by
  unfold bytesOfS at h
  have fold : ∀ (l : List Int) (s : ByteArray), l.foldl (fun r n => r.push (UInt8.ofNat n.toNat)) s = ⟨s.data ++ (l.map fun b => UInt8.ofNat b.toNat).toArray⟩ := by
    intro l
    induction l with
    | nil => intro s; simp
    | cons b l ih => intro s; rw [List.foldl_cons, ih]; simp [ByteArray.push]
  have read : ∀ (xs : List Int) (ad : Addr) (cap : Nat), (∀ j u, (xs.map (Value.int .u8))[j]? = some u → w.cell? (ad.add j) = some u) → ∀ w', Later w w' → (Conv.bytesToString (.slice (some ad) xs.length cap)).run P w' = .ok (.string (strOf xs)) w' := by
    intro xs ad cap hc w' hl
    have h1 := run_loadCells_list (P := P) (w := w') ad (xs.map (Value.int .u8)) (fun j u hu => hl.cell (hc j u hu))
    rw [List.length_map] at h1
    rw [run_bytesToString w' ad xs.length cap xs h1, fold]
    unfold strOf
    congr 2
    simp [ByteArray.empty, ByteArray.emptyWithCapacity]
    rfl
  have nilC : ∀ (cap : Nat) (w' : World), (Conv.bytesToString (.slice none 0 cap)).run P w' = .ok (.string (strOf [])) w' := fun cap w' => rfl
  have emp : ∀ (A : Option Addr) (cap : Nat) (w' : World), (Conv.bytesToString (.slice A 0 cap)).run P w' = .ok (.string (strOf [])) w' := fun A cap w' => by
    cases A with
    | none => exact nilC cap w'
    | some ad =>
      have h1 := run_loadCells_list (P := P) (w := w') ad [] (fun j u hu => by simp at hu)
      exact run_bytesToString w' ad 0 cap [] h1
  split at h
  · rename_i u
    cases hu : isNil u with
    | false => rw [hu] at h; exact h.elim
    | true =>
      rw [hu] at h
      have e : v = u := hr
      rw [e, isNil_eq hu]
      exact ⟨[], h, ⟨_, _, _, rfl⟩, fun w' _ => nilC 0 w'⟩
  · rename_i T' xs
    split at h
    · rename_i hT'
      subst hT'
      obtain ⟨A, cap, e, hro⟩ := hr
      simp only [List.cons.injEq, and_true] at e
      subst e
      refine ⟨xs, h, ⟨_, _, _, rfl⟩, fun w' hl => ?_⟩
      by_cases hx : xs = []
      · subst hx; exact emp A cap w'
      · obtain ⟨ad, r1, r2, r3, r4⟩ := hro.2 hx
        subst r1
        refine read xs ad cap (fun j u hu => ?_) w' hl
        rw [List.getElem?_map] at hu
        cases hj : xs[j]? with
        | none => rw [hj] at hu; simp at hu
        | some b =>
          rw [hj] at hu
          simp at hu
          subst hu
          obtain ⟨c, c1, c2, c3⟩ := r4 j b hj
          have hc : c = [Value.int .u8 b] := c1
          subst hc
          have := c3 0 _ rfl
          simpa [Ty.size] using this
    · exact h.elim
  · rename_i i ver
    obtain ⟨_, hr⟩ := hr
    unfold OwnRep at hr
    cases he : H[i]? with
    | none => rw [he] at h; exact h.elim
    | some en =>
      rw [he] at h hr
      cases en with
      | dead => exact h.elim
      | blk => exact h.elim
      | tab => exact h.elim
      | row et T' ver' xs =>
        simp only at h hr
        cases hb : Nat.beq ver ver' with
        | false => rw [hb] at h; exact h.elim
        | true =>
          rw [hb] at h
          simp only [cond_true] at h
          split at h
          · rename_i hT'
            subst hT'
            have hv := hr.2 (Nat.eq_of_beq_eq_true hb)
            obtain ⟨cells, ho, hE, _⟩ := hs.ents i _ he
            rcases ho.2 with ⟨e1, e2⟩ | ⟨gb, cap, cur, e1, _, e2, e3, e4, e5, e6⟩
            · have : xs = [] := List.eq_nil_of_length_eq_zero e2
              subst this
              exact ⟨[], h, ⟨_, _, _, by rw [hv, e1]⟩, fun w' hl => by rw [hv, e1]; exact nilC 0 w'⟩
            · refine ⟨xs, h, ⟨_, _, _, by rw [hv, e1]⟩, fun w' hl => ?_⟩
              rw [hv, e1]
              refine read xs ⟨gb, 0, none⟩ cap (fun j u hu => ?_) w' hl
              rw [List.getElem?_map] at hu
              cases hj : xs[j]? with
              | none => rw [hj] at hu; simp at hu
              | some b =>
                rw [hj] at hu
                simp at hu
                subst hu
                obtain ⟨c, c1, c2, c3⟩ := hE j b hj
                have hc : c = [Value.int .u8 b] := c1
                subst hc
                have h3 := c3 0 _ rfl
                simp only [Ty.size, Nat.mul_one, Nat.add_zero] at h3
                rw [add_plain, Nat.zero_add, cell_at e2, ← Array.getElem?_toList]
                rw [← e6, List.getElem?_take] at h3
                split at h3
                · exact h3
                · cases h3
          · exact h.elim
  · exact h.elim

/-- The light ones. -/
theorem opStep_light (hC : CtxOK P C) {o : Oper} {a : Act} (hs : Sat B X w0 H g w) {ev : Operand → SV} (hev : ∀ x, (ev x).Rep w H g (a.eval x)) {K : SV → List Ent → Prop}
    (hl : lightOp o.op = true) (h : opStep C o.op ev H K) : Lite P o a w H g K := by
  have hmap : ∀ (l : List (Nat × Operand)), (l.map fun p => (p.1, ev p.2)).map Prod.fst = (l.map fun p => (p.1, a.eval p.2)).map Prod.fst ∧
      ∀ (j : Nat) (p : Nat × SV) (q : Nat × Value), (l.map fun p => (p.1, ev p.2))[j]? = some p → (l.map fun p => (p.1, a.eval p.2))[j]? = some q → p.2.Rep w H g q.2 := by
    intro l
    refine ⟨by simp [List.map_map, Function.comp_def], fun j p q h1 h2 => ?_⟩
    rw [List.getElem?_map] at h1 h2
    cases hj : l[j]? with
    | none => rw [hj] at h1; simp at h1
    | some r => rw [hj] at h1 h2; simp at h1 h2; subst h1; subst h2; exact hev _
  cases ho : o.op <;> rw [ho] at h hl <;> simp only [opStep] at h <;> try (first | exact h.elim | cases hl)
  case move x => exact Lite.value (fun w' hw' => by simp [execOp, ho]) (Lite.here hs (hev x) h)
  case assign x => exact Lite.value (fun w' hw' => by simp [execOp, ho]) (Lite.here hs (hev x) h)
  case pick c x y =>
    obtain ⟨b, hv, hA, hB⟩ := cond_sound (hev c) h
    cases b with
    | true => exact Lite.value (v := a.eval x) (fun w' hw' => by simp [execOp, ho, hv, asBool]) (Lite.here hs (hev x) (hA rfl))
    | false => exact Lite.value (v := a.eval y) (fun w' hw' => by simp [execOp, ho, hv, asBool]) (Lite.here hs (hev y) (hB rfl))
  case build t parts =>
    cases hb : buildS C t (parts.toList.map fun p => (p.1, ev p.2)) with
    | none => rw [hb] at h; exact h.elim
    | some cs =>
      rw [hb] at h
      obtain ⟨m1, m2⟩ := hmap parts.toList
      obtain ⟨res, r1, r2, r3⟩ := build_sound (P := P) hC.tys m1 m2 hb
      refine Lite.value (v := .agg res) ?_ (Lite.here hs (sv := .agg cs) ⟨res.toList, by simp, r2, r3⟩ h)
      have hp : (parts.map fun (x : Nat × Operand) => (x.1, a.eval x.2)) = (parts.toList.map fun p => (p.1, a.eval p.2)).toArray := by apply Array.toList_inj.1; rw [Array.toList_map]
      intro w' hw'
      simp only [execOp, ho, hp, Sem.run_bind, r1, Result.andThen_ok, Sem.run_pure]
  case load t x =>
    cases ht : tyFind t C.tys with
    | none => rw [ht] at h; exact h.elim
    | some ti =>
      rw [ht] at h
      obtain ⟨v, sv, r1, r2, r3⟩ := load_sound hs (hC.tys _ _ ht) (hev x) h
      exact Lite.value (fun w' hw' => by simp only [execOp, ho, Sem.run_bind, r1 w' (hw'.resolve_left (by rw [ho]; exact Bool.false_ne_true)), Result.andThen_ok, Sem.run_pure]) (Lite.here hs r2 r3)
  case nilCheck x =>
    have hx := hev x
    split at h
    · rename_i i o heq
      rw [heq] at hx
      obtain ⟨h1, h2⟩ := hx
      exact Lite.value (v := a.eval x) (fun w' hw' => by simp [execOp, ho, h2]) (Lite.here hs (sv := .c (.ptr i o)) ⟨h1, h2⟩ h)
    · rename_i T xs k o heq
      rw [heq] at hx
      obtain ⟨h0, ad, h2, r⟩ := hx
      exact Lite.value (v := a.eval x) (fun w' hw' => by simp [execOp, ho, h2]) (Lite.here hs (sv := .c (.roa T xs k o)) ⟨h0, ad, h2, r⟩ h)
    · rename_i f caps heq
      rw [heq] at hx
      exact Lite.value (v := a.eval x) (fun w' hw' => by simp [execOp, ho, hx.1]) (Lite.here hs (sv := .c (.fn f caps)) hx h)
    · exact h.elim
  case binOp op t x y ty =>
    obtain ⟨v, sv, r1, r2, r3⟩ := binAll_sound (P := P) (t := t) hs hC.tys x y (hev x) (hev y) h
    refine Lite.value (v := v) ?_ (Lite.here hs r2 r3)
    intro w' hw'
    have r1' := r1 w'
    simp only [execOp, ho, Sem.run_bind] at r1' ⊢
    rw [r1']; rfl
  case unOp op t x =>
    obtain ⟨v, sv, r1, r2, r3⟩ := un_sound (P := P) (hev x) h
    exact Lite.value (v := v) (fun w' hw' => by simp only [execOp, ho, Sem.run_bind, r1 w', Result.andThen_ok, Sem.run_pure]) (Lite.here hs r2 r3)
  case convert src dst x =>
    cases h1 : tyFind src C.tys with
    | none => rw [h1] at h; exact h.elim
    | some si =>
      cases h2 : tyFind dst C.tys with
      | none => rw [h1, h2] at h; exact h.elim
      | some di =>
        rw [h1, h2] at h
        simp only at h
        have hsi := (hC.tys _ _ h1).desc
        have hdi := (hC.tys _ _ h2).desc
        have hx := hev x
        split at h
        · rename_i k k' _ n e1 e2 e3
          rw [e1] at hdi
          rw [e2] at hsi
          rw [e3] at hx
          have e : a.eval x = .int _ n := hx
          have hdi' : P.underlying dst = some (.int k) := hdi
          have hsi' : P.underlying src = some (.int k') := hsi
          obtain ⟨sv, q1, q2⟩ := arith_sound (w := w) (H := H) (g := g) h
          exact Lite.value (v := .int k (k.wrap n)) (fun w' hw' => by simp [execOp, ho, convert, run_underlying hdi', run_underlying hsi', e, Conv.intToInt]) (Lite.here hs q1 q2)
        · rename_i s e1 e2 e3
          rw [e1] at hdi
          rw [e2] at hsi
          rw [e3] at hx
          have e : a.eval x = .string s := hx
          have hdi' : P.underlying dst = some .string := hdi
          have hsi' : P.underlying src = some .string := hsi
          exact Lite.value (v := .string s) (fun w' hw' => by simp [execOp, ho, convert, run_underlying hdi', run_underlying hsi', e]) (Lite.here hs (sv := .c (.str s)) rfl h)
        · rename_i e e1 e2
          rw [e1] at hdi
          rw [e2] at hsi
          have hdi' : P.underlying dst = some .string := hdi
          have hsi' : P.underlying src = some (.slice e) := hsi
          cases he : tyFind e C.tys with
          | none => rw [he] at h; exact h.elim
          | some ei =>
            rw [he] at h
            simp only at h
            have hed := (hC.tys _ _ he).desc
            cases hde : ei.desc <;> rw [hde] at h hed <;> simp only at h <;> try exact h.elim
            rename_i kk
            by_cases hk : kk = .u8
            · subst hk
              simp only [decide_true, cond_true] at h
              have heu : P.underlying e = some (.int .u8) := hed
              obtain ⟨l, h, ⟨A, n, c, hv⟩, hrun⟩ := bytes_sound hs (P := P) hx h
              refine Lite.value (v := .string (strOf l)) (fun w' hw' => ?_) (Lite.here hs (sv := .c (.str (strOf l))) rfl h)
              have hl : Later w w' := hw'.resolve_left (by rw [ho]; exact Bool.false_ne_true)
              have h2 := run_convert_bytes_string w' src dst e A n c hsi' heu hdi'
              simp only [execOp, ho, Sem.run_bind]
              rw [hv] at hrun ⊢
              rw [h2, hrun w' hl]
              rfl
            · simp only [decide_eq_false hk, cond_false] at h
        · exact h.elim
  case makeFunc fn first captured =>
    cases fn <;> simp only at h <;> try exact h.elim
    rename_i f
    cases hz : Nat.beq first.size 0 with
    | false => rw [hz] at h; exact h.elim
    | true =>
      rw [hz] at h
      simp only [cond_true] at h
      cases hc : capsOf (captured.toList.map ev) with
      | none => rw [hc] at h; exact h.elim
      | some is =>
        rw [hc] at h
        obtain ⟨k1, k2⟩ := caps_sound _ hc (args_rep hev captured.toList)
        have hf : first = #[] := by
          have := Nat.eq_of_beq_eq_true hz
          exact Array.eq_empty_of_size_eq_zero this
        subst hf
        have hcap : captured.map a.eval = (is.map (fun i => Value.pointer (some ⟨g.b i, 0, none⟩))).toArray := by
          rw [← k1]; apply Array.toList_inj.1; rw [Array.toList_map]
        exact Lite.value (v := .func (.func f) #[] (captured.map a.eval)) (fun w' hw' => by simp [execOp, ho, Instr.makeFunc]) (Lite.here hs (sv := .c (.fn f is)) ⟨by rw [hcap], k2⟩ h)
  case slice t x lo hi mx =>
    have hopt : ∀ o : Option Operand, OptRep w H g (o.map ev) (o.map a.eval) := fun o => by
      cases o with
      | none => trivial
      | some o => exact hev o
    have hx := hev x
    cases ht : tyFind t C.tys with
    | none => rw [ht] at h; exact h.elim
    | some ti =>
      rw [ht] at h
      simp only at h
      have hti := (hC.tys _ _ ht).desc
      have str : ∀ s, a.eval x = .string s → P.underlying t = some .string → (boundS 0 (lo.map ev) fun l => boundS s.size (hi.map ev) fun h => (0 ≤ l ∧ l ≤ h ∧ h ≤ s.size) ∧ (mx.map ev).isNone = true ∧ K (.c (.str (s.extract l.toNat h.toNat))) H) →
          Lite P o a w H g K := by
        intro s e hu h
        obtain ⟨l, h, hl⟩ := bound_sound (hopt lo) h
        obtain ⟨hh, ⟨h0, hm, h⟩, hhi⟩ := bound_sound (hopt hi) h
        have hmx : mx.map a.eval = none := by cases mx with | none => rfl | some _ => simp at hm
        exact Lite.value (fun w' hw' => by simp only [execOp, ho, e, hmx, Sem.run_bind, cut_str_sound (P := P) (w := w') hu hl hhi h0, Result.andThen_ok, Sem.run_pure]) (Lite.here hs (sv := .c (.str _)) rfl h)
      have sl : ∀ {e : TypeId} {ei : TI} {T : Ty} {xs : List T.den}, TIok P e ei → P.underlying t = some (.slice e) → T.size = ei.size → SC.Rep w H g (.ro T xs) (a.eval x) →
          (boundS 0 (lo.map ev) fun l => boundS xs.length (hi.map ev) fun h => (0 ≤ l ∧ l ≤ h ∧ h ≤ xs.length) ∧
            (match mx.map ev with | none => True | some (.c (.int _ m)) => m = h ∧ (hi.map ev).isSome = true | _ => False) ∧ K (.c (.ro T ((xs.take h.toNat).drop l.toNat))) H) → Lite P o a w H g K := by
        intro e ei T xs hei hu hsz hro h
        obtain ⟨A, cap, e1, hro⟩ := hro
        simp only [List.cons.injEq, and_true] at e1
        obtain ⟨l, h, hl⟩ := bound_sound (hopt lo) h
        obtain ⟨hh, ⟨h0, hm, h⟩, hhi⟩ := bound_sound (hopt hi) h
        have hmx : mx.map a.eval = none ∨ ∃ k k', mx.map a.eval = some (.int k hh) ∧ hi.map a.eval = some (.int k' hh) := by
          cases mx with
          | none => exact .inl rfl
          | some y =>
            right
            have hy := hev y
            simp only [Option.map_some] at hm
            split at hm
            · rename_i heq; cases heq
            · rename_i k m heq
              rw [Option.some.injEq] at heq
              rw [heq] at hy
              have ey : a.eval y = .int k m := hy
              obtain ⟨q1, q2⟩ := hm
              subst q1
              rcases hhi with ⟨q3, _⟩ | ⟨k', q3⟩
              · cases hi with
                | none => simp at q2
                | some _ => simp at q3
              · exact ⟨k, k', by simp [ey], q3⟩
            · exact hm.elim
        obtain ⟨v, r1, r2⟩ := cut_sound (P := P) hei hu hro hl hhi h0 hmx hsz
        exact Lite.value (fun w' hw' => by simp only [execOp, ho, e1, Sem.run_bind, r1 w', Result.andThen_ok, Sem.run_pure]) (Lite.here hs (sv := .c (.ro _ _)) r2 h)
      cases hd : ti.desc <;> rw [hd] at h hti <;> simp only at h <;> try exact h.elim
      case str =>
        unfold cutStr at h
        split at h
        · rename_i s heq
          rw [heq] at hx
          exact str s hx hti h
        · exact h.elim
      case slice e =>
        cases he : tyFind e C.tys with
        | none => rw [he] at h; exact h.elim
        | some ei =>
          rw [he] at h
          simp only at h
          unfold sliceS at h
          split at h
          · rename_i i ver heq
            rw [heq] at hx
            obtain ⟨h1x, hr⟩ := hx
            unfold OwnRep at hr
            cases hei : H[i]? with
            | none => rw [hei] at h; exact h.elim
            | some en =>
              rw [hei] at h hr
              cases en with
              | dead => exact h.elim
              | blk => exact h.elim
              | tab => exact h.elim
              | row et T ver' xs =>
                simp only at h hr
                cases hb : (Nat.beq ver ver' && Nat.beq T.size ei.size) with
                | false => rw [hb] at h; exact h.elim
                | true =>
                  rw [hb] at h
                  rw [Bool.and_eq_true] at hb
                  simp only [cond_true] at h
                  cases lo with
                  | some _ => simp only [Option.map_some] at h
                  | none =>
                    cases hi with
                    | none => simp only [Option.map_none] at h
                    | some y =>
                      cases mx with
                      | some _ => simp only [Option.map_some, Option.map_none] at h; split at h <;> first | exact h.elim | (rename_i q1 q2; cases q2)
                      | none =>
                        simp only [Option.map_some, Option.map_none] at h
                        split at h
                        · rename_i kk n _ hy _
                          rw [Option.some.injEq] at hy
                          have hyr := hev y
                          rw [hy] at hyr
                          have ey : a.eval y = .int kk n := hyr
                          obtain ⟨⟨n0, n1⟩, h⟩ := h
                          have hver := Nat.eq_of_beq_eq_true hb.1
                          have hv := hr.2 hver
                          obtain ⟨cells, ho', hE, hone, hmine⟩ := hs.ents i _ hei
                          have hu : P.underlying t = some (.slice e) := hti
                          have hshape : ∃ A cap, g.v i = .slice A xs.length cap ∧ xs.length ≤ cap ∧ (A = none → xs.length = 0 ∧ cap = 0) := by
                            rcases ho'.2 with ⟨e1, e2⟩ | ⟨gb, cap, cur, e1, _, _, e3, _⟩
                            · exact ⟨none, 0, by rw [e1, e2], by omega, fun _ => ⟨e2, rfl⟩⟩
                            · exact ⟨_, cap, e1, e3, fun h => by cases h⟩
                          obtain ⟨A, cap, s1, s2, s3⟩ := hshape
                          have hbnd : ∀ w' : World, (Instr.sliceBounds true xs.length cap none (some (.int kk n)) none).run P w' = .ok (0, n.toNat, cap) w' := fun w' => by
                            have := run_bounds (P := P) (w := w') true (len := xs.length) (cap := cap) s2 (lo := none) (hi := some (.int kk n)) (l := 0) (h := n) (.inl ⟨rfl, rfl⟩) (.inr ⟨kk, rfl⟩) (Int.le_refl _) n0 n1
                            simpa using this
                          refine Lite.value (v := .slice A n.toNat cap) (fun w' _ => ?_) (Lite.here hs (sv := .c (.pre i ver n.toNat)) ⟨rfl, ?_⟩ h)
                          · simp only [execOp, ho, Option.map_none, Option.map_some, ey, hv, s1]
                            simp only [Instr.sliceAt, Instr.slice, Sem.run_bind, run_underlying hu, Result.andThen_ok, hbnd w', (hC.tys _ _ he).sizeOf, Sem.run_pure]
                            cases A <;> simp [Addr.add]
                          · unfold PreRep
                            rw [hei]
                            exact ⟨hr.1, fun _ => ⟨by omega, A, xs.length, cap, s1, rfl⟩⟩
                        · exact h.elim
          · rename_i T xs heq
            rw [heq] at hx
            cases hsz : Nat.beq T.size ei.size with
            | false => rw [hsz] at h; exact h.elim
            | true =>
              rw [hsz] at h
              exact sl (hC.tys _ _ he) hti (Nat.eq_of_beq_eq_true hsz) hx h
          · exact h.elim
  case fieldAddr t x f =>
    cases ht : tyFind t C.tys with
    | none => rw [ht] at h; exact h.elim
    | some ti =>
      rw [ht] at h
      simp only at h
      cases hd : ti.desc <;> rw [hd] at h <;> simp only at h <;> try exact h.elim
      rename_i fs
      cases hf : fs[f]? with
      | none => rw [hf] at h; exact h.elim
      | some p =>
        obtain ⟨off, ft⟩ := p
        rw [hf] at h
        simp only at h
        cases hft : tyFind ft C.tys with
        | none => rw [hft] at h; exact h.elim
        | some fi =>
          rw [hft] at h
          simp only at h
          cases hz : Nat.beq fi.size 0 with
          | true => rw [hz] at h; exact h.elim
          | false =>
            rw [hz] at h
            simp only [cond_false] at h
            have hne : fi.size ≠ 0 := by intro e; rw [e] at hz; simp at hz
            obtain ⟨v, sv, r1, r2, r3⟩ := field_sound hd (hC.tys _ _ ht) hf (hC.tys _ _ hft) hne (hev x) h
            exact Lite.value (fun w' hw' => by simp only [execOp, ho, Sem.run_bind, r1 w', Result.andThen_ok, Sem.run_pure]) (Lite.here hs r2 r3)
  case field t x f =>
    cases ht : tyFind t C.tys with
    | none => rw [ht] at h; exact h.elim
    | some ti =>
      rw [ht] at h
      simp only at h
      have hti := (hC.tys _ _ ht).desc
      cases hd : ti.desc <;> rw [hd] at h hti <;> simp only at h <;> try exact h.elim
      rename_i fs
      obtain ⟨fields, u1, u2⟩ := hti
      have hx := hev x
      split at h
      · rename_i off ft cs e1 e2
        rw [e2] at hx
        obtain ⟨vs, hv, hr, h1⟩ := hx
        cases hft : tyFind ft C.tys with
        | none => rw [hft] at h; exact h.elim
        | some fi =>
          rw [hft] at h
          simp only at h
          cases hb : Nat.ble (off + fi.size) cs.length with
          | false => rw [hb] at h; exact h.elim
          | true =>
            rw [hb] at h
            obtain ⟨v, r1, r2⟩ := part_sound (P := P) (hC.tys _ _ hft) hr h1 (Nat.le_of_ble_eq_true hb)
            rw [← u2, List.getElem?_map] at e1
            cases hq : fields.toList[f]? with
            | none => rw [hq] at e1; simp at e1
            | some fld =>
              rw [hq] at e1
              simp only [Option.map_some, Option.some.injEq, Prod.mk.injEq] at e1
              have hq' : fields[f]? = some fld := by simpa using hq
              refine Lite.value (v := v) ?_ (Lite.here hs r2 h)
              rw [← e1.1, ← e1.2] at r1
              simp [execOp, ho, Instr.field, run_underlying u1, hq', hv, asAgg, r1]
      · exact h.elim
  case indexAddr t x i =>
    cases ht : tyFind t C.tys with
    | none => rw [ht] at h; exact h.elim
    | some ti =>
      rw [ht] at h
      simp only at h
      have hti := (hC.tys _ _ ht).desc
      cases hd : ti.desc <;> rw [hd] at h hti <;> simp only at h <;> try exact h.elim
      rotate_left
      · rename_i len e
        have hu : P.underlying t = some (.array len e) := hti
        have go : ∀ (k : IntKind) (z : Int) (n : Nat) {ei : TI}, tyFind e C.tys = some ei → a.eval i = .int k z → z = (n : Int) → n < len → fieldS (n * ei.size) (ev x) H (fun v => K v H) → Lite P o a w H g K := by
          intro k z n ei he e1 hz hlt h
          subst hz
          obtain ⟨ad, sv, r1, r2, r3⟩ := place_sound (hev x) h
          refine Lite.value (v := .pointer (some (ad.add (n * ei.size)))) (fun w' hw' => ?_) (Lite.here hs r2 r3)
          have h0 : (0 : Int) ≤ Int.ofNat n := Int.natCast_nonneg n
          have h1 : (Int.ofNat n) < (len : Int) := Int.ofNat_lt.2 hlt
          simp [execOp, ho, r1, e1, Instr.indexAt, run_underlying hu, asIntOf, Instr.sureAddr, hlt, (hC.tys _ _ he).sizeOf]
        cases hsym : ti.sym with
        | true =>
          rw [hsym] at h
          simp only [cond_true] at h
          split at h
          · rename_i k z hi
            have hvi := hev i
            rw [hi] at hvi
            have e1 : a.eval i = .int k z := hvi
            cases he : tyFind e C.tys with
            | none => rw [he] at h; exact h.elim
            | some ei =>
              rw [he] at h
              simp only at h
              obtain ⟨⟨z0, z1⟩, h⟩ := h
              have hz : z = (z.toNat : Int) := by omega
              exact go k z z.toNat he e1 hz (by omega) (casesN_get len h z.toNat (by omega) hz)
          · exact h.elim
        | false =>
        rw [hsym] at h
        simp only [cond_false] at h
        split at h
        · rename_i k n hi
          have hvi := hev i
          rw [hi] at hvi
          have e1 : a.eval i = .int k (.ofNat n) := hvi
          cases he : tyFind e C.tys with
          | none => rw [he] at h; exact h.elim
          | some ei =>
            rw [he] at h
            simp only at h
            cases hb : Nat.blt n len with
            | false => rw [hb] at h; exact h.elim
            | true =>
              rw [hb] at h
              simp only [cond_true] at h
              exact go k (.ofNat n) n he e1 rfl (Nat.le_of_ble_eq_true hb) h
        · exact h.elim
      rename_i e
      cases he : tyFind e C.tys with
      | none => rw [he] at h; exact h.elim
      | some ei =>
        rw [he] at h
        obtain ⟨v, sv, r1, r2, r3⟩ := index_sound hs hti (hC.tys _ _ he) (hev x) (hev i) h
        exact Lite.value (fun w' hw' => by simp only [execOp, ho, Sem.run_bind, r1 w', Result.andThen_ok, Sem.run_pure]) (Lite.here hs r2 r3)
  case index t x i =>
    cases ht : tyFind t C.tys with
    | none => rw [ht] at h; exact h.elim
    | some ti =>
      rw [ht] at h
      simp only at h
      have hti := (hC.tys _ _ ht).desc
      have hx := hev x
      have hi := hev i
      split at h
      · rename_i s k n e1 e2 e3
        rw [e1] at hti
        rw [e2] at hx
        rw [e3] at hi
        have ex : a.eval x = .string s := hx
        have ei : a.eval i = .int k n := hi
        have hu : P.underlying t = some .string := hti
        obtain ⟨⟨h0, h1⟩, h⟩ := h
        have hlt : n.toNat < s.size := by omega
        refine Lite.value (v := .int .u8 (bt s n.toNat)) ?_ (Lite.here hs (sv := .c (.int .u8 (bt s n.toNat))) rfl h)
        have hlt' : n.toNat < s.data.size := hlt
        have hb : s[n.toNat]? = some s[n.toNat] := getElem?_pos s n.toNat hlt
        have hbt : bt s n.toNat = ((s[n.toNat]).toNat : Int) := by
          unfold bt
          rw [Array.getElem?_eq_getElem hlt']
          rfl
        simp [execOp, ho, ex, ei, Instr.index, run_underlying hu, asIntOf, h0, hb, hbt]
      · rename_i len e cs k n e1 e2 e3
        rw [e1] at hti
        rw [e2] at hx
        rw [e3] at hi
        obtain ⟨vs, ex, hr, hone⟩ := hx
        have ei : a.eval i = .int k (Int.ofNat n) := hi
        have hu : P.underlying t = some (.array len e) := hti
        cases he : tyFind e C.tys with
        | none => rw [he] at h; exact h.elim
        | some ei' =>
          rw [he] at h
          simp only at h
          cases hb : (Nat.blt n len && Nat.ble (n * ei'.size + ei'.size) cs.length) with
          | false => rw [hb] at h; exact h.elim
          | true =>
            rw [hb] at h
            rw [Bool.and_eq_true] at hb
            have hlt : n < len := by have := hb.1; simpa [Nat.blt_eq] using this
            obtain ⟨v, r1, r2⟩ := part_sound (P := P) (hC.tys _ _ he) hr hone (Nat.le_of_ble_eq_true hb.2)
            refine Lite.value (v := v) ?_ (Lite.here hs r2 h)
            simp [execOp, ho, ex, ei, Instr.index, run_underlying hu, asIntOf, hlt, (hC.tys _ _ he).sizeOf, r1]
      · exact h.elim
  case lookup t m k ok =>
    obtain ⟨a', et, kt, e, hu, hk, ei, hei, ha, het, h⟩ := mapTy_sound hC.tys h
    obtain ⟨v, sv, r1, r2, r3⟩ := look_sound hs hu hk hei ha het ok (hev m) (hev k) h
    refine Lite.value (v := v) (fun w' hw' => ?_) (Lite.here hs r2 r3)
    have hl : Later w w' := hw'.resolve_left (by rw [ho]; exact Bool.false_ne_true)
    simp only [execOp, ho, Sem.run_bind, r1 w' hl, Result.andThen_ok, Sem.run_pure]
  case extract x i =>
    have hx := hev x
    split at h
    · rename_i l heq
      rw [heq] at hx
      obtain ⟨vs, e, hl, hr⟩ := hx
      cases hp : l[i]? with
      | none => rw [hp] at h; exact h.elim
      | some p =>
        rw [hp] at h
        have hi : i < vs.length := by rw [hl]; exact (List.getElem?_eq_some_iff.1 hp).1
        obtain ⟨us, q1, q2, q3⟩ := hr i p _ hp (List.getElem?_eq_getElem hi)
        refine Lite.value (v := vs[i]) ?_ (Lite.here hs (mkV_rep q1 q2 q3) h)
        simp [execOp, ho, e, Instr.extract, hi]
    · exact h.elim
  case call c =>
    simp only [lightOp] at hl
    cases hcal : c.callee <;> rw [hcal] at h hl <;> simp only at h hl <;> try cases hl
    rename_i b
    have hb : b = .len ∨ b = .max ∨ b = .min := by cases b <;> simp at hl ⊢
    refine builtin_light (type := o.type) (consts := c.args.map fun | .const _ => true | _ => false) hC hs hb (args_rep hev c.args.toList) (fun v w' hr => ?_) h
    have hargs : (c.args.toList.map a.eval).toArray = c.args.map a.eval := by apply Array.toList_inj.1; rw [Array.toList_map]
    rw [hargs] at hr
    have htys : c.argTypes.toList.toArray = c.argTypes := by simp
    rw [htys] at hr
    simp only [execOp, ho, resolve, hcal, Sem.run_bind, Sem.run_pure, Result.andThen_ok, invoke]
    exact hr

/-- The others. -/
theorem opStep_heavy (hC : CtxOK P C) {o : Oper} {a : Act} (hs : Sat B X w0 H g w) {ev : Operand → SV} (hev : ∀ x, (ev x).Rep w H g (a.eval x)) {K : SV → List Ent → Prop}
    (hli : lightOp o.op = false) (h : opStep C o.op ev H K) : Runs P o a w (Post B X w0 K w H g) := by
  have hmap : ∀ (l : List (Nat × Operand)), (l.map fun p => (p.1, ev p.2)).map Prod.fst = (l.map fun p => (p.1, a.eval p.2)).map Prod.fst ∧
      ∀ (j : Nat) (p : Nat × SV) (q : Nat × Value), (l.map fun p => (p.1, ev p.2))[j]? = some p → (l.map fun p => (p.1, a.eval p.2))[j]? = some q → p.2.Rep w H g q.2 := by
    intro l
    refine ⟨by simp [List.map_map, Function.comp_def], fun j p q h1 h2 => ?_⟩
    rw [List.getElem?_map] at h1 h2
    cases hj : l[j]? with
    | none => rw [hj] at h1; simp at h1
    | some r => rw [hj] at h1 h2; simp at h1 h2; subst h1; subst h2; exact hev _
  cases ho : o.op <;> rw [ho] at h hli <;> simp only [opStep] at h <;> try (first | exact h.elim | exact Bool.noConfusion hli)
  case alloc e =>
    cases ht : tyFind e C.tys with
    | none => rw [ht] at h; exact h.elim
    | some ti =>
      rw [ht] at h
      have hti := hC.tys _ _ ht
      obtain ⟨z, z1, z2, _⟩ := hti.zero (w := w)
      obtain ⟨g', b1, b2, b3⟩ := new_blk hs e (reps_zero ti.zero) hti.one
      refine Runs.value (w' := w.alloc (.cells ti.zero.toArray e)) (v := .pointer (some ⟨w.heap.size, 0, none⟩)) ?_ ⟨_, _, g', h, b1, b2, ⟨by simp, by rw [b3]⟩⟩
      simp [execOp, ho, Instr.alloc, z1, newVar, newRow, ← z2]
  case box e x =>
    cases hc : (ev x).cells with
    | none => rw [hc] at h; exact h.elim
    | some l =>
      rw [hc] at h
      obtain ⟨r1, r2⟩ := SV.cells_rep hc (hev x)
      obtain ⟨g', b1, b2, b3⟩ := new_blk hs e r1 r2
      refine Runs.value (w' := w.alloc (.cells (a.eval x).cells.toList.toArray e)) (v := .pointer (some ⟨w.heap.size, 0, none⟩)) ?_ ⟨_, _, g', h, b1, b2, ⟨by simp, by rw [b3]⟩⟩
      simp [execOp, ho, Instr.box, newVar, newRow]
  case buildSlice t n parts =>
    cases ht : tyFind t C.tys with
    | none => rw [ht] at h; exact h.elim
    | some ti =>
      rw [ht] at h
      simp only at h
      have hti := hC.tys _ _ ht
      cases hd : ti.desc <;> rw [hd] at h <;> simp only at h <;> try exact h.elim
      rename_i e
      cases he : tyFind e C.tys with
      | none => rw [he] at h; exact h.elim
      | some ei =>
        rw [he] at h
        simp only at h
        cases het : ei.ty with
        | none => rw [het] at h; exact h.elim
        | some et =>
          rw [het] at h
          simp only at h
          cases hn : Nat.ble (n * ei.size) 10000 with
          | false => rw [hn] at h; exact h.elim
          | true =>
            rw [hn] at h
            simp only [cond_true] at h
            cases hf : fillS (fun j => some (j * ei.size, ei.size)) (parts.toList.map fun p => (p.1, ev p.2)) (rep0 n (ei.zero.map constSC)) with
            | none => rw [hf] at h; exact h.elim
            | some cs =>
              rw [hf] at h
              obtain ⟨m1, m2⟩ := hmap parts.toList
              obtain ⟨v, w1, r1, r2, _⟩ := buildSlice_sound hC.tys hs hti hd he het (Nat.le_of_ble_eq_true hn) m1 m2 hf h
              refine Runs.value ?_ r2
              have hp : (parts.map fun (x : Nat × Operand) => (x.1, a.eval x.2)) = (parts.toList.map fun p => (p.1, a.eval p.2)).toArray := by apply Array.toList_inj.1; rw [Array.toList_map]
              simp only [execOp, ho, hp, Sem.run_bind, r1, Result.andThen_ok, Sem.run_pure]
  case store t x y =>
    cases ht : tyFind t C.tys with
    | none => rw [ht] at h; exact h.elim
    | some ti =>
      rw [ht] at h
      simp only at h
      split at h
      · rename_i i ver n heq
        have hy := hev y
        rw [heq] at hy
        obtain ⟨h1y, hy⟩ := hy
        unfold PreRep at hy
        cases hei : H[i]? with
        | none => rw [hei] at h; exact h.elim
        | some en =>
          rw [hei] at h hy
          cases en with
          | dead => exact h.elim
          | blk => exact h.elim
          | tab => exact h.elim
          | row e T ver' xs =>
            simp only at h hy
            cases hb : Nat.beq ver ver' with
            | false => rw [hb] at h; exact h.elim
            | true =>
              rw [hb] at h
              simp only [cond_true] at h
              have hver := Nat.eq_of_beq_eq_true hb
              obtain ⟨hn, A, len, cap, hg0, hv⟩ := hy.2 hver
              obtain ⟨cells, ho0, hE, hone, hmine⟩ := hs.ents i _ hei
              obtain ⟨cells', p1, p2, p3, p4⟩ := row_prefix ho0 hE hone hn hg0 hv
              have hil : i < H.length := (List.getElem?_eq_some_iff.1 hei).1
              have hlt : (xs.take n).length = n := by simp; omega
              obtain ⟨b1, b2⟩ := Sat.upd (g1 := ⟨g.b, fun k => if k = i then a.eval y else g.v k, g.ok⟩) (w1 := w) hs i _ (.row e T (ver + 1) (xs.take n)) hei rfl (fun _ => rfl) (fun k hk => if_neg hk) rfl rfl rfl (Nat.le_refl _)
                (fun b _ _ => rfl) (fun b hb => by
                  simp only [Ent.blocks, if_true] at hb
                  left; show (g.v i).ownBlock = some b; rw [← p4]; exact hb)
                (fun e t v x he => by cases he; exact ⟨ver', xs, rfl, .inl (by omega)⟩)
                (fun hev' => ⟨cells', by simp only [if_true, hlt]; exact p1, p2.mono (fun _ _ h => Ty.Rep.mono hev'.keeps T h) (fun _ _ h => h), p3, fun b hb => by
                  simp only [if_true] at hb
                  rw [p4] at hb
                  exact hmine b hb⟩)
              have hown : (SV.c (.own i (ver + 1))).Rep w (H.set i (.row e T (ver + 1) (xs.take n))) ⟨g.b, fun k => if k = i then a.eval y else g.v k, g.ok⟩ (a.eval y) :=
                own_rep (w := w) (e := e) (T := T) (xs := xs.take n) (List.getElem?_set_self hil) (if_pos rfl) h1y
              obtain ⟨w1, H1, g1, r1, r2, r3, r4⟩ := store_sound b1 (hC.tys _ _ ht) ((hev x).evo b2) hown h
              exact Runs.skip (w' := w1) (by simp only [execOp, ho, Sem.run_bind, r1, Result.andThen_ok, Sem.run_pure]) ⟨_, H1, g1, r2, r3, b2.trans r4, trivial⟩
      · obtain ⟨w1, H1, g1, r1, r2, r3, r4⟩ := store_sound hs (hC.tys _ _ ht) (hev x) (hev y) h
        exact Runs.skip (w' := w1) (by simp only [execOp, ho, Sem.run_bind, r1, Result.andThen_ok, Sem.run_pure]) ⟨_, H1, g1, r2, r3, r4, trivial⟩
  case makeMap t res =>
    cases res with
    | some _ => exact h.elim
    | none =>
      obtain ⟨a', et, kt, e, hu, hk, ei, hei, ha, het, h⟩ := mapTy_sound hC.tys h
      obtain ⟨g', b1, b2, b3⟩ := new_tab hs a' et
      refine Runs.value (w' := w.alloc (.map #[] 0)) (v := .map (some w.heap.size)) ?_ ⟨_, _, g', h, b1, b2, ⟨by simp, by rw [b3]⟩⟩
      simp [execOp, ho, Instr.makeMap]
  case mapUpdate t m k y =>
    obtain ⟨a', et, kt, e, hu, hk, ei, hei, ha, het, h⟩ := mapTy_sound hC.tys h
    have hm := hev m
    have hkk := hev k
    have hy := hev y
    split at h
    · rename_i i n e1 e2
      rw [e1] at hm
      rw [e2] at hkk
      cases hi : H[i]? with
      | none => rw [hi] at h; exact h.elim
      | some en =>
        rw [hi] at h
        cases en with
        | dead => exact h.elim
        | blk => exact h.elim
        | row => exact h.elim
        | tab a2 t2 es =>
          simp only at h
          cases hb : (a' == a2) with
          | false => rw [hb] at h; exact h.elim
          | true =>
            rw [hb] at h
            simp only [cond_true] at h
            have haa : a' = a2 := by simpa using hb
            subst haa
            split at h
            · rename_i htt
              subst htt
              obtain ⟨x, H1, d2, d3, d3', d6, d8⟩ := elem_sound hs hy h
              rcases d3' i with hi1 | hi1
              · rw [hi] at hi1
                rw [hi1] at d8
                obtain ⟨w1, u1, u2, u3⟩ := upd_sound (P := P) d2 hu hk hi1 (n := n) d6
                have em : a.eval m = .map (some (g.b i)) := hm.2
                have ek : a.eval k = .int .i64 n := hkk
                exact Runs.skip (w' := w1) (by simp only [execOp, ho, em, ek, Sem.run_bind, u1, Result.andThen_ok, Sem.run_pure]) ⟨_, _, g, d8, u2, d3.trans u3, trivial⟩
              · rw [hi1] at d8; exact d8.elim
            · exact h.elim
    · exact h.elim
  case makeSlice t l c =>
    cases ht : tyFind t C.tys with
    | none => rw [ht] at h; exact h.elim
    | some ti =>
      rw [ht] at h
      simp only at h
      have hti := (hC.tys _ _ ht).desc
      cases hd : ti.desc <;> rw [hd] at h hti <;> simp only at h <;> try exact h.elim
      rename_i e
      have hu : P.underlying t = some (.slice e) := hti
      cases he : tyFind e C.tys with
      | none => rw [he] at h; exact h.elim
      | some ei =>
        rw [he] at h
        simp only at h
        have hl := hev l
        have hc := hev c
        split at h
        · rename_i et k1 n k2 m e1 e2 e3
          rw [e2] at hl
          rw [e3] at hc
          have hl' : a.eval l = .int k1 n := hl
          have hc' : a.eval c = .int k2 m := hc
          cases hb : Nat.ble ei.bytes 100000 with
          | false => rw [hb] at h; exact h.elim
          | true =>
            rw [hb] at h
            obtain ⟨v, w1, r1, r2, _⟩ := make_sound (kl := k1) (kc := k2) hs hu (hC.tys _ _ he) e1 (Nat.le_of_ble_eq_true hb) h.1 h.2
            exact Runs.value (by simp only [execOp, ho, hl', hc', Sem.run_bind, r1, Result.andThen_ok, Sem.run_pure]) r2
        · exact h.elim
  case call c =>
    cases hcal : c.callee <;> rw [hcal] at h <;> simp only at h <;> try exact h.elim
    case value f =>
      have hf := hev f
      split at h
      · rename_i fid caps heq
        rw [heq] at hf
        obtain ⟨hf1, hf2⟩ := hf
        cases hsp : specFind fid C.fns with
        | none => rw [hsp] at h; exact h.elim
        | some s =>
          rw [hsp] at h
          obtain ⟨⟨fn, p1, p2, p3⟩, hspec⟩ := hC.fns _ _ hsp
          have hargs : ArgsRep w H g (c.args.toList.map ev ++ caps.map fun i => .c (.ptr i 0)) (c.args.toList.map a.eval ++ caps.map fun i => Value.pointer (some ⟨g.b i, 0, none⟩)) := by
            obtain ⟨q1, q2⟩ := args_rep hev c.args.toList
            refine ⟨by simp, fun j x v h1 h2 => ?_⟩
            rcases Nat.lt_or_ge j c.args.toList.length with hj | hj
            · rw [List.getElem?_append_left (by simpa using hj)] at h1 h2
              exact q2 j x v h1 h2
            · rw [List.getElem?_append_right (by simpa using hj), List.getElem?_map] at h1 h2
              simp only [List.length_map] at h1 h2
              cases hq : caps[j - c.args.toList.length]? with
              | none => rw [hq] at h1; simp at h1
              | some m =>
                rw [hq] at h1 h2
                simp at h1 h2
                subst h1; subst h2
                exact ⟨hf2 m (List.mem_of_getElem? hq), rfl⟩
          have hcalls := hspec B X w0 H g w _ _ K h hs hargs
          refine Runs.enter ?_ hcalls
          have hal : (#[] ++ c.args.map a.eval) ++ (caps.map fun i => Value.pointer (some ⟨g.b i, 0, none⟩)).toArray = (c.args.toList.map a.eval ++ caps.map fun i => Value.pointer (some ⟨g.b i, 0, none⟩)).toArray := by
            apply Array.toList_inj.1
            simp
          rw [← hal]
          simp only [execOp, ho, resolve, hcal, hf1, Deferred.ofValue, Sem.run_bind, Sem.run_pure, Result.andThen_ok, invoke, run_callFunc p1 p2 p3]
      · exact h.elim
    case builtin b =>
      have hb : b = .append := by
        simp only [lightOp, hcal] at hli
        cases b <;> simp at hli <;> simp only [builtinS] at h <;> first | rfl | exact h.elim
      refine append_op_sound (type := o.type) (consts := c.args.map fun | .const _ => true | _ => false) hC hs hb (args_rep hev c.args.toList) (fun v w' hr => ?_) h
      have hargs : (c.args.toList.map a.eval).toArray = c.args.map a.eval := by apply Array.toList_inj.1; rw [Array.toList_map]
      rw [hargs] at hr
      have htys : c.argTypes.toList.toArray = c.argTypes := by simp
      rw [htys] at hr
      simp only [execOp, ho, resolve, hcal, Sem.run_bind, Sem.run_pure, Result.andThen_ok, invoke]
      exact hr
/-- Those that change nothing that was there. -/
theorem opStep_keep (hC : CtxOK P C) {o : Oper} {a : Act} (hs : Sat B X w0 H g w) {ev : Operand → SV} (hev : ∀ x, (ev x).Rep w H g (a.eval x)) {K : SV → List Ent → Prop}
    (hli : keepOp C o.op = true) (h : opStep C o.op ev H K) : Runs P o a w fun v w' => Post B X w0 K w H g v w' ∧ Later w w' := by
  have hmap : ∀ (l : List (Nat × Operand)), (l.map fun p => (p.1, ev p.2)).map Prod.fst = (l.map fun p => (p.1, a.eval p.2)).map Prod.fst ∧
      ∀ (j : Nat) (p : Nat × SV) (q : Nat × Value), (l.map fun p => (p.1, ev p.2))[j]? = some p → (l.map fun p => (p.1, a.eval p.2))[j]? = some q → p.2.Rep w H g q.2 := by
    intro l
    refine ⟨by simp [List.map_map, Function.comp_def], fun j p q h1 h2 => ?_⟩
    rw [List.getElem?_map] at h1 h2
    cases hj : l[j]? with
    | none => rw [hj] at h1; simp at h1
    | some r => rw [hj] at h1 h2; simp at h1 h2; subst h1; subst h2; exact hev _
  cases ho : o.op <;> rw [ho] at h hli <;> simp only [opStep] at h <;> try (first | exact h.elim | exact Bool.noConfusion hli)
  case alloc e =>
    cases ht : tyFind e C.tys with
    | none => rw [ht] at h; exact h.elim
    | some ti =>
      rw [ht] at h
      have hti := hC.tys _ _ ht
      obtain ⟨z, z1, z2, _⟩ := hti.zero (w := w)
      obtain ⟨g', b1, b2, b3⟩ := new_blk hs e (reps_zero ti.zero) hti.one
      refine Runs.value (w' := w.alloc (.cells ti.zero.toArray e)) (v := .pointer (some ⟨w.heap.size, 0, none⟩)) ?_ ⟨⟨_, _, g', h, b1, b2, ⟨by simp, by rw [b3]⟩⟩, Later.alloc w _⟩
      simp [execOp, ho, Instr.alloc, z1, newVar, newRow, ← z2]
  case box e x =>
    cases hc : (ev x).cells with
    | none => rw [hc] at h; exact h.elim
    | some l =>
      rw [hc] at h
      obtain ⟨r1, r2⟩ := SV.cells_rep hc (hev x)
      obtain ⟨g', b1, b2, b3⟩ := new_blk hs e r1 r2
      refine Runs.value (w' := w.alloc (.cells (a.eval x).cells.toList.toArray e)) (v := .pointer (some ⟨w.heap.size, 0, none⟩)) ?_ ⟨⟨_, _, g', h, b1, b2, ⟨by simp, by rw [b3]⟩⟩, Later.alloc w _⟩
      simp [execOp, ho, Instr.box, newVar, newRow]
  case buildSlice t n parts =>
    cases ht : tyFind t C.tys with
    | none => rw [ht] at h; exact h.elim
    | some ti =>
      rw [ht] at h
      simp only at h
      have hti := hC.tys _ _ ht
      cases hd : ti.desc <;> rw [hd] at h <;> simp only at h <;> try exact h.elim
      rename_i e
      cases he : tyFind e C.tys with
      | none => rw [he] at h; exact h.elim
      | some ei =>
        rw [he] at h
        simp only at h
        cases het : ei.ty with
        | none => rw [het] at h; exact h.elim
        | some et =>
          rw [het] at h
          simp only at h
          cases hn : Nat.ble (n * ei.size) 10000 with
          | false => rw [hn] at h; exact h.elim
          | true =>
            rw [hn] at h
            simp only [cond_true] at h
            cases hf : fillS (fun j => some (j * ei.size, ei.size)) (parts.toList.map fun p => (p.1, ev p.2)) (rep0 n (ei.zero.map constSC)) with
            | none => rw [hf] at h; exact h.elim
            | some cs =>
              rw [hf] at h
              obtain ⟨m1, m2⟩ := hmap parts.toList
              obtain ⟨v, w1, r1, r2, rl⟩ := buildSlice_sound hC.tys hs hti hd he het (Nat.le_of_ble_eq_true hn) m1 m2 hf h
              refine Runs.value ?_ ⟨r2, rl⟩
              have hp : (parts.map fun (x : Nat × Operand) => (x.1, a.eval x.2)) = (parts.toList.map fun p => (p.1, a.eval p.2)).toArray := by apply Array.toList_inj.1; rw [Array.toList_map]
              simp only [execOp, ho, hp, Sem.run_bind, r1, Result.andThen_ok, Sem.run_pure]
  case makeSlice t l c =>
    cases ht : tyFind t C.tys with
    | none => rw [ht] at h; exact h.elim
    | some ti =>
      rw [ht] at h
      simp only at h
      have hti := (hC.tys _ _ ht).desc
      cases hd : ti.desc <;> rw [hd] at h hti <;> simp only at h <;> try exact h.elim
      rename_i e
      have hu : P.underlying t = some (.slice e) := hti
      cases he : tyFind e C.tys with
      | none => rw [he] at h; exact h.elim
      | some ei =>
        rw [he] at h
        simp only at h
        have hl := hev l
        have hc := hev c
        split at h
        · rename_i et k1 n k2 m e1 e2 e3
          rw [e2] at hl
          rw [e3] at hc
          have hl' : a.eval l = .int k1 n := hl
          have hc' : a.eval c = .int k2 m := hc
          cases hb : Nat.ble ei.bytes 100000 with
          | false => rw [hb] at h; exact h.elim
          | true =>
            rw [hb] at h
            obtain ⟨v, w1, r1, r2, rl⟩ := make_sound (kl := k1) (kc := k2) hs hu (hC.tys _ _ he) e1 (Nat.le_of_ble_eq_true hb) h.1 h.2
            exact Runs.value (by simp only [execOp, ho, hl', hc', Sem.run_bind, r1, Result.andThen_ok, Sem.run_pure]) ⟨r2, rl⟩
        · exact h.elim
  case call c =>
    cases hcal : c.callee <;> simp only [keepOp, hcal] at hli <;> rw [hcal] at h <;> simp only at h <;> try (first | exact h.elim | cases hli)
    case value f =>
      cases f <;> simp only at hli <;> try cases hli
      rename_i f0
      have hf := hev (.func f0)
      split at h
      · rename_i fid caps heq
        rw [heq] at hf
        obtain ⟨hf1, hf2⟩ := hf
        have hfid : fid = f0 := by
          have e := hf1
          simp [Act.eval] at e
          exact e.1.symm
        subst hfid
        cases hsp : specFind fid C.fns with
        | none => rw [hsp] at h; exact h.elim
        | some s =>
          rw [hsp] at h
          obtain ⟨⟨fn, p1, p2, p3⟩, _⟩ := hC.fns _ _ hsp
          have hargs : ArgsRep w H g (c.args.toList.map ev ++ caps.map fun i => .c (.ptr i 0)) (c.args.toList.map a.eval ++ caps.map fun i => Value.pointer (some ⟨g.b i, 0, none⟩)) := by
            obtain ⟨q1, q2⟩ := args_rep hev c.args.toList
            refine ⟨by simp, fun j x v h1 h2 => ?_⟩
            rcases Nat.lt_or_ge j c.args.toList.length with hj | hj
            · rw [List.getElem?_append_left (by simpa using hj)] at h1 h2
              exact q2 j x v h1 h2
            · rw [List.getElem?_append_right (by simpa using hj), List.getElem?_map] at h1 h2
              simp only [List.length_map] at h1 h2
              cases hq : caps[j - c.args.toList.length]? with
              | none => rw [hq] at h1; simp at h1
              | some m =>
                rw [hq] at h1 h2
                simp at h1 h2
                subst h1; subst h2
                exact ⟨hf2 m (List.mem_of_getElem? hq), rfl⟩
          have hcalls := hC.keeps _ _ hli hsp B X w0 H g w _ _ K h hs hargs
          refine Runs.enter ?_ hcalls
          have hal : (#[] ++ c.args.map a.eval) ++ (caps.map fun i => Value.pointer (some ⟨g.b i, 0, none⟩)).toArray = (c.args.toList.map a.eval ++ caps.map fun i => Value.pointer (some ⟨g.b i, 0, none⟩)).toArray := by
            apply Array.toList_inj.1
            simp
          rw [← hal]
          simp only [execOp, ho, resolve, hcal, hf1, Deferred.ofValue, Sem.run_bind, Sem.run_pure, Result.andThen_ok, invoke, run_callFunc p1 p2 p3]
      · exact h.elim
/-- The executor's operation stands for the model's. -/
theorem opStep_sound (hC : CtxOK P C) {o : Oper} {a : Act} (hs : Sat B X w0 H g w) {ev : Operand → SV} (hev : ∀ x, (ev x).Rep w H g (a.eval x)) {K : SV → List Ent → Prop}
    (h : opStep C o.op ev H K) : Runs P o a w (Post B X w0 K w H g) := by
  cases hli : lightOp o.op with
  | true =>
    obtain ⟨v, sv, r1, r2, r3⟩ := opStep_light hC hs hev hli h
    exact Runs.value (r1 w (.inr (Later.refl w))) (Post.here hs r2 r3)
  | false => exact opStep_heavy hC hs hev hli h
end
end Go.SX
