/- SX, part C: what each helper of the executor rests on. -/
import Derived.Test.YtfbgbdiajghnbaaDoorSxB
namespace Go.SX
open Go Go.RowKit

/-! ### The table of types -/

def De.Fits (P : Program) (t : TypeId) : De → Prop
  | .other => ∃ d, P.underlying t = some d ∧ (∀ fs, d ≠ .struct fs) ∧ ∀ n e, d ≠ .array n e
  | .int k => P.underlying t = some (.int k)
  | .bool => P.underlying t = some .bool
  | .str => P.underlying t = some .string
  | .slice e => P.underlying t = some (.slice e)
  | .struct fs => ∃ fields, P.underlying t = some (.struct fields) ∧ fields.toList.map (fun f => (f.offset, f.type)) = fs
  | .array n e => P.underlying t = some (.array n e)
  | .ptr e => P.underlying t = some (.pointer e)
  | .map k e => P.underlying t = some (.map k e)

structure TIok (P : Program) (t : TypeId) (ti : TI) : Prop where
  info : ∃ i, P.info? t = some i ∧ i.size = ti.size ∧ i.bytes = ti.bytes ∧ ∃ z, i.zero = some z ∧ z.cells.toList = ti.zero ∧ (ti.desc.isAgg = true → z = .agg ti.zero.toArray)
  desc : ti.desc.Fits P t
  len : ti.zero.length = ti.size
  single : ti.desc.isAgg = false → ti.size = 1
  sg : ti.desc.isAgg = false → ∀ i z, P.info? t = some i → i.zero = some z → ti.zero = [z]
  one : ∀ u ∈ ti.zero, u.oneCell' = true
  ty : ∀ T, ti.ty = some T → T.size = ti.size ∧ T.zeros = ti.zero
  eqs : ti.eqs = true → P.stoodInHeld t = false ∧ P.eqGuardType P.depth t = false ∧ ∀ fields, P.underlying t = some (.struct fields) → ∀ f ∈ fields.toList, f.name ≠ "_"

def Post (B : Nat) (X : Nat → Prop) (w0 : World) (K : SV → List Ent → Prop) (w : World) (H : List Ent) (g : Gh) (v : Value) (w' : World) : Prop :=
  ∃ sv H' g', K sv H' ∧ Sat B X w0 H' g' w' ∧ Evo w H g w' H' g' ∧ sv.Rep w' H' g' v

theorem Post.mono {B : Nat} {X : Nat → Prop} {w0 : World} {K K' : SV → List Ent → Prop} {w : World} {H : List Ent} {g : Gh} {v : Value} {w' : World}
    (h : Post B X w0 K w H g v w') (hk : ∀ sv H', K sv H' → K' sv H') : Post B X w0 K' w H g v w' := by
  obtain ⟨sv, H', g', h1, h2, h3, h4⟩ := h
  exact ⟨sv, H', g', hk _ _ h1, h2, h3, h4⟩

def ArgsRep (w : World) (H : List Ent) (g : Gh) (args : List SV) (vals : List Value) : Prop :=
  vals.length = args.length ∧ ∀ (j : Nat) (x : SV) (v : Value), args[j]? = some x → vals[j]? = some v → x.Rep w H g v

def SpecOK (P : Program) (f : FuncId) (s : Spec) : Prop :=
  (∃ fn, P.funcs[f]? = some fn ∧ (fn.name == "runtime.NumGoroutine") = false ∧ fn.body.isNone = false) ∧
  ∀ B X w0 H g w args vals K, s args H K → Sat B X w0 H g w → ArgsRep w H g args vals →
    Calls P f vals.toArray w fun e w' => ∃ v, e = .returned v ∧ Post B X w0 K w H g v w'


/-! ### Runs -/

/-- Nothing that stood there has changed. -/
def Later (w w' : World) : Prop := w.heap.size ≤ w'.heap.size ∧ ∀ b, b < w.heap.size → w'.heap[b]? = w.heap[b]?

theorem Later.refl (w : World) : Later w w := ⟨Nat.le_refl _, fun _ _ => rfl⟩
theorem Later.trans {w w1 w2 : World} (h : Later w w1) (k : Later w1 w2) : Later w w2 :=
  ⟨Nat.le_trans h.1 k.1, fun b hb => (k.2 b (Nat.lt_of_lt_of_le hb h.1)).trans (h.2 b hb)⟩
theorem Later.alloc (w : World) (o : Obj) : Later w (w.alloc o) :=
  ⟨by show _ ≤ (w.heap.push o).size; simp, fun b hb => by show (w.heap.push o)[b]? = _; rw [Array.getElem?_push, if_neg (Nat.ne_of_lt hb)]⟩
theorem Later.cell {w w' : World} (h : Later w w') {a : Addr} {v : Value} (hc : w.cell? a = some v) : w'.cell? a = some v := by
  have hb : a.block < w.heap.size := by
    unfold World.cell? at hc
    cases hx : w.heap[a.block]? with
    | none => rw [hx] at hc; cases hc
    | some o => exact (Array.getElem?_eq_some_iff.1 hx).1
  rw [← hc]
  exact World.cell?_of_block (h.2 _ hb)


def Runs (P : Program) (o : Oper) (a : Act) (w : World) (R : Value → World → Prop) : Prop :=
  ∀ (next : Act → World → Prop) (Q : Exit → Act → World → Prop), (∀ v w', R v w' → next (a.put o.dst v) w') → o.wp P a w next Q

theorem Runs.value {P : Program} {o : Oper} {a : Act} {w w' : World} {R : Value → World → Prop} {v : Value}
    (h : (execOp a.eval o).run P w = .ok (.value v) w') (hR : R v w') : Runs P o a w R := fun next Q hn => by
  unfold Oper.wp; rw [h]; exact hn v w' hR
theorem Runs.skip {P : Program} {o : Oper} {a : Act} {w w' : World} {R : Value → World → Prop}
    (h : (execOp a.eval o).run P w = .ok .skip w') (hR : R undef w') : Runs P o a w R := fun next Q hn => by
  unfold Oper.wp; rw [h]; exact hn undef w' hR
theorem Runs.enter {P : Program} {o : Oper} {a : Act} {w : World} {R : Value → World → Prop} {f : FuncId} {args : Array Value}
    (h : (execOp a.eval o).run P w = .ok (.enter f args) w) (hR : Calls P f args w fun e w' => ∃ v, e = .returned v ∧ R v w') : Runs P o a w R := fun next Q hn => by
  unfold Oper.wp; rw [h]
  show Calls P f args w _
  refine hR.mono ?_
  rintro e w' ⟨v, rfl, hr⟩
  exact hn v w' hr

/-- A contract that also says that nothing that was there is changed. -/
def SpecKeeps (P : Program) (f : FuncId) (s : Spec) : Prop :=
  ∀ B X w0 H g w args vals K, s args H K → Sat B X w0 H g w → ArgsRep w H g args vals →
    Calls P f vals.toArray w fun e w' => ∃ v, e = .returned v ∧ Post B X w0 K w H g v w' ∧ Later w w'

structure CtxOK (P : Program) (C : Ctx) : Prop where
  tys : ∀ t ti, tyFind t C.tys = some ti → TIok P t ti
  fns : ∀ f s, specFind f C.fns = some s → SpecOK P f s
  keeps : ∀ f s, C.keep f = true → specFind f C.fns = some s → SpecKeeps P f s
  mixed : P.follows .mixedOrders = true

/-! ### Values and cells -/

section
variable {w : World} {H : List Ent} {g : Gh}

theorem rep_const (v : Value) : (constSC v).Rep w H g v := by
  unfold constSC
  cases v <;> simp [SC.Rep]

theorem reps_zero (l : List Value) : Reps w H g (l.map constSC) l := by
  refine ⟨by simp, fun j c v h1 h2 => ?_⟩
  rw [List.getElem?_map, h2] at h1
  cases h1
  exact rep_const v

theorem rep_constSV (v : Value) : (constSV v).Rep w H g v := by
  cases v with
  | agg cs =>
    simp only [constSV]
    cases h : cs.toList.all (·.oneCell') with
    | true => exact ⟨cs.toList, by simp, reps_zero _, fun u hu => List.all_eq_true.1 h u hu⟩
    | false => trivial
  | _ => simp only [constSV, SV.Rep]; exact rep_const _

theorem SC.rep_one {x : SC} {v : Value} (h1 : x.one = true) (h : x.Rep w H g v) : v.oneCell' = true := by
  cases x with
  | any => simp [SC.one] at h1
  | raw u => simp [SC.one] at h1; rw [h]; exact h1
  | int => rw [h]; rfl
  | prop => rw [h]; rfl
  | bool => rw [h]; rfl
  | kb => rw [h]; rfl
  | str => rw [h]; rfl
  | ptr => rw [h.2]; rfl
  | ro t xs =>
    obtain ⟨A, cap, e, _⟩ := h
    cases e; rfl
  | roa => obtain ⟨_, ad, rfl, _⟩ := h; rfl
  | own => exact h.1
  | owna => exact h.1
  | pre => exact h.1
  | tab => rw [h.2]; rfl
  | fn => rw [h.1]; rfl

theorem cells_one {v : Value} (h : v.oneCell' = true) : v.cells = #[v] := by cases v <;> first | rfl | simp [Value.oneCell'] at h

theorem SV.cells_rep {x : SV} {l : List SC} {v : Value} (hc : x.cells = some l) (h : x.Rep w H g v) : Reps w H g l v.cells.toList ∧ ∀ u ∈ v.cells.toList, u.oneCell' = true := by
  cases x with
  | c x =>
    simp only [SV.cells] at hc
    cases ho : x.one with
    | false => simp [ho] at hc
    | true =>
      simp [ho] at hc
      subst hc
      have h1 := SC.rep_one ho h
      rw [cells_one h1]
      refine ⟨⟨rfl, fun j c u hj hu => ?_⟩, by simpa using h1⟩
      cases j with
      | zero => simp at hj hu; subst hj; subst hu; exact h
      | succ j => simp at hj
  | agg m =>
    simp only [SV.cells, Option.some.injEq] at hc
    subst hc
    obtain ⟨vs, rfl, h1, h2⟩ := h
    exact ⟨by simpa [Value.cells] using h1, by simpa [Value.cells] using h2⟩
  | tup => simp [SV.cells] at hc

theorem mkV_rep {agg : Bool} {l : List SC} {vs : List Value} {v : Value} (h : Reps w H g l vs) (h1 : ∀ u ∈ vs, u.oneCell' = true)
    (hv : if agg = true then v = .agg vs.toArray else vs = [v]) : (mkV agg l).Rep w H g v := by
  cases agg with
  | true => simp at hv; exact ⟨vs, hv, h, h1⟩
  | false =>
    simp at hv
    subst hv
    have hl := h.1
    match l, hl with
    | [x], _ => exact h.2 0 x v rfl rfl

theorem Reps.append {l m : List SC} {vs us : List Value} (h : Reps w H g l vs) (k : Reps w H g m us) : Reps w H g (l ++ m) (vs ++ us) := by
  refine ⟨by simp [h.1, k.1], fun j c v h1 h2 => ?_⟩
  rcases Nat.lt_or_ge j l.length with hj | hj
  · rw [List.getElem?_append_left hj] at h1
    rw [List.getElem?_append_left (by rw [h.1]; exact hj)] at h2
    exact h.2 j c v h1 h2
  · rw [List.getElem?_append_right hj] at h1
    rw [List.getElem?_append_right (by rw [h.1]; exact hj), h.1] at h2
    exact k.2 _ c v h1 h2

theorem Reps.drop {l : List SC} {vs : List Value} (h : Reps w H g l vs) (n : Nat) : Reps w H g (l.drop n) (vs.drop n) :=
  ⟨by simp [h.1], fun j c v h1 h2 => by rw [List.getElem?_drop] at h1 h2; exact h.2 _ c v h1 h2⟩

theorem Reps.take {l : List SC} {vs : List Value} (h : Reps w H g l vs) (n : Nat) : Reps w H g (l.take n) (vs.take n) := by
  refine ⟨by simp [h.1], fun j c v h1 h2 => ?_⟩
  rw [List.getElem?_take] at h1 h2
  split at h1
  · rw [if_pos (by assumption)] at h2; exact h.2 _ c v h1 h2
  · cases h1

theorem Reps.set {l : List SC} {vs : List Value} (h : Reps w H g l vs) (n : Nat) {x : SC} {v : Value} (hx : x.Rep w H g v) : Reps w H g (l.set n x) (vs.set n v) := by
  refine ⟨by simp [h.1], fun j c u h1 h2 => ?_⟩
  rw [List.getElem?_set] at h1 h2
  rw [h.1] at h2
  split at h1
  · rename_i hj
    rw [if_pos hj] at h2
    split at h1
    · rename_i hl; rw [if_pos hl] at h2; cases h1; cases h2; exact hx
    · cases h1
  · rename_i hj
    rw [if_neg hj] at h2
    exact h.2 j c u h1 h2

/-- The value's side of 'spliceL'. -/
def spliceV : List Value → Nat → List Value → List Value
  | cs, _, [] => cs
  | cs, o, x :: r => spliceV (cs.set o x) (o + 1) r

theorem spliceV_length : (r cs : List Value) → (o : Nat) → (spliceV cs o r).length = cs.length
  | [], _, _ => rfl
  | x :: r, cs, o => by rw [spliceV, spliceV_length r]; simp

theorem Reps.splice : {m : List SC} → {us : List Value} → {l : List SC} → {vs : List Value} → (o : Nat) → Reps w H g l vs → Reps w H g m us → Reps w H g (spliceL l o m) (spliceV vs o us)
  | [], [], _, _, _, h, _ => h
  | x :: m, u :: us, l, vs, o, h, k =>
    Reps.splice (o + 1) (h.set o (k.2 0 x u rfl rfl)) ⟨by simpa using k.1, fun j c v h1 h2 => k.2 (j + 1) c v (by simpa using h1) (by simpa using h2)⟩
  | [], _ :: _, _, _, _, _, k => by have := k.1; simp at this
  | _ :: _, [], _, _, _, _, k => by have := k.1; simp at this

theorem spliceV_eq : (us cs : List Value) → (o : Nat) → o + us.length ≤ cs.length → spliceV cs o us = cs.take o ++ us ++ cs.drop (o + us.length)
  | [], cs, o, _ => by simp [spliceV]
  | x :: r, cs, o, h => by
    simp only [List.length_cons] at h
    rw [spliceV, spliceV_eq r _ _ (by simp; omega)]
    have h1 : (cs.set o x).take (o + 1) = cs.take o ++ [x] := by
      rw [List.take_succ_eq_append_getElem (by simp; omega)]
      simp [List.take_set_of_le]
    have h2 : (cs.set o x).drop (o + 1 + r.length) = cs.drop (o + 1 + r.length) := by rw [List.drop_set_of_lt (by omega)]
    rw [h1, h2]
    simp [Nat.add_assoc, Nat.add_comm 1 r.length]

theorem spliceV_one : (us cs : List Value) → (o : Nat) → (∀ u ∈ us, u.oneCell' = true) → (∀ u ∈ cs, u.oneCell' = true) → ∀ u ∈ spliceV cs o us, u.oneCell' = true
  | [], _, _, _, h => h
  | x :: r, cs, o, h1, h2 => spliceV_one r _ _ (fun u hu => h1 u (by simp [hu])) fun u hu => by
    rcases List.mem_or_eq_of_mem_set hu with h | h
    · exact h2 u h
    · subst h; exact h1 _ (by simp)

theorem Ty.scs_rep : (t : Ty) → {x : t.den} → {cs : List Value} → t.Rep w (Stable H g) x cs → Reps w H g (t.scs x) cs
  | .int k, _, _, h | .bool, _, _, h | .str, _, _, h => by
    cases h
    refine ⟨rfl, fun j c v h1 h2 => ?_⟩
    cases j with
    | zero => simp [Ty.scs] at h1 h2; subst h1; subst h2; rfl
    | succ j => simp [Ty.scs] at h1
  | .pair a b, _, _, ⟨c1, c2, e, h1, h2⟩ => by subst e; exact (Ty.scs_rep a h1).append (Ty.scs_rep b h2)
  | .slice t, xs, cs, h => by
    obtain ⟨A, cap, e, hr⟩ := h
    subst e
    refine ⟨rfl, fun j c v h1 h2 => ?_⟩
    cases j with
    | zero => simp [Ty.scs] at h1 h2; subst h1; subst h2; exact ⟨A, cap, rfl, hr⟩
    | succ j => simp [Ty.scs] at h1

theorem Ty.scs_length : (t : Ty) → (x : t.den) → (t.scs x).length = t.size
  | .int _, _ | .bool, _ | .str, _ | .slice _, _ => rfl
  | .pair a b, p => by simp [Ty.scs, Ty.size, Ty.scs_length a, Ty.scs_length b]

end

end Go.SX
