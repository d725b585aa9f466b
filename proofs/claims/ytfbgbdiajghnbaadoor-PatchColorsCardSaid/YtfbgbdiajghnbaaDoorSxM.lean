/- SX, part M: functions: their bodies, and contracts over plain data. -/
import Derived.Test.YtfbgbdiajghnbaaDoorSxL
namespace Go.SX
open Go Go.RowKit

/-! ### Results -/

def resS (C : Ctx) (st : St) : List ResultVar → (List SV → Prop) → Prop
  | [], K => K []
  | .tmp t :: r, K => resS C st r fun l => K (findT t st.t :: l)
  | .cell p ty :: r, K => match tyFind ty C.tys with
    | some ti => loadS ti.size ti.desc.isAgg (findT p st.t) st.h fun v => resS C st r fun l => K (v :: l)
    | none => False

def compOf : SV → Option (Bool × List SC)
  | .c x => bif x.one then some (false, [x]) else none
  | .agg l => some (true, l)
  | .tup _ => none

def compsOf : List SV → Option (List (Bool × List SC))
  | [] => some []
  | v :: r => match compOf v, compsOf r with
    | some c, some l => some (c :: l)
    | _, _ => none

def retS (C : Ctx) (rs : List ResultVar) (st : St) (K : SV → List Ent → Prop) : Prop :=
  resS C st rs fun l => match l with
    | [v] => K v st.h
    | l => match compsOf l with
      | some cs => K (.tup cs) st.h
      | none => False

def initT : Nat → List SV → List (Nat × SV)
  | _, [] => []
  | i, v :: r => (i, v) :: initT (i + 1) r

def runBody (C : Ctx) (fn : Func) (args : List SV) (H : List Ent) (K : SV → List Ent → Prop) : Prop :=
  match fn.body with
  | some c => bif Nat.ble args.length fn.ntmps then exec C c 0 ⟨fn.ntmps, initT 0 args, H⟩ fun
      | .exit _, _ => False
      | _, st => retS C fn.results.toList st K
    else False
  | none => False

section
variable {P : Program} {I : Ini} {C : Ctx}

theorem findT_init : (args : List SV) → (k d : Nat) → findT d (initT k args) = if k ≤ d then (args[d - k]?).getD (.c .any) else .c .any
  | [], k, d => by simp [initT, findT]
  | v :: r, k, d => by
    unfold initT findT
    cases h : Nat.beq k d with
    | true =>
      have := Nat.eq_of_beq_eq_true h
      subst this
      simp
    | false =>
      have hne := Nat.ne_of_beq_eq_false h
      simp only [cond_false]
      rw [findT_init r (k + 1) d]
      by_cases hk : k ≤ d
      · rw [if_pos (by omega), if_pos hk, show d - k = (d - (k + 1)) + 1 by omega]
        simp
      · rw [if_neg (by omega), if_neg hk]

theorem res_sound (hC : CtxOK P C) {B : Nat} {X : Nat → Prop} {w0 w : World} {g : Gh} {st : St} {tmps : Array Value} (hs : Sat B X w0 st.h g w) (ht : ∀ d, (findT d st.t).Rep w st.h g (tmps.getD d undef)) :
    (rs : List ResultVar) → {K : List SV → Prop} → resS C st rs K → ∃ (vs : List Value) (l : List SV), (rs.mapM (m := Sem) fun
      | .tmp t => pure (tmps.getD t undef)
      | .cell a t => do loadVar t (← asAddr (tmps.getD a undef))).run P w = .ok vs w ∧ ArgsRep w st.h g l vs ∧ K l
  | [], K, h => ⟨[], [], rfl, ⟨rfl, fun j x v h1 _ => by simp at h1⟩, h⟩
  | .tmp t :: r, K, h => by
    obtain ⟨vs, l, h1, h2, h3⟩ := res_sound hC hs ht r h
    refine ⟨tmps.getD t undef :: vs, findT t st.t :: l, ?_, ⟨by simp [h2.1], fun j x v q1 q2 => ?_⟩, h3⟩
    · simp only [List.mapM_cons, Sem.run_bind, Sem.run_pure, Result.andThen_ok, h1]
    · cases j with
      | zero => simp only [List.getElem?_cons_zero, Option.some.injEq] at q1 q2; subst q1; subst q2; exact ht t
      | succ j => exact h2.2 j x v (by simpa using q1) (by simpa using q2)
  | .cell p ty :: r, K, h => by
    unfold resS at h
    cases hty : tyFind ty C.tys with
    | none => rw [hty] at h; exact h.elim
    | some ti =>
      rw [hty] at h
      obtain ⟨v, sv, r1, r2, h⟩ := load_sound (P := P) hs (hC.tys _ _ hty) (ht p) h
      replace r1 := r1 w (Later.refl w)
      obtain ⟨vs, l, h1, h2, h3⟩ := res_sound hC hs ht r h
      have hload : ((do loadVar ty (← asAddr (tmps.getD p undef)) : Sem Value)).run P w = .ok v w := by
        unfold Instr.loadAt at r1
        cases hv : tmps.getD p undef <;> rw [hv] at r1 <;> try (simp [Instr.sureAddr, stuck, Sem.run] at r1; done)
        rename_i a
        cases a with
        | none => simp [Instr.sureAddr, stuck, Sem.run] at r1
        | some a => simpa [Instr.sureAddr, asAddr] using r1
      refine ⟨v :: vs, sv :: l, ?_, ⟨by simp [h2.1], fun j x u q1 q2 => ?_⟩, h3⟩
      · simp only [List.mapM_cons, Sem.run_bind, Sem.run_pure]
        have hl2 := hload
        simp only [Sem.run_bind] at hl2
        rw [hl2]
        simp only [Result.andThen_ok]
        rw [h1]
        rfl
      · cases j with
        | zero => simp only [List.getElem?_cons_zero, Option.some.injEq] at q1 q2; subst q1; subst q2; exact r2
        | succ j => exact h2.2 j x u (by simpa using q1) (by simpa using q2)

theorem comps_sound {w : World} {H : List Ent} {g : Gh} : (l : List SV) → {vs : List Value} → {cs : List (Bool × List SC)} → compsOf l = some cs → ArgsRep w H g l vs →
    vs.length = cs.length ∧ ∀ (j : Nat) (p : Bool × List SC) (u : Value), cs[j]? = some p → vs[j]? = some u → CompRep w H g p u
  | [], vs, cs, h, hr => by
    simp [compsOf] at h; subst h
    exact ⟨hr.1, fun j p u h _ => by simp at h⟩
  | x :: r, vs, cs, h, hr => by
    match vs, hr with
    | [], hr => exact absurd hr.1 (by simp)
    | v :: vs, hr =>
      unfold compsOf at h
      cases hc : compOf x with
      | none => rw [hc] at h; simp at h
      | some c =>
        cases hq : compsOf r with
        | none => rw [hc, hq] at h; simp at h
        | some l =>
          rw [hc, hq] at h
          simp at h
          subst h
          have hrest : ArgsRep w H g r vs := ⟨by simpa using hr.1, fun j y u h1 h2 => hr.2 (j + 1) y u (by simpa using h1) (by simpa using h2)⟩
          obtain ⟨k1, k2⟩ := comps_sound r hq hrest
          have hx := hr.2 0 x v rfl rfl
          refine ⟨by simp [k1], fun j p u h1 h2 => ?_⟩
          cases j with
          | zero =>
            simp only [List.getElem?_cons_zero, Option.some.injEq] at h1 h2
            subst h1; subst h2
            match x, hc, hx with
            | .c y, hc, hx =>
              simp only [compOf] at hc
              cases ho : y.one with
              | false => rw [ho] at hc; simp at hc
              | true =>
                rw [ho] at hc
                simp at hc
                subst hc
                obtain ⟨q1, q2⟩ := SV.cells_rep (x := .c y) (l := [y]) (by simp [SV.cells, ho]) hx
                rw [cells_one (SC.rep_one ho hx)] at q1 q2
                exact ⟨[v], q1, q2, by simp⟩
            | .agg m, hc, hx =>
              simp only [compOf, Option.some.injEq] at hc
              subst hc
              obtain ⟨us, e, q1, q2⟩ := hx
              exact ⟨us, q1, q2, by simpa using e⟩
          | succ j => exact k2 j p u (by simpa using h1) (by simpa using h2)

/-- A function's body, by the executor. -/
theorem body_calls (hC : CtxOK P C) {f : FuncId} {fn : Func} (hf : P.funcs[f]? = some fn) {B : Nat} {X : Nat → Prop} {w0 w : World} {H : List Ent} {g : Gh} {args : List SV} {vals : List Value} {K : SV → List Ent → Prop}
    (h : runBody C fn args H K) (hs : Sat B X w0 H g w) (ha : ArgsRep w H g args vals) : Calls P f vals.toArray w fun e w' => ∃ v, e = .returned v ∧ Post B X w0 K w H g v w' := by
  unfold runBody at h
  cases hb : fn.body with
  | none => rw [hb] at h; exact h.elim
  | some c =>
    rw [hb] at h
    simp only at h
    cases hn : Nat.ble args.length fn.ntmps with
    | false => rw [hn] at h; exact h.elim
    | true =>
      rw [hn] at h
      have hle := Nat.le_of_ble_eq_true hn
      simp only [cond_true] at h
      have hvl : vals.length ≤ fn.ntmps := by rw [ha.1]; exact hle
      refine calls_of_wp hf hb (wp_mono (exec_sound (I := ⟨fn.ntmps, B, X, w0, w, H, g⟩) hC c h ?_) ?_)
      · refine ⟨rfl, ?_, rfl, g, hs, Evo.refl _ _ _, fun d => ?_⟩
        · simp; omega
        · rw [findT_init args 0 d, if_pos (Nat.zero_le _), Nat.sub_zero]
          rcases Nat.lt_or_ge d args.length with hd | hd
          · rw [List.getElem?_eq_getElem hd]
            have hd' : d < vals.length := by rw [ha.1]; exact hd
            have : (vals.toArray ++ Array.replicate (fn.ntmps - vals.toArray.size) undef).getD d undef = vals[d] := by
              rw [Array.getD_eq_getD_getElem?, Array.getElem?_append_left (by simpa using hd')]
              simp [hd']
            rw [this]
            exact ha.2 d _ _ (List.getElem?_eq_getElem hd) (List.getElem?_eq_getElem hd')
          · rw [List.getElem?_eq_none hd]
            trivial
      · rintro e a w' ⟨ex, st, rfl, hq, hh⟩
        obtain ⟨h1, h2, _, g', hs', hev', ht'⟩ := hh
        have key : retS C fn.results.toList st K → ∃ v, (results fn a.tmps).run P w' = .ok v w' ∧ Post B X w0 K w H g v w' := by
          intro hr
          obtain ⟨vs, l, r1, r2, r3⟩ := res_sound (P := P) hC hs' ht' fn.results.toList hr
          have hres : (results fn a.tmps).run P w' = .ok (if h : vs.length = 1 then vs[0] else .tuple vs.toArray) w' := by
            simp only [Array.getD_eq_getD_getElem?] at r1
            simp [results, Array.mapM_eq_mapM_toList]
            exact congrArg (fun r => Result.andThen r fun (a : List Value) w' => Result.ok (if h : a.length = 1 then a[0] else Value.tuple a.toArray) w') r1
          unfold retS at hr
          refine ⟨_, hres, ?_⟩
          match l, vs, r2, r3 with
          | [sv], [v], r2, r3 => exact ⟨sv, st.h, g', r3, hs', hev', r2.2 0 sv v rfl rfl⟩
          | [], [], r2, r3 => exact ⟨.tup [], st.h, g', r3, hs', hev', [], rfl, rfl, fun j p u h _ => by simp at h⟩
          | x :: y :: r, v :: u :: us, r2, r3 =>
            simp only at r3
            cases hc : compsOf (x :: y :: r) with
            | none => rw [hc] at r3; exact r3.elim
            | some cs =>
              rw [hc] at r3
              obtain ⟨k1, k2⟩ := comps_sound _ hc r2
              exact ⟨.tup cs, st.h, g', r3, hs', hev', v :: u :: us, by simp, k1, k2⟩
          | [_], [], r2, _ => exact absurd r2.1 (by simp)
          | [_], _ :: _ :: _, r2, _ => exact absurd r2.1 (by simp)
          | [], _ :: _, r2, _ => exact absurd r2.1 (by simp)
          | _ :: _ :: _, [], r2, _ => exact absurd r2.1 (by simp)
          | _ :: _ :: _, [_], r2, _ => exact absurd r2.1 (by simp)
        cases ex with
        | normal => obtain ⟨v, q1, q2⟩ := key hq; exact ⟨h1, v, q1, v, rfl, q2⟩
        | exit id => exact hq.elim
        | ret => obtain ⟨v, q1, q2⟩ := key hq; exact ⟨h1, v, q1, v, rfl, q2⟩

end
end Go.SX
