/- SX, part KA: regions whose order is drawn. -/
import Derived.Test.YtfbgbdiajghnbaaDoorSxK
namespace Go.SX
open Go Go.RowKit

section
variable {P : Program} {ops : Array Oper} {Q : Exit → Act → World → Prop} {D : Nat → Prop}

/-- Whatever order is picked; behind each operation that is not of D all that was there is as it was. -/
def wpR (P : Program) (ops : Array Oper) (Q : Exit → Act → World → Prop) (D : Nat → Prop) : Nat → Array Bool → Act → World → Prop
  | 0, listed, a, w => Region.ready .any ops listed = [] ∧ Q .normal a w
  | fuel + 1, listed, a, w =>
    (Region.ready .any ops listed = [] → Q .normal a w) ∧
    ∀ i ∈ Region.ready .any ops listed, wpOp P ops Q i (fun a' w' => (¬ D i → Later w w') ∧ wpR P ops Q D fuel (listed.setIfInBounds i true) a' w') a w

theorem wpAny_of_R : ∀ (fuel : Nat) (listed : Array Bool) (a : Act) (w : World), wpR P ops Q D fuel listed a w → wpAny P .any ops Q fuel listed a w
  | 0, _, _, _, h => h
  | fuel + 1, _, _, _, h => ⟨h.1, fun i hi => wpOp_mono (fun a' w' h' => wpAny_of_R fuel _ a' w' h'.2) (h.2 i hi)⟩

def Closed (ops : Array Oper) (listed : Array Bool) : Prop :=
  ∀ j oj, ops[j]? = some oj → listed.getD j false = true → ∀ e ∈ oj.after, Region.binds .any e = true → listed.getD e.on false = true

theorem Closed.set {listed : Array Bool} {i : Nat} (h : Closed ops listed) (hi : i ∈ Region.ready .any ops listed) : Closed ops (listed.setIfInBounds i true) := by
  obtain ⟨_, oi, hoi, hall⟩ := mem_ready.1 hi
  intro j oj hj hl e he hb
  by_cases hij : i = j
  · subst hij
    have : oj = oi := Option.some.inj (hj.symm.trans hoi)
    subst this
    exact getD_set_true (hall e he hb)
  · rw [getD_set_ne false hij] at hl
    exact getD_set_true (h j oj hj hl e he hb)

/-- d does not come up before i. -/
def Waits (ops : Array Oper) (i d : Nat) : Prop := ∀ listed : Array Bool, Closed ops listed → listed.size = ops.size → listed.getD i true = false → d ∉ Region.ready .any ops listed

theorem wpR_first {pu : Bool} {i : Nat} {oi : Oper} {v : Value} (hi : ops[i]? = some oi) (hsel : ∀ (j : Nat) (o : Oper) cs b, ops[j]? = some o → o.op ≠ .select cs b)
    (hQ : ∀ c a w, Q (.panic c) (a.put oi.dst v) w → Q (.panic c) a w) :
    ∀ (fuel : Nat) (listed : Array Bool) (a : Act) (w : World), listed.size = ops.size →
      (∀ j oj, ops[j]? = some oj → j ≠ i → listed.getD j true = false → (∀ e ∈ oj.after, Region.binds .any e = true → e.on ≠ i) → oi.apart ops oj = true) →
      Closed ops listed → (pu = false → ∀ d, D d → listed.getD d true = false → Waits ops i d) →
      i ∈ Region.ready .any ops listed → YieldsIf P ops (fun w' => pu = true ∨ Later w w') oi v a →
      wpR P ops Q D fuel (listed.setIfInBounds i true) (a.put oi.dst v) w → wpR P ops Q D (fuel + 1) listed a w := by
  intro fuel
  induction fuel with
  | zero =>
    intro listed a w _ _ _ _ hr hy H
    refine ⟨fun h => (by rw [h] at hr; cases hr), fun j hj => ?_⟩
    by_cases hji : j = i
    · subst hji; exact hy.wpOp hi (.inr (Later.refl w)) ⟨fun _ => Later.refl w, H⟩
    · have := ready_mono hj hji
      rw [H.1] at this
      cases this
  | succ fuel ih =>
    intro listed a w hsz hfree hc hd hr hy H
    refine ⟨fun h => (by rw [h] at hr; cases hr), fun j hj => ?_⟩
    by_cases hji : j = i
    · subst hji; exact hy.wpOp hi (.inr (Later.refl w)) ⟨fun _ => Later.refl w, H⟩
    · have h1 := H.2 j (ready_mono hj hji)
      obtain ⟨hjun, oj, hoj, hall⟩ := mem_ready.1 hj
      have hiun := (mem_ready.1 hr).1
      have hnot : ∀ e ∈ oj.after, Region.binds .any e = true → e.on ≠ i := fun e he hb heq => by
        have h1 := hall e he hb
        rw [heq] at h1
        rcases Nat.lt_or_ge i listed.size with h' | h'
        · simp [h'] at hiun h1; rw [hiun] at h1; cases h1
        · simp [Array.getElem?_eq_none h'] at h1
      have hjd : pu = false → ¬ D j := fun hp hm => hd hp j hm hjun listed hc hsz hiun hj
      have h2 := wpOp_putIf hoj (hfree j oj hoj hji hjun hnot) (fun cs b => hsel i oi cs b hi) (fun cs b => hsel j oj cs b hoj) hQ hy h1
      have hfree' : ∀ k ok, ops[k]? = some ok → k ≠ i → (listed.setIfInBounds j true).getD k true = false →
          (∀ e ∈ ok.after, Region.binds .any e = true → e.on ≠ i) → oi.apart ops ok = true := fun k ok hk hki hun hno => by
        refine hfree k ok hk hki ?_ hno
        by_cases hjk : j = k
        · subst hjk; exact hjun
        · rw [getD_set_ne true hjk] at hun; exact hun
      have hd' : pu = false → ∀ d, D d → (listed.setIfInBounds j true).getD d true = false → Waits ops i d := fun hp d hm hun => by
        refine hd hp d hm ?_
        by_cases hjk : j = d
        · subst hjk; exact hjun
        · rw [getD_set_ne true hjk] at hun; exact hun
      refine wpOp_mono (fun a' w' h3 => ⟨h3.2.1, ih (listed.setIfInBounds j true) a' w' (by simpa using hsz) hfree' (hc.set hj) hd' (ready_mono hr (Ne.symm hji))
        (h3.1.imp (fun ⟨q1, q2⟩ => ⟨q1, fun w'' hw'' => q2 w'' (by
          rcases hw'' with hp | hl
          · exact .inl hp
          · cases hpu : pu with
            | true => exact .inl rfl
            | false => exact .inr ((h3.2.1 (hjd hpu)).trans hl))⟩) id) ?_⟩) h2
      rw [Array.setIfInBounds_comm _ _ hji]
      exact h3.2.2

theorem wpR_all {fuel : Nat} {listed : Array Bool} {a : Act} {w : World} (hne : Region.ready .any ops listed ≠ [])
    (h : ∀ i ∈ Region.ready .any ops listed, wpOp P ops Q i (fun a' w' => (¬ D i → Later w w') ∧ wpR P ops Q D fuel (listed.setIfInBounds i true) a' w') a w) : wpR P ops Q D (fuel + 1) listed a w :=
  ⟨fun h0 => absurd h0 hne, h⟩

theorem wpR_done {listed : Array Bool} {a : Act} {w : World} (hr : Region.ready .any ops listed = []) (h : Q .normal a w) : ∀ fuel, wpR P ops Q D fuel listed a w
  | 0 => ⟨hr, h⟩
  | _ + 1 => ⟨fun _ => h, by rw [hr]; simp⟩

/-! ### Masks -/

theorem tb_eq (m i : Nat) : tb m i = m.testBit i := by
  unfold tb
  rw [Nat.testBit_eq_decide_div_mod_eq]
  show Nat.beq (1 &&& (m >>> i)) 1 = _
  rw [Nat.and_comm, Nat.and_one_is_mod, Nat.shiftRight_eq_div_pow]
  by_cases h : m / 2 ^ i % 2 = 1
  · rw [h]; simp
  · have : m / 2 ^ i % 2 = 0 := by omega
    rw [this]; rfl

theorem subM_iff {d m : Nat} : subM d m = true ↔ ∀ j, d.testBit j = true → m.testBit j = true := by
  unfold subM
  constructor
  · intro h j hj
    have e : d &&& m = d := Nat.eq_of_beq_eq_true h
    have := congrArg (fun x => x.testBit j) e
    simp only [Nat.testBit_and, hj, Bool.true_and] at this
    exact this
  · intro h
    have : d &&& m = d := by
      apply Nat.eq_of_testBit_eq
      intro j
      rw [Nat.testBit_and]
      cases hj : d.testBit j with
      | false => simp
      | true => rw [h j hj]; simp
    show Nat.beq (d &&& m) d = true
    rw [this]; simp

theorem bit_or (m i j : Nat) : (Nat.lor m (Nat.shiftLeft 1 i)).testBit j = (m.testBit j || decide (i = j)) := by
  show (m ||| (1 <<< i)).testBit j = _
  rw [Nat.testBit_or, Nat.one_shiftLeft, Nat.testBit_two_pow]

theorem depE_bit : (l : List Edge) → (j : Nat) → ((depE l).testBit j = true ↔ ∃ e ∈ l, Region.binds .any e = true ∧ e.on = j)
  | [], j => by simp [depE]
  | e :: r, j => by
    have ih := depE_bit r j
    unfold depE
    cases hb : Region.binds .any e with
    | false =>
      simp only [cond_false, ih, List.mem_cons]
      constructor
      · rintro ⟨x, h1, h2⟩; exact ⟨x, .inr h1, h2⟩
      · rintro ⟨x, h1 | h1, h2, h3⟩
        · subst h1; rw [hb] at h2; cases h2
        · exact ⟨x, h1, h2, h3⟩
    | true =>
      simp only [cond_true]
      rw [show Nat.lor (Nat.shiftLeft 1 e.on) (depE r) = Nat.lor (depE r) (Nat.shiftLeft 1 e.on) from Nat.or_comm _ _, bit_or, Bool.or_eq_true, ih]
      constructor
      · rintro (⟨x, h1, h2⟩ | h)
        · exact ⟨x, List.mem_cons_of_mem _ h1, h2⟩
        · exact ⟨e, List.mem_cons_self, hb, of_decide_eq_true h⟩
      · rintro ⟨x, h1, h2, h3⟩
        rcases List.mem_cons.1 h1 with h | h
        · subst h; right; exact decide_eq_true h3
        · left; exact ⟨x, h, h2, h3⟩

theorem depsOf_get : (l : List Oper) → (j : Nat) → (depsOf l)[j]? = (l[j]?).map fun o => depE o.after.toList
  | [], j => by simp [depsOf]
  | o :: r, 0 => by simp [depsOf]
  | o :: r, j + 1 => by simpa [depsOf] using depsOf_get r j

/-- The array that a mask stands for. -/
structure MaskOf (ops : Array Oper) (m : Nat) (l : Array Bool) : Prop where
  size : l.size = ops.size
  bit : ∀ i, i < ops.size → l[i]? = some (m.testBit i)
  out : ∀ i, ops.size ≤ i → m.testBit i = false

theorem MaskOf.zero (ops : Array Oper) : MaskOf ops 0 (Array.replicate ops.size false) :=
  ⟨by simp, fun i hi => by simp [hi], fun i _ => by simp⟩

theorem MaskOf.set {m : Nat} {l : Array Bool} (h : MaskOf ops m l) {i : Nat} (hi : i < ops.size) : MaskOf ops (Nat.lor m (Nat.shiftLeft 1 i)) (l.setIfInBounds i true) := by
  refine ⟨by simpa using h.size, fun j hj => ?_, fun j hj => ?_⟩
  · rw [bit_or, Array.getElem?_setIfInBounds]
    by_cases hij : i = j
    · subst hij; simp [h.size, hi]
    · simp [hij, h.bit j hj]
  · rw [bit_or, h.out j hj]
    have : ¬ i = j := by omega
    simp [this]

theorem MaskOf.getF {m : Nat} {l : Array Bool} (h : MaskOf ops m l) (i : Nat) : l.getD i false = m.testBit i := by
  rcases Nat.lt_or_ge i ops.size with hi | hi
  · rw [Array.getD_eq_getD_getElem?, h.bit i hi]; rfl
  · rw [Array.getD_eq_getD_getElem?, Array.getElem?_eq_none (by rw [h.size]; exact hi), h.out i hi]; rfl

theorem MaskOf.getT {m : Nat} {l : Array Bool} (h : MaskOf ops m l) {i : Nat} (hi : i < ops.size) : l.getD i true = m.testBit i := by
  rw [Array.getD_eq_getD_getElem?, h.bit i hi]; rfl

theorem readyL_mem {m : Nat} : (l : List Nat) → (k i : Nat) → (i ∈ readyL m l k ↔ ∃ d, k ≤ i ∧ l[i - k]? = some d ∧ m.testBit i = false ∧ subM d m = true)
  | [], k, i => by simp [readyL]
  | d :: r, k, i => by
    have ih := readyL_mem (m := m) r (k + 1) i
    have tail : (i ∈ readyL m r (k + 1)) ↔ ∃ x, k + 1 ≤ i ∧ (d :: r)[i - k]? = some x ∧ m.testBit i = false ∧ subM x m = true := by
      rw [ih]
      constructor
      · rintro ⟨x, h1, h2, h3⟩
        refine ⟨x, h1, ?_, h3⟩
        rw [show i - k = (i - (k + 1)) + 1 by omega]
        simpa using h2
      · rintro ⟨x, h1, h2, h3⟩
        refine ⟨x, h1, ?_, h3⟩
        rw [show i - k = (i - (k + 1)) + 1 by omega] at h2
        simpa using h2
    unfold readyL
    cases hb : (!(tb m k) && subM d m) with
    | true =>
      simp only [cond_true, List.mem_cons, tail]
      rw [Bool.and_eq_true, Bool.not_eq_true', tb_eq] at hb
      constructor
      · rintro (h | ⟨x, h1, h2⟩)
        · subst h; exact ⟨d, Nat.le_refl _, by simp, hb.1, hb.2⟩
        · exact ⟨x, by omega, h2⟩
      · rintro ⟨x, h1, h2⟩
        rcases Nat.lt_or_ge k i with h | h
        · right; exact ⟨x, h, h2⟩
        · left; omega
    | false =>
      simp only [cond_false, tail]
      constructor
      · rintro ⟨x, h1, h2⟩; exact ⟨x, by omega, h2⟩
      · rintro ⟨x, h1, h2, h3, h4⟩
        refine ⟨x, ?_, h2, h3, h4⟩
        rcases Nat.lt_or_ge k i with h | h
        · exact h
        · have e : i = k := by omega
          subst e
          simp at h2
          subst h2
          rw [tb_eq, h3, h4] at hb
          simp at hb

theorem ready_iff {m : Nat} {l : Array Bool} (h : MaskOf ops m l) (i : Nat) : i ∈ readyL m (depsOf ops.toList) 0 ↔ i ∈ Region.ready .any ops l := by
  rw [readyL_mem, mem_ready]
  simp only [Nat.zero_le, true_and, Nat.sub_zero, depsOf_get]
  constructor
  · rintro ⟨d, h1, h2, h3⟩
    cases ho : ops[i]? with
    | none => simp [ho] at h1
    | some o =>
      have hi : i < ops.size := (Array.getElem?_eq_some_iff.1 ho).1
      refine ⟨by rw [h.getT hi, h2], o, rfl, fun e he hb => ?_⟩
      simp [ho] at h1
      subst h1
      rw [h.getF]
      exact subM_iff.1 h3 _ ((depE_bit _ _).2 ⟨e, by simpa using he, hb, rfl⟩)
  · rintro ⟨h1, o, ho, h2⟩
    have hi : i < ops.size := (Array.getElem?_eq_some_iff.1 ho).1
    refine ⟨depE o.after.toList, by simp [ho], by rw [← h.getT hi, h1], subM_iff.2 fun j hj => ?_⟩
    obtain ⟨e, he, hb, rfl⟩ := (depE_bit _ _).1 hj
    rw [← h.getF]
    exact h2 e (by simpa using he) hb

theorem readyL_nil {m : Nat} {l : Array Bool} (h : MaskOf ops m l) (hr : readyL m (depsOf ops.toList) 0 = []) : Region.ready .any ops l = [] := by
  cases hq : Region.ready .any ops l with
  | nil => rfl
  | cons i r =>
    have := (ready_iff h i).2 (by rw [hq]; exact List.mem_cons_self)
    rw [hr] at this
    cases this

/-! ### What waits -/

theorem orAll_bit (dep : Nat) : (l : List Nat) → (k j : Nat) → ((orAll dep l k).testBit j = true ↔ ∃ i t, l[i]? = some t ∧ dep.testBit (k + i) = true ∧ t.testBit j = true)
  | [], k, j => by simp [orAll]
  | t :: r, k, j => by
    have ih := orAll_bit dep r (k + 1) j
    have tail : (orAll dep r (k + 1)).testBit j = true ↔ ∃ i u, (t :: r)[i + 1]? = some u ∧ dep.testBit (k + (i + 1)) = true ∧ u.testBit j = true := by
      rw [ih]
      constructor
      · rintro ⟨i, u, h1, h2, h3⟩; exact ⟨i, u, by simpa using h1, by rw [show k + (i + 1) = k + 1 + i by omega]; exact h2, h3⟩
      · rintro ⟨i, u, h1, h2, h3⟩; exact ⟨i, u, by simpa using h1, by rw [show k + 1 + i = k + (i + 1) by omega]; exact h2, h3⟩
    unfold orAll
    cases hb : tb dep k with
    | true =>
      rw [tb_eq] at hb
      simp only [cond_true]
      rw [show Nat.lor t (orAll dep r (k + 1)) = t ||| orAll dep r (k + 1) from rfl, Nat.testBit_or, Bool.or_eq_true, tail]
      constructor
      · rintro (h | ⟨i, u, h1, h2, h3⟩)
        · exact ⟨0, t, by simp, by simpa using hb, h⟩
        · exact ⟨i + 1, u, h1, h2, h3⟩
      · rintro ⟨i, u, h1, h2, h3⟩
        cases i with
        | zero => left; simp at h1; subst h1; exact h3
        | succ i => right; exact ⟨i, u, h1, h2, h3⟩
    | false =>
      rw [tb_eq] at hb
      simp only [cond_false, tail]
      constructor
      · rintro ⟨i, u, h⟩; exact ⟨i + 1, u, h⟩
      · rintro ⟨i, u, h1, h2, h3⟩
        cases i with
        | zero => simp at h2; rw [hb] at h2; cases h2
        | succ i => exact ⟨i, u, h1, h2, h3⟩

/-- A set that is closed under the direct waits (by masks). -/
def ClosedM (deps : List Nat) (S : Nat → Prop) : Prop := ∀ (j d : Nat), S j → deps[j]? = some d → ∀ k, d.testBit k = true → S k

theorem tcGo_ok {deps : List Nat} {S : Nat → Prop} (hS : ClosedM deps S) : (l acc : List Nat) → (∀ (j : Nat) (d : Nat), l[j]? = some d → deps[acc.length + j]? = some d) →
    (∀ (j t d : Nat), acc[j]? = some t → deps[j]? = some d → (∀ k, d.testBit k = true → S k) → ∀ k, t.testBit k = true → S k) →
    ∀ (j t d : Nat), (tcGo l acc)[j]? = some t → deps[j]? = some d → (∀ k, d.testBit k = true → S k) → ∀ k, t.testBit k = true → S k
  | [], acc, _, ha => ha
  | d0 :: r, acc, hl, ha => by
    unfold tcGo
    have h0 : deps[acc.length]? = some d0 := by simpa using hl 0 d0 rfl
    refine tcGo_ok hS r _ (fun j d hj => ?_) ?_
    · have := hl (j + 1) d (by simpa using hj)
      rw [List.length_append, List.length_singleton, show acc.length + 1 + j = acc.length + (j + 1) by omega]
      exact this
    · intro j t d hj hd hsub k hk
      rcases Nat.lt_or_ge j acc.length with hlt | hge
      · rw [List.getElem?_append_left hlt] at hj
        exact ha j t d hj hd hsub k hk
      · rw [List.getElem?_append_right hge] at hj
        have e : j - acc.length = 0 := by
          rcases Nat.eq_zero_or_pos (j - acc.length) with h | h
          · exact h
          · rw [List.getElem?_eq_none (by simp; omega)] at hj; cases hj
        have e' : j = acc.length := by omega
        subst e'
        rw [e] at hj
        simp at hj
        subst hj
        have hdd : d = d0 := Option.some.inj (hd.symm.trans h0)
        subst hdd
        rw [Nat.testBit_or, Bool.or_eq_true] at hk
        rcases hk with hk | hk
        · exact hsub k hk
        · obtain ⟨i, u, h1, h2, h3⟩ := (orAll_bit d acc 0 k).1 hk
          rw [Nat.zero_add] at h2
          have hi := hsub i h2
          have hil : i < acc.length := (List.getElem?_eq_some_iff.1 h1).1
          cases hdi : deps[i]? with
          | none =>
            have h5 := List.getElem?_eq_none_iff.1 hdi
            have h6 := (List.getElem?_eq_some_iff.1 h0).1
            omega
          | some di => exact ha i u di h1 hdi (fun k hk => hS i di hi hdi k hk) k h3

theorem waits_of_tc {i d t : Nat} (ht : (tcGo (depsOf ops.toList) [])[d]? = some t) (hb : t.testBit i = true) : Waits ops i d := by
  intro listed hc hsz hun hd
  obtain ⟨_, od, hod, hall⟩ := mem_ready.1 hd
  have hS : ClosedM (depsOf ops.toList) (fun j => listed.getD j false = true) := by
    intro j dj hj hdj k hk
    rw [depsOf_get] at hdj
    cases ho : ops.toList[j]? with
    | none => simp [ho] at hdj
    | some o =>
      simp [ho] at hdj
      subst hdj
      obtain ⟨e, he, hbb, rfl⟩ := (depE_bit _ _).1 hk
      exact hc j o (by simpa using ho) hj e (by simpa using he) hbb
  have := tcGo_ok hS (depsOf ops.toList) [] (fun j d h => by simpa using h) (fun j t d h => by simp at h) d t (depE od.after.toList) ht (by rw [depsOf_get]; simp [hod]) (fun k hk => by
    obtain ⟨e, he, hbb, rfl⟩ := (depE_bit _ _).1 hk
    exact hall e (by simpa using he) hbb) i hb
  rcases Nat.lt_or_ge i listed.size with h | h
  · simp [h] at this hun
    rw [this] at hun; cases hun
  · simp [Array.getElem?_eq_none h] at this

end

section
variable {P : Program} {I : Ini} {C : Ctx} {ops : Array Oper}

def LastD (C : Ctx) (ops : Array Oper) (d : Nat) : Prop := ∃ o, ops[d]? = some o ∧ lightOp o.op = false ∧ keepOp C o.op = false

theorem lastL_ok {m i : Nat} : (l : List Oper) → (ts : List Nat) → (k : Nat) → lastL C m i l ts k = true →
    ∀ (j : Nat) (o : Oper), l[j]? = some o → lightOp o.op = false → keepOp C o.op = false → m.testBit (k + j) = true ∨ ∃ t, ts[j]? = some t ∧ t.testBit i = true
  | [], _, _, _, j, o, h => by simp at h
  | x :: l, [], _, h, _, _, _ => by simp [lastL] at h
  | x :: l, t :: r, k, h, j, o, hj => by
    simp only [lastL, Bool.and_eq_true, Bool.or_eq_true, tb_eq] at h
    intro h1 h2
    cases j with
    | zero =>
      simp at hj
      subst hj
      rcases h.1 with ((h3 | h3) | h3) | h3
      · rw [h1] at h3; cases h3
      · rw [h2] at h3; cases h3
      · exact .inl h3
      · exact .inr ⟨t, rfl, h3⟩
    | succ j =>
      have := lastL_ok l r (k + 1) h.2 j o (by simpa using hj) h1 h2
      rw [show k + 1 + j = k + (j + 1) by omega] at this
      simpa using this

theorem freeL_ok {x : Oper} {m i : Nat} : (l : List Oper) → (ds : List Nat) → (k : Nat) → freeL ops x m i l ds k = true →
    ∀ (j : Nat) (y : Oper), l[j]? = some y → m.testBit (k + j) = true ∨ k + j = i ∨ (∃ d, ds[j]? = some d ∧ d.testBit i = true) ∨ x.apart ops y = true
  | [], _, _, _, j, o, h => by simp at h
  | _ :: l, [], _, h, _, _, _ => by simp [freeL] at h
  | z :: l, d :: r, k, h, j, y, hj => by
    simp only [freeL, Bool.and_eq_true, Bool.or_eq_true, tb_eq] at h
    cases j with
    | zero =>
      simp at hj
      subst hj
      rcases h.1 with ((h3 | h3) | h3) | h3
      · exact .inl h3
      · exact .inr (.inl (Nat.eq_of_beq_eq_true h3))
      · exact .inr (.inr (.inl ⟨d, rfl, h3⟩))
      · exact .inr (.inr (.inr h3))
    | succ j =>
      have := freeL_ok l r (k + 1) h.2 j y (by simpa using hj)
      rw [show k + 1 + j = k + (j + 1) by omega] at this
      simpa using this

theorem allL_mem {p : Nat → Prop} : (l : List Nat) → allL l p → ∀ i ∈ l, p i
  | [], _, i, h => by cases h
  | [x], h, i, hi => by simp at hi; subst hi; exact h
  | x :: y :: r, h, i, hi => by
    rcases List.mem_cons.1 hi with h' | h'
    · subst h'; exact h.1
    · exact allL_mem (y :: r) h.2 i h'

theorem pickL_spec {deps tcs : List Nat} {m : Nat} : (l : List Nat) → {i : Nat} → pickL C ops deps tcs m l = some i → i ∈ l ∧ pickOK C ops deps tcs m i = true
  | [], i, h => by cases h
  | x :: r, i, h => by
    unfold pickL at h
    cases hb : pickOK C ops deps tcs m x with
    | true => rw [hb] at h; simp at h; subst h; exact ⟨List.mem_cons_self, hb⟩
    | false =>
      rw [hb] at h
      obtain ⟨h1, h2⟩ := pickL_spec r h
      exact ⟨List.mem_cons_of_mem _ h1, h2⟩

/-- The guard's two ways. -/
theorem guard_sound (hC : CtxOK P C) {o : Oper} {st : St} {R : St → Prop} {a : Act} {w : World} (h : execOps C ops [o] st R) (hh : Holds I st a w) :
    (∃ st', Holds I st' a w ∧ Region.wanted o (yielded ops a.tmps) = true ∧ opStep C o.op st'.ev st'.h fun v H => R (st'.put o.dst v H)) ∨
    (∃ st', Holds I st' (a.put o.dst undef) w ∧ Region.wanted o (yielded ops a.tmps) = false ∧ R st') := by
  have hskip : ∀ {st : St}, Holds I st a w → Holds I (st.put o.dst (.c (.raw undef)) st.h) (a.put o.dst undef) w := by
    rintro st ⟨h1, h2, hn, g, hs, hev, ht⟩
    exact Holds.put h1 h2 hn hev ht hs (Evo.refl _ _ _) (sv := .c (.raw undef)) rfl o.dst
  have hrun : ∀ {st : St}, Holds I st a w → Region.wanted o (yielded ops a.tmps) = true → (runOp C o st fun st => execOps C ops [] st R) → ∃ st', Holds I st' a w ∧ Region.wanted o (yielded ops a.tmps) = true ∧ opStep C o.op st'.ev st'.h fun v H => R (st'.put o.dst v H) :=
    fun h0 hw h => ⟨_, frzOp_sound C o.op h0, hw, h⟩
  unfold execOps at h
  cases hg : o.guard with
  | none =>
    rw [hg] at h
    exact .inl (hrun hh (by simp [Region.wanted, hg]) h)
  | some p =>
    obtain ⟨j, want⟩ := p
    rw [hg] at h
    simp only at h
    cases hd : (ops[j]?).bind (·.dst) with
    | none => rw [hd] at h; exact h.elim
    | some d =>
      rw [hd] at h
      simp only at h
      cases hb : Nat.blt d st.n with
      | false => rw [hb] at h; exact h.elim
      | true =>
        rw [hb] at h
        simp only [cond_true] at h
        have hlt : d < a.tmps.size := by rw [hh.size]; simpa [Nat.blt_eq] using hb
        have hw : ∀ b, a.tmps.getD d undef = .bool b → Region.wanted o (yielded ops a.tmps) = (b == want) := by
          intro b hv
          have hq : a.tmps[d]? = some (.bool b) := by
            rw [Array.getD_eq_getD_getElem?, Array.getElem?_eq_getElem hlt] at hv
            rw [Array.getElem?_eq_getElem hlt]
            simpa using hv
          simp [Region.wanted, hg, yielded, hd, hq]
        cases hsk : (findT d st.t).skipped with
        | true =>
          rw [hsk] at h
          have hw0 : Region.wanted o (yielded ops a.tmps) = false := by
            obtain ⟨_, _, _, g, _, _, ht⟩ := hh
            exact skipped_wanted hg hd hsk (ht d)
          exact .inr ⟨_, hskip hh, hw0, h⟩
        | false =>
        rw [hsk] at h
        simp only [cond_false] at h
        cases want with
        | true =>
          simp only [cond_true] at h
          obtain ⟨b, hv, hA, hB⟩ := condS_sound hh (fun g _ ht => ht d) h
          cases b with
          | true => obtain ⟨st', k1, k2, _⟩ := hA rfl; exact .inl (hrun k2 (by rw [hw _ hv]; rfl) k1)
          | false => obtain ⟨st', k1, k2, _⟩ := hB rfl; exact .inr ⟨_, hskip k2, by rw [hw _ hv]; rfl, k1⟩
        | false =>
          simp only [cond_false] at h
          obtain ⟨b, hv, hA, hB⟩ := condS_sound hh (fun g _ ht => ht d) h
          cases b with
          | true => obtain ⟨st', k1, k2, _⟩ := hA rfl; exact .inr ⟨_, hskip k2, by rw [hw _ hv]; rfl, k1⟩
          | false => obtain ⟨st', k1, k2, _⟩ := hB rfl; exact .inl (hrun k2 (by rw [hw _ hv]; rfl) k1)

theorem light_step (hC : CtxOK P C) {o : Oper} {st : St} {R : St → Prop} {a : Act} {w : World} (hl : lightOp o.op = true) (h : execOps C ops [o] st R) (hh : Holds I st a w) :
    ∃ v st', YieldsIf P ops (fun w' => pureOp o.op = true ∨ Later w w') o v a ∧ Holds I st' (a.put o.dst v) w ∧ R st' := by
  rcases guard_sound hC h hh with ⟨st', k1, k2, k3⟩ | ⟨st', k1, k2, k3⟩
  · obtain ⟨h1, h2, hn, g, hs, hev, ht⟩ := k1
    obtain ⟨v, sv, r1, r2, r3⟩ := opStep_light hC hs (ev_rep ht) hl k3
    exact ⟨v, _, .inl ⟨k2, r1⟩, Holds.put h1 h2 hn hev ht hs (Evo.refl _ _ _) r2 o.dst, r3⟩
  · exact ⟨undef, st', .inr ⟨k2, rfl⟩, k1, k3⟩

theorem op_step (hC : CtxOK P C) {Q : Exit → Act → World → Prop} {i : Nat} {o : Oper} {st : St} {R : St → Prop} {a : Act} {w : World} (ho : ops[i]? = some o) (h : execOps C ops [o] st R) (hh : Holds I st a w)
    {K : Act → World → Prop} (hK : ∀ st' a' w', R st' → Holds I st' a' w' → (¬ LastD C ops i → Later w w') → K a' w') : wpOp P ops Q i K a w := by
  unfold wpOp
  simp only [ho]
  rcases guard_sound hC h hh with ⟨st', k1, k2, k3⟩ | ⟨st', k1, k2, k3⟩
  · rw [if_pos k2]
    refine .inl ?_
    obtain ⟨h1, h2, hn, g, hs, hev, ht⟩ := k1
    cases hl : lightOp o.op with
    | true =>
      obtain ⟨v, sv, r1, r2, r3⟩ := opStep_light hC hs (ev_rep ht) hl k3
      refine Runs.value (R := fun v' w' => v' = v ∧ w' = w) (r1 w (.inr (Later.refl w))) ⟨rfl, rfl⟩ K Q ?_
      rintro v' w' ⟨rfl, rfl⟩
      exact hK _ _ _ r3 (Holds.put h1 h2 hn hev ht hs (Evo.refl _ _ _) r2 o.dst) fun _ => Later.refl _
    | false =>
      cases hk : keepOp C o.op with
      | true =>
        refine opStep_keep hC hs (ev_rep ht) hk k3 K Q ?_
        rintro v w' ⟨⟨sv, H', g', q1, q2, q3, q4⟩, hlat⟩
        exact hK _ _ _ q1 (Holds.put h1 h2 hn hev ht q2 q3 q4 o.dst) fun _ => hlat
      | false =>
        refine opStep_sound hC hs (ev_rep ht) k3 K Q ?_
        rintro v w' ⟨sv, H', g', q1, q2, q3, q4⟩
        exact hK _ _ _ q1 (Holds.put h1 h2 hn hev ht q2 q3 q4 o.dst) fun hn => absurd ⟨o, ho, hl, hk⟩ hn
  · rw [if_neg (by rw [k2]; simp)]
    exact hK _ _ _ k3 k1 fun _ => Later.refl _

theorem execAny_sound (hC : CtxOK P C) {Q : Exit → Act → World → Prop} (hQ : ∀ c a w, ¬ Q (.panic c) a w) {R : St → Prop} (hR : ∀ st a w, R st → Holds I st a w → Q .normal a w) (hsel : Region.noSelect ops = true) :
    (f : Nat) → {m : Nat} → {l : Array Bool} → {st : St} → {a : Act} → {w : World} → execAny C ops (depsOf ops.toList) (tcGo (depsOf ops.toList) []) f m st R → MaskOf ops m l → Closed ops l → Holds I st a w →
    wpR P ops Q (LastD C ops) f l a w
  | 0, m, l, st, a, w, h, hm, hc, hh => by
    unfold execAny at h
    split at h
    · rename_i heq; exact wpR_done (readyL_nil hm heq) (hR _ _ _ h hh) 0
    · exact h.elim
  | f + 1, m, l, st, a, w, h, hm, hc, hh => by
    unfold execAny at h
    split at h
    · rename_i heq; exact wpR_done (readyL_nil hm heq) (hR _ _ _ h hh) _
    · rename_i i0 r0 heq
      have hne : Region.ready .any ops l ≠ [] := fun e => by
        have := (ready_iff hm i0).1 (by rw [heq]; exact List.mem_cons_self)
        rw [e] at this; cases this
      split at h
      · rename_i i hp
        obtain ⟨p1, p2⟩ := pickL_spec _ hp
        have hri : i ∈ Region.ready .any ops l := (ready_iff hm i).1 (by rw [heq]; exact p1)
        cases ho : ops[i]? with
        | none => rw [ho] at h; exact h.elim
        | some o =>
          have hil : i < ops.size := (Array.getElem?_eq_some_iff.1 ho).1
          rw [ho] at h
          simp only at h
          unfold pickOK at p2
          rw [ho] at p2
          simp only [Bool.and_eq_true] at p2
          obtain ⟨⟨q1, q2⟩, q3⟩ := p2
          obtain ⟨v, st', y1, y2, y3⟩ := light_step hC q1 h hh
          refine wpR_first ho (Region.noSelect_spec hsel) (fun c a w hq => absurd hq (hQ c _ w)) f l a w hm.size ?_ hc ?_ hri y1 (execAny_sound hC hQ hR hsel f y3 (hm.set hil) (hc.set hri) y2)
          · intro j oj hj hji hun hno
            have hjl : j < ops.size := (Array.getElem?_eq_some_iff.1 hj).1
            have := freeL_ok ops.toList _ 0 q3 j oj (by simpa using hj)
            rw [Nat.zero_add] at this
            rcases this with h1 | h1 | ⟨d, h1, h2⟩ | h1
            · rw [hm.getT hjl, h1] at hun; cases hun
            · exact absurd h1 hji
            · rw [depsOf_get] at h1
              simp [hj] at h1
              subst h1
              obtain ⟨e, he, hb, hon⟩ := (depE_bit _ _).1 h2
              exact absurd hon (hno e (by simpa using he) hb)
            · exact h1
          · rintro hpu d ⟨od, hod, hd1, hd2⟩ hun
            have hdl : d < ops.size := (Array.getElem?_eq_some_iff.1 hod).1
            rw [Bool.or_eq_true, hpu] at q2
            rcases lastL_ok ops.toList _ 0 (q2.resolve_left Bool.false_ne_true) d od (by simpa using hod) hd1 hd2 with h1 | ⟨t, h1, h2⟩
            · rw [Nat.zero_add] at h1; rw [hm.getT hdl, h1] at hun; cases hun
            · exact waits_of_tc h1 h2
      · rename_i hp
        refine wpR_all hne fun i hi => ?_
        have hi' := (ready_iff hm i).2 hi
        rw [heq] at hi'
        have h1 := allL_mem _ h i hi'
        cases ho : ops[i]? with
        | none => rw [ho] at h1; exact h1.elim
        | some o =>
          have hil : i < ops.size := (Array.getElem?_eq_some_iff.1 ho).1
          rw [ho] at h1
          simp only at h1
          exact op_step hC ho h1 hh fun st' a' w' k1 k2 k3 => ⟨k3, execAny_sound hC hQ hR hsel f k1 (hm.set hil) (hc.set hi) k2⟩

theorem execDraw_sound (hC : CtxOK P C) {Q : Exit → Act → World → Prop} (hQ : ∀ c a w, ¬ Q (.panic c) a w) {R : St → Prop} (hR : ∀ st a w, R st → Holds I st a w → Q .normal a w) {id : Nat} {st : St} {a : Act} {w : World}
    (h : execDraw C ops st R) (hh : Holds I st a w) : (Code.region id ops true).wp P Q a w := by
  unfold execDraw at h
  cases hs : Region.noSelect ops with
  | false => rw [hs] at h; exact h.elim
  | true =>
    rw [hs] at h
    simp only [cond_true] at h
    refine wp_region_any hC.mixed (wpAny_of_R (D := LastD C ops) _ _ _ _ (execAny_sound hC hQ hR hs _ h (MaskOf.zero ops) (fun j oj _ hl => ?_) ?_))
    · rw [(MaskOf.zero ops).getF] at hl; simp at hl
    · obtain ⟨h1, h2, hn, g, hsat, hev, ht⟩ := hh
      obtain ⟨b1, b2⟩ := Sat.same (w1 := { w with drawn := w.drawn + 1 }) hsat rfl rfl rfl (Nat.le_refl _) (fun _ _ => rfl)
      exact ⟨h1, h2, hn, g, b1, hev.trans b2, fun d => (ht d).evo b2⟩

end
end Go.SX
