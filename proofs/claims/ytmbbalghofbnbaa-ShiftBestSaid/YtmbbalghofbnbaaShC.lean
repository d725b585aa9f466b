/- Chapter 03 in plain words: counting, First Fit, the levels of Kierstead and Trotter. -/
import Derived.Test.YtmbbalghofbnbaaShM
namespace Go.SX.Sh

/-! ### Counting below a number -/

abbrev cR (p : Nat → Bool) (n : Nat) : Nat := (List.range n).countP p
theorem cR_succ (p : Nat → Bool) (n : Nat) : cR p (n + 1) = cR p n + if p n = true then 1 else 0 := by
  unfold cR
  rw [List.range_succ, List.countP_append]
  simp [List.countP_cons]
theorem cR_zero {p : Nat → Bool} {n : Nat} (h : ∀ a, a < n → p a = false) : cR p n = 0 := by
  unfold cR
  rw [List.countP_eq_zero]
  intro a ha
  rw [h a (List.mem_range.1 ha)]
  simp
theorem cR_mono {p q : Nat → Bool} {m n : Nat} (hm : m ≤ n) (h : ∀ a, a < m → p a = true → q a = true) : cR p m ≤ cR q n := by
  induction n with
  | zero =>
    have : m = 0 := by omega
    subst this
    exact Nat.le_refl _
  | succ n ih =>
    rcases Nat.lt_or_ge m (n + 1) with h1 | h1
    · rw [cR_succ]
      exact Nat.le_trans (ih (by omega)) (Nat.le_add_right _ _)
    · have e : m = n + 1 := by omega
      subst e
      have : ∀ k, k ≤ n + 1 → cR p k ≤ cR q k := by
        intro k
        induction k with
        | zero => intro _; exact Nat.le_refl _
        | succ k ik =>
          intro hk
          rw [cR_succ, cR_succ]
          have := ik (by omega)
          have := h k (by omega)
          split
          · rename_i hp
            rw [if_pos (this hp)]
            omega
          · split <;> omega
      exact this _ (Nat.le_refl _)
theorem cR_mono_succ {p q : Nat → Bool} {m n a : Nat} (hm : m ≤ n) (h : ∀ b, b < m → p b = true → q b = true) (ha : a < n) (hq : q a = true) (hn : m ≤ a ∨ p a = false) : cR p m + 1 ≤ cR q n := by
  induction n with
  | zero => omega
  | succ n ih =>
    rw [cR_succ]
    rcases Nat.lt_or_ge a n with h1 | h1
    · rcases Nat.lt_or_ge m (n + 1) with h2 | h2
      · have := ih (by omega) h1
        omega
      · have e : m = n + 1 := by omega
        subst e
        rw [cR_succ]
        have h3 : cR p n + 1 ≤ cR q n := by
          clear ih
          have hn' : p a = false := by rcases hn with hn | hn; omega; exact hn
          have : ∀ k, k ≤ n → a < k → cR p k + 1 ≤ cR q k := by
            intro k
            induction k with
            | zero => intro _ h; omega
            | succ k ik =>
              intro hk hak
              rw [cR_succ, cR_succ]
              rcases Nat.lt_or_ge a k with h4 | h4
              · have := ik (by omega) h4
                have hh := h k (by omega)
                split
                · rename_i hp; rw [if_pos (hh hp)]; omega
                · split <;> omega
              · have e : a = k := by omega
                subst e
                rw [if_pos hq, hn']
                have := cR_mono (p := p) (q := q) (Nat.le_refl a) (fun b hb => h b (by omega))
                simp
                omega
          exact this n (Nat.le_refl _) h1
        have hh := h n (by omega)
        split
        · rename_i hp; rw [if_pos (hh hp)]; omega
        · split <;> omega
    · have e : a = n := by omega
      subst e
      rw [if_pos hq]
      rcases Nat.lt_or_ge m (a + 1) with h2 | h2
      · have := cR_mono (p := p) (q := q) (show m ≤ a by omega) h
        omega
      · have e : m = a + 1 := by omega
        subst e
        have hn' : p a = false := by rcases hn with hn | hn; omega; exact hn
        rw [cR_succ, hn']
        have := cR_mono (p := p) (q := q) (Nat.le_refl a) (fun b hb => h b (by omega))
        simp
        omega
theorem cR_one {p : Nat → Bool} {n : Nat} (h : ∀ a b, a < n → b < n → p a = true → p b = true → a = b) : cR p n ≤ 1 := by
  induction n with
  | zero => exact Nat.zero_le _
  | succ n ih =>
    rw [cR_succ]
    split
    · rename_i hp
      rw [cR_zero fun a ha => ?_]
      · omega
      · cases hpa : p a with
        | false => rfl
        | true => have := h a n (by omega) (by omega) hpa hp; omega
    · have := ih fun a b ha hb => h a b (by omega) (by omega)
      omega
theorem cR_or (p q : Nat → Bool) (n : Nat) : cR (fun a => p a || q a) n ≤ cR p n + cR q n := by
  induction n with
  | zero => exact Nat.le_refl _
  | succ n ih =>
    rw [cR_succ, cR_succ, cR_succ]
    cases p n <;> cases q n <;> simp <;> omega
theorem cR_le (p : Nat → Bool) (n : Nat) : cR p n ≤ n := by
  have := List.countP_le_length (p := p) (l := List.range n)
  simpa using this
theorem cR_pos {p : Nat → Bool} {n a : Nat} (ha : a < n) (h : p a = true) : 1 ≤ cR p n := List.countP_pos_iff.2 ⟨a, List.mem_range.2 ha, h⟩
theorem cR_all {p : Nat → Bool} {n : Nat} (h : ∀ a, a < n → p a = true) : cR p n = n := by
  unfold cR
  rw [List.countP_eq_length.2 (fun a ha => h a (List.mem_range.1 ha)), List.length_range]
theorem cR_congr {p q : Nat → Bool} {n : Nat} (h : ∀ a, a < n → p a = q a) : cR p n = cR q n :=
  Nat.le_antisymm (cR_mono (Nat.le_refl _) fun a ha hp => by rw [← h a ha]; exact hp) (cR_mono (Nat.le_refl _) fun a ha hp => by rw [h a ha]; exact hp)

/-- The colours of some are no more than these. -/
def colored (P : Nat → Bool) (f : Nat → Nat) (n c : Nat) : Bool := (List.range n).any fun j => P j && decide (f j = c)
theorem colored_iff {P : Nat → Bool} {f : Nat → Nat} {n c : Nat} : colored P f n c = true ↔ ∃ j, j < n ∧ P j = true ∧ f j = c := by
  unfold colored
  rw [List.any_eq_true]
  constructor
  · rintro ⟨j, h1, h2⟩
    rw [Bool.and_eq_true, decide_eq_true_eq] at h2
    exact ⟨j, List.mem_range.1 h1, h2.1, h2.2⟩
  · rintro ⟨j, h1, h2, h3⟩
    exact ⟨j, List.mem_range.2 h1, by rw [h2, decide_eq_true h3]; rfl⟩
theorem colored_succ (P : Nat → Bool) (f : Nat → Nat) (n c : Nat) : colored P f (n + 1) c = (colored P f n c || (P n && decide (f n = c))) := by
  unfold colored
  rw [List.range_succ, List.any_append]
  simp
theorem colors_le (P : Nat → Bool) (f : Nat → Nat) (n N : Nat) : cR (colored P f n) N ≤ cR P n := by
  induction n with
  | zero => rw [cR_zero (p := colored P f 0) fun a _ => rfl]; exact Nat.zero_le _
  | succ n ih =>
    rw [cR_succ, cR_congr fun c _ => colored_succ P f n c]
    refine Nat.le_trans (cR_or _ _ _) (Nat.add_le_add ih ?_)
    split
    · refine cR_one fun a b _ _ ha hb => ?_
      simp at ha hb
      omega
    · rename_i h
      rw [cR_zero fun a _ => by rw [Bool.not_eq_true] at h; rw [h]; rfl]
      exact Nat.zero_le _
theorem colors_ge {P : Nat → Bool} {f : Nat → Nat} {n N : Nat} (hN : ∀ a, a < n → P a = true → f a < N) (h : ∀ a b, a < n → b < a → P a = true → P b = true → f a ≠ f b) : cR P n ≤ cR (colored P f n) N := by
  induction n with
  | zero => exact Nat.zero_le _
  | succ n ih =>
    have ih := ih (fun a ha => hN a (by omega)) fun a b ha => h a b (by omega)
    rw [cR_succ]
    split
    · rename_i hp
      refine Nat.le_trans (Nat.add_le_add_right ih 1) (cR_mono_succ (a := f n) (Nat.le_refl _) (fun c _ hc => by rw [colored_succ, hc]; rfl) (hN n (by omega) hp) ?_ (.inr ?_))
      · rw [colored_succ, hp]; simp
      · cases hc : colored P f n (f n) with
        | false => rfl
        | true =>
          obtain ⟨j, h1, h2, h3⟩ := colored_iff.1 hc
          exact absurd h3.symm (h n j (by omega) h1 hp h2)
    · exact Nat.le_trans ih (cR_mono (Nat.le_refl _) fun c _ hc => by rw [colored_succ, hc]; rfl)

/-! ### Intervals -/

theorem ovl_iff {a b : Sp} : ovl a b = true ↔ max a.1 b.1 < min a.2 b.2 := by rw [ovl_eq, decide_eq_true_eq]
theorem ovl_of_in {a b : Sp} {x : Int} (ha : inS a x = true) (hb : inS b x = true) : ovl a b = true := by
  rw [inS_iff] at ha hb
  rw [ovl_iff]
  omega
theorem in_of_ovl {a b : Sp} (h : ovl a b = true) : ∃ x, inS a x = true ∧ inS b x = true := by
  rw [ovl_iff] at h
  exact ⟨max a.1 b.1, inS_iff.2 ⟨by omega, by omega⟩, inS_iff.2 ⟨by omega, by omega⟩⟩
theorem ovl_comm (a b : Sp) : ovl a b = ovl b a := by rw [ovl_eq, ovl_eq, Int.max_comm, Int.min_comm]

theorem cnt_idx (l : List Sp) (v : Int) : cnt l v = cR (fun i => inS (at_ l i) v) l.length := by
  have : ∀ k, k ≤ l.length → cnt (l.take k) v = cR (fun i => inS (at_ l i) v) k := by
    intro k
    induction k with
    | zero => intro _; rfl
    | succ k ih =>
      intro hk
      rw [cnt_take' l v k (by omega), cR_succ, ih (by omega)]
      rfl
  have h := this l.length (Nat.le_refl _)
  rwa [List.take_length] at h

/-! ### First Fit -/

theorem run_le' (x : Int) (l : List Int) (k : Nat) (h : ∀ j : Nat, j < k → x + j ∈ l) : k ≤ l.length := by
  have hn : ((List.range k).map fun j : Nat => x + j).Nodup := by
    rw [List.Nodup, List.pairwise_map]
    exact List.Pairwise.imp (fun {a b} (hab : a < b) e => by omega) List.pairwise_lt_range
  have := List.Nodup.length_le_of_subset hn (l₂ := l) (fun y hy => by
    obtain ⟨j, hj, rfl⟩ := List.mem_map.1 hy
    exact h j (by simpa using hj))
  simpa using this
theorem leastF_spec (x : Int) (l : List Int) : leastF x l ∉ l ∧ x ≤ leastF x l ∧ leastF x l ≤ x + l.length ∧ ∀ c, x ≤ c → c < leastF x l → c ∈ l := by
  unfold leastF
  split
  · rename_i k h
    rw [List.find?_range_eq_some] at h
    obtain ⟨h1, h2, h3⟩ := h
    simp at h1 h2
    refine ⟨h1, by omega, by omega, fun c h4 h5 => ?_⟩
    have := h3 (c - x).toNat (by omega)
    simp at this
    have e : x + max (c - x) 0 = c := by omega
    rwa [e] at this
  · rename_i h
    rw [List.find?_eq_none] at h
    have := run_le' x l (l.length + 1) fun j hj => by
      have := h j (List.mem_range.2 hj)
      simpa using this
    omega

section fit
variable {start : Nat → Int} {conf : Nat → Nat → Bool}

theorem taken_mem {out : List Int} {i j : Nat} {x : Int} : x ∈ taken conf out i j ↔ ∃ a, a < j ∧ conf i a = true ∧ out.getD a 0 = x := by
  unfold taken
  rw [List.mem_map]
  constructor
  · rintro ⟨a, h, e⟩
    rw [List.mem_filter, List.mem_range] at h
    exact ⟨a, h.1, h.2, e⟩
  · rintro ⟨a, h1, h2, e⟩
    exact ⟨a, by rw [List.mem_filter, List.mem_range]; exact ⟨h1, h2⟩, e⟩
theorem taken_cR (out : List Int) (i j : Nat) : (taken conf out i j).length = cR (conf i) j := by
  unfold taken cR
  rw [List.length_map, List.countP_eq_length_filter]
theorem fitTo_take (n k : Nat) (h : k ≤ n) : (fitTo start conf n).take k = fitTo start conf k := by
  induction n with
  | zero =>
    have : k = 0 := by omega
    subst this; rfl
  | succ n ih =>
    rcases Nat.lt_or_ge k (n + 1) with h1 | h1
    · rw [fitTo, List.take_append_of_le_length (by rw [fitTo_length]; omega), ih (by omega)]
    · have e : k = n + 1 := by omega
      rw [e, List.take_of_length_le (by rw [fitTo_length]; omega)]
theorem getD_take {l : List Int} {k i : Nat} (h : i < k) : (l.take k).getD i 0 = l.getD i 0 := by
  simp [List.getD, List.getElem?_take, h]
theorem fitTo_at (n i : Nat) (h : i < n) : (fitTo start conf n).getD i 0 = leastF (start i) (taken conf (fitTo start conf i) i i) := by
  rw [← getD_take (Nat.lt_succ_self i), fitTo_take n (i + 1) h, fitTo, List.getD_eq_getElem?_getD, List.getElem?_append_right (by rw [fitTo_length]; omega), fitTo_length]
  simp
theorem fitTo_getD (n i a : Nat) (h : a < i) (hi : i ≤ n) : (fitTo start conf i).getD a 0 = (fitTo start conf n).getD a 0 := by
  rw [← fitTo_take n i hi, getD_take h]

structure FitOK (start : Nat → Int) (conf : Nat → Nat → Bool) (n : Nat) (F : Nat → Int) (i : Nat) : Prop where
  ne : ∀ a, a < i → conf i a = true → F a ≠ F i
  ge : start i ≤ F i
  le : F i ≤ start i + cR (conf i) i
  gr : ∀ c, start i ≤ c → c < F i → ∃ a, a < i ∧ conf i a = true ∧ F a = c

theorem fit_ok (n i : Nat) (h : i < n) : FitOK start conf n (fun i => (fitTo start conf n).getD i 0) i := by
  obtain ⟨h1, h2, h3, h4⟩ := leastF_spec (start i) (taken conf (fitTo start conf i) i i)
  rw [taken_cR] at h3
  rw [← fitTo_at n i h] at h1 h2 h3 h4
  refine ⟨fun a ha hc e => h1 (taken_mem.2 ⟨a, ha, hc, ?_⟩), h2, h3, fun c hc1 hc2 => ?_⟩
  · rw [fitTo_getD n i a ha (by omega)]; exact e
  · obtain ⟨a, q1, q2, q3⟩ := taken_mem.1 (h4 c hc1 hc2)
    exact ⟨a, q1, q2, by rw [← fitTo_getD n i a q1 (by omega)]; exact q3⟩
theorem fitTo_congr {start' : Nat → Int} {conf' : Nat → Nat → Bool} {n : Nat} (h1 : ∀ i, i < n → start i = start' i) (h2 : ∀ i, i < n → ∀ a, a < i → conf i a = conf' i a) : fitTo start conf n = fitTo start' conf' n := by
  induction n with
  | zero => rfl
  | succ n ih =>
    unfold fitTo
    rw [ih (fun i hi => h1 i (by omega)) (fun i hi => h2 i (by omega)), h1 n (by omega)]
    have : taken conf (fitTo start' conf' n) n n = taken conf' (fitTo start' conf' n) n n := by
      unfold taken
      rw [List.filter_congr fun a ha => h2 n (by omega) a (List.mem_range.1 ha)]
    rw [this]
end fit

theorem getD_lt {l : List Int} {x : Int} (h : x ∈ l) : ∃ i, i < l.length ∧ l.getD i 0 = x := by
  obtain ⟨i, hi, e⟩ := List.getElem_of_mem h
  exact ⟨i, hi, by rw [List.getD_eq_getElem?_getD, List.getElem?_eq_getElem hi]; exact e⟩
theorem getD_in {α : Type} {l : List α} {d : α} {i : Nat} (h : i < l.length) : l.getD i d ∈ l := by
  rw [List.getD_eq_getElem?_getD, List.getElem?_eq_getElem h]
  exact List.getElem_mem h

/-! ### How many different numbers -/

theorem topF_spec (l : List Int) : (∀ x ∈ l, x + 1 ≤ topF l) ∧ (topF l = 0 ∨ ∃ x ∈ l, topF l = x + 1) := by
  have : ∀ (m : List Int) (t : Int), t ≤ m.foldl (fun t x => max t (x + 1)) t ∧ (∀ x ∈ m, x + 1 ≤ m.foldl (fun t x => max t (x + 1)) t) ∧ (m.foldl (fun t x => max t (x + 1)) t = t ∨ ∃ x ∈ m, m.foldl (fun t x => max t (x + 1)) t = x + 1) := by
    intro m
    induction m with
    | nil => intro t; exact ⟨Int.le_refl _, fun x hx => (by cases hx), .inl rfl⟩
    | cons y m ih =>
      intro t
      obtain ⟨h1, h2, h3⟩ := ih (max t (y + 1))
      rw [List.foldl_cons]
      refine ⟨by omega, fun x hx => ?_, ?_⟩
      · rcases List.mem_cons.1 hx with h | h
        · subst h; omega
        · exact h2 x h
      · rcases h3 with h3 | ⟨x, hx, e⟩
        · rcases Int.le_total t (y + 1) with h | h
          · exact .inr ⟨y, by simp, by rw [h3]; omega⟩
          · exact .inl (by rw [h3]; omega)
        · exact .inr ⟨x, by simp [hx], e⟩
  obtain ⟨_, h2, h3⟩ := this l 0
  exact ⟨h2, h3⟩
theorem seen_app (l : List Int) (x : Int) : seenF (l ++ [x]) = if x ∈ seenF l then seenF l else seenF l ++ [x] := by
  unfold seenF; rw [List.foldl_append]; rfl
theorem mem_seen (l : List Int) : ∀ x, x ∈ seenF l ↔ x ∈ l := by
  have : ∀ k, k ≤ l.length → ∀ x, x ∈ seenF (l.take k) ↔ x ∈ l.take k := by
    intro k
    induction k with
    | zero => intro _ x; exact Iff.rfl
    | succ k ih =>
      intro hk x
      have ih := ih (by omega)
      rw [List.take_add_one, List.getElem?_eq_getElem (by omega)]
      show x ∈ seenF (l.take k ++ [l[k]]) ↔ x ∈ l.take k ++ [l[k]]
      rw [seen_app]
      split
      · rename_i h
        rw [List.mem_append, ih]
        constructor
        · exact .inl
        · rintro (h1 | h1)
          · exact h1
          · rw [List.mem_singleton.1 h1]; exact (ih _).1 h
      · rw [List.mem_append, List.mem_append, ih]
  intro x
  have := this l.length (Nat.le_refl _) x
  rwa [List.take_length] at this
theorem seen_cR (l : List Int) (N : Nat) (h : ∀ x ∈ l, 0 ≤ x ∧ x < N) : (seenF l).length = cR (fun c => decide ((c : Int) ∈ l)) N := by
  have : ∀ k, k ≤ l.length → (seenF (l.take k)).length = cR (fun c => decide ((c : Int) ∈ l.take k)) N := by
    intro k
    induction k with
    | zero => intro _; rw [cR_zero fun a _ => by simp]; rfl
    | succ k ih =>
      intro hk
      have ih := ih (by omega)
      have hx := h l[k] (List.getElem_mem _)
      have e0 : l.take (k + 1) = l.take k ++ [l[k]] := by rw [List.take_add_one, List.getElem?_eq_getElem (by omega)]; rfl
      rw [e0, seen_app]
      clear e0
      generalize l.take k = m at *
      generalize l[k] = y at *
      split
      · rename_i hs
        rw [ih]
        rw [mem_seen] at hs
        refine cR_congr fun c _ => ?_
        by_cases hc : (c : Int) ∈ m
        · simp [hc]
        · have : ¬ (c : Int) = y := fun e => hc (e ▸ hs)
          simp [hc, this]
      · rename_i hs
        rw [mem_seen] at hs
        rw [List.length_append, ih]
        refine Nat.le_antisymm (cR_mono_succ (a := y.toNat) (Nat.le_refl _) (fun c _ hc => ?_) (by omega) ?_ (.inr ?_)) ?_
        · rw [decide_eq_true_eq] at hc ⊢
          exact List.mem_append.2 (.inl hc)
        · have e : ((y.toNat : Nat) : Int) = y := by omega
          rw [e]; simp
        · have e : ((y.toNat : Nat) : Int) = y := by omega
          rw [e]; exact decide_eq_false hs
        · refine Nat.le_trans (cR_mono (q := fun c => decide ((c : Int) ∈ m) || decide ((c : Int) = y)) (Nat.le_refl _) fun c _ hc => ?_) (Nat.le_trans (cR_or _ _ _) (Nat.add_le_add_left (cR_one fun a b _ _ ha hb => ?_) _))
          · rw [decide_eq_true_eq, List.mem_append, List.mem_singleton] at hc
            rcases hc with hc | hc <;> simp [hc]
          · simp at ha hb
            omega
  have := this l.length (Nat.le_refl _)
  rwa [List.take_length] at this
end Go.SX.Sh
