/- Chapter 03 in plain words: C2 to C8. -/
import Derived.Test.YtmbbalghofbnbaaShC
namespace Go.SX.Sh

/-! ### C4: First Fit -/

/-- A colouring in which each interval meets all lower colours (of a set S): at depth d there are at most d * d colours. -/
theorem grundy (I : Nat → Sp) (f : Nat → Nat) (n N : Nat) : ∀ (d : Nat) (F S : Nat → Bool), (∀ i, i < n → F i = true → (I i).1 < (I i).2) →
    (∀ x, cR (fun i => F i && inS (I i) x) n ≤ d) →
    (∀ i, i < n → F i = true → S (f i) = true → ∀ c, S c = true → c < f i → ∃ j, j < n ∧ F j = true ∧ f j = c ∧ ovl (I i) (I j) = true) →
    cR (fun c => S c && colored F f n c) N ≤ d * d := by
  intro d
  induction d with
  | zero =>
    intro F S hI hd _
    refine Nat.le_of_eq (cR_zero fun c _ => ?_)
    cases hc : colored F f n c with
    | false => simp
    | true =>
      obtain ⟨i, h1, h2, _⟩ := colored_iff.1 hc
      have h3 := hI i h1 h2
      have := hd (I i).1
      have h4 := cR_pos (p := fun i' => F i' && inS (I i') (I i).1) h1 (by rw [h2, inS_iff.2 ⟨Int.le_refl _, h3⟩]; rfl)
      omega
  | succ d ih =>
    intro F S hI hd hG
    -- the greatest colour
    have hmax : ∀ m, m ≤ N → cR (fun c => S c && colored F f n c) m = 0 ∨ ∃ c, c < m ∧ (S c && colored F f n c) = true ∧ ∀ c', c < c' → c' < m → (S c' && colored F f n c') = false := by
      intro m
      induction m with
      | zero => intro _; exact .inl rfl
      | succ m im =>
        intro hm
        cases hc : (S m && colored F f n m) with
        | true => exact .inr ⟨m, by omega, hc, fun c' h1 h2 => by omega⟩
        | false =>
          rcases im (by omega) with h | ⟨c, h1, h2, h3⟩
          · exact .inl (by rw [cR_succ, hc, h]; rfl)
          · exact .inr ⟨c, by omega, h2, fun c' h4 h5 => by
              rcases Nat.lt_or_ge c' m with h6 | h6
              · exact h3 c' h4 h6
              · have e : c' = m := by omega
                rw [e]; exact hc⟩
    rcases hmax N (Nat.le_refl _) with h0 | ⟨c, hcN, hc, htop⟩
    · rw [h0]; exact Nat.zero_le _
    · rw [Bool.and_eq_true] at hc
      obtain ⟨i, hi, hFi, hfi⟩ := colored_iff.1 hc.2
      have hIi := hI i hi hFi
      -- the intervals at its two ends
      let P1 : Nat → Bool := fun j => F j && !decide (j = i) && inS (I j) (I i).1
      let P2 : Nat → Bool := fun j => F j && !decide (j = i) && inS (I j) ((I i).2 - 1)
      let S' : Nat → Bool := fun c' => S c' && !colored P1 f n c' && !colored P2 f n c' && !decide (c' = c)
      let F' : Nat → Bool := fun j => F j && decide ((I i).1 < (I j).1) && decide ((I j).2 < (I i).2)
      have hin : ∀ j, j < n → F j = true → S' (f j) = true → ovl (I i) (I j) = true → F' j = true := by
        intro j hj hFj hS ho
        simp only [S', Bool.and_eq_true, Bool.not_eq_true', decide_eq_false_iff_not] at hS
        obtain ⟨⟨⟨_, h1⟩, h2⟩, h3⟩ := hS
        have hji : j ≠ i := fun e => h3 (by rw [e]; exact hfi)
        have n1 : ¬ inS (I j) (I i).1 = true := fun hx => by
          have : colored P1 f n (f j) = true := colored_iff.2 ⟨j, hj, by simp only [P1]; rw [hFj, decide_eq_false hji, hx]; rfl, rfl⟩
          rw [h1] at this; cases this
        have n2 : ¬ inS (I j) ((I i).2 - 1) = true := fun hx => by
          have : colored P2 f n (f j) = true := colored_iff.2 ⟨j, hj, by simp only [P2]; rw [hFj, decide_eq_false hji, hx]; rfl, rfl⟩
          rw [h2] at this; cases this
        rw [inS_iff] at n1 n2
        rw [ovl_iff] at ho
        simp only [F', Bool.and_eq_true, decide_eq_true_eq]
        exact ⟨⟨hFj, by omega⟩, by omega⟩
      have e1 : cR P1 n ≤ d := by
        have := cR_mono_succ (p := P1) (q := fun j => F j && inS (I j) (I i).1) (a := i) (Nat.le_refl n) (fun j _ hj => by
          simp only [P1, Bool.and_eq_true] at hj ⊢; exact ⟨hj.1.1, hj.2⟩) hi (by rw [hFi, inS_iff.2 ⟨Int.le_refl _, hIi⟩]; rfl) (.inr (by simp [P1]))
        have := hd (I i).1
        omega
      have e2 : cR P2 n ≤ d := by
        have := cR_mono_succ (p := P2) (q := fun j => F j && inS (I j) ((I i).2 - 1)) (a := i) (Nat.le_refl n) (fun j _ hj => by
          simp only [P2, Bool.and_eq_true] at hj ⊢; exact ⟨hj.1.1, hj.2⟩) hi (by rw [hFi, inS_iff.2 ⟨by omega, by omega⟩]; rfl) (.inr (by simp [P2]))
        have := hd ((I i).2 - 1)
        omega
      have e3 : cR (fun c' => S' c' && colored F' f n c') N ≤ d * d := by
        refine ih F' S' (fun j hj hFj => ?_) (fun x => ?_) (fun j hj hFj hSj c' hSc hlt => ?_)
        · simp only [F', Bool.and_eq_true] at hFj; exact hI j hj hFj.1.1
        · rcases Nat.eq_zero_or_pos (cR (fun j => F' j && inS (I j) x) n) with h0 | hpos
          · omega
          · obtain ⟨j, hj, hx⟩ := List.countP_pos_iff.1 hpos
            simp only [F', Bool.and_eq_true, decide_eq_true_eq] at hx
            have hxx := inS_iff.1 hx.2
            have := cR_mono_succ (p := fun j => F' j && inS (I j) x) (q := fun j => F j && inS (I j) x) (a := i) (Nat.le_refl n) (fun b _ hb => by
              simp only [F', Bool.and_eq_true] at hb ⊢; exact ⟨hb.1.1.1, hb.2⟩) hi (by rw [hFi, inS_iff.2 ⟨by omega, by omega⟩]; rfl) (.inr (by simp [F']))
            have := hd x
            omega
        · have hSj' := hSj
          have hSc' := hSc
          simp only [S', Bool.and_eq_true] at hSj' hSc'
          simp only [F', Bool.and_eq_true, decide_eq_true_eq] at hFj
          obtain ⟨k, q1, q2, q3, q4⟩ := hG j hj hFj.1.1 hSj'.1.1.1 c' hSc'.1.1.1 hlt
          refine ⟨k, q1, hin k q1 q2 (by rw [q3]; exact hSc) ?_, q3, q4⟩
          rw [ovl_iff] at q4 ⊢
          omega
      have hsplit : cR (fun c' => S c' && colored F f n c') N ≤ cR (fun c' => (decide (c' = c) || colored P1 f n c') || (colored P2 f n c' || (S' c' && colored F' f n c'))) N := by
        refine cR_mono (Nat.le_refl _) fun c' hc' hs => ?_
        have hs' := hs
        rw [Bool.and_eq_true] at hs'
        by_cases hcc : c' = c
        · simp [hcc]
        · have hlt : c' < c := by
            rcases Nat.lt_or_ge c' c with h | h
            · exact h
            · have := htop c' (by omega) hc'
              rw [this] at hs; cases hs
          obtain ⟨j, q1, q2, q3, q4⟩ := hG i hi hFi (by rw [hfi]; exact hc.1) c' hs'.1 (by rw [hfi]; exact hlt)
          cases h1 : colored P1 f n c' with
          | true => simp
          | false =>
            cases h2 : colored P2 f n c' with
            | true => simp
            | false =>
              have hS' : S' c' = true := by simp only [S']; rw [hs'.1, h1, h2, decide_eq_false hcc]; rfl
              have := hin j q1 q2 (by rw [q3]; exact hS') q4
              have h3 : colored F' f n c' = true := colored_iff.2 ⟨j, q1, this, q3⟩
              rw [hS', h3]; simp
      have h1 := cR_or (fun c' => decide (c' = c) || colored P1 f n c') (fun c' => colored P2 f n c' || (S' c' && colored F' f n c')) N
      have h2 := cR_or (fun c' => decide (c' = c)) (fun c' => colored P1 f n c') N
      have h3 := cR_or (fun c' => colored P2 f n c') (fun c' => S' c' && colored F' f n c') N
      have h4 := colors_le P1 f n N
      have h5 := colors_le P2 f n N
      have h6 : cR (fun c' => decide (c' = c)) N ≤ 1 := cR_one fun a b _ _ ha hb => by simp at ha hb; omega
      have h7 : (d + 1) * (d + 1) = d * d + d + d + 1 := by rw [Nat.mul_add, Nat.add_mul]; omega
      show cR (fun c' => S c' && colored F f n c') N ≤ _
      have hp1 : cR (fun c' => colored P1 f n c') N ≤ cR P1 n := h4
      have hp2 : cR (fun c' => colored P2 f n c') N ≤ cR P2 n := h5
      omega

/-- What is asked of valid intervals. -/
def Good (l : List Sp) : Prop := ∀ i, i < l.length → (at_ l i).1 < (at_ l i).2
theorem good_of {l : List Sp} (h : checkF l = 0) : Good l := fun i hi => (not_bad ((checkF_zero h).2 i hi)).2.1
theorem Good.mem {l : List Sp} (h : Good l) : ∀ s ∈ l, s.1 < s.2 := fun s hs => by
  obtain ⟨i, hi, rfl⟩ := List.getElem_of_mem hs
  have := h i hi
  unfold at_ at this
  rwa [List.getD_eq_getElem?_getD, List.getElem?_eq_getElem hi] at this

abbrev depthF (l : List Sp) : Nat := (deepF l).2.length
theorem depth_max {l : List Sp} (h : Good l) : ∀ v, cnt l v ≤ depthF l := by
  by_cases hn : l = []
  · subst hn; intro v; exact Nat.zero_le _
  · exact (deep_max l h.mem hn).2
theorem depth_at {l : List Sp} (h : Good l) : ∃ v, cnt l v = depthF l := by
  by_cases hn : l = []
  · subst hn; exact ⟨0, rfl⟩
  · obtain ⟨⟨s, _, e⟩, _⟩ := deep_max l h.mem hn
    exact ⟨s.1, e.symm⟩
theorem depth_pos {l : List Sp} (h : Good l) {i : Nat} (hi : i < l.length) : 1 ≤ depthF l := by
  refine Nat.le_trans ?_ (depth_max h (at_ l i).1)
  rw [cnt_idx]
  exact cR_pos (a := i) hi (inS_iff.2 ⟨Int.le_refl _, h i hi⟩)

theorem firstF_length (l : List Sp) : (firstF l).length = l.length := fitTo_length _ _ _
theorem trotF_length (l : List Sp) : (trotF l).length = l.length := fitTo_length _ _ _
theorem levelsF_length (l : List Sp) : (levelsF l).length = l.length := levelsTo_length _ _

/-- A proper colouring. -/
def Prop_ (l : List Sp) (c : List Int) : Prop := ∀ i, i < l.length → ∀ j, j < i → ovl (at_ l i) (at_ l j) = true → c.getD i 0 ≠ c.getD j 0

/-- The intervals at one integer have different numbers. -/
theorem most_ge {l : List Sp} {c : List Int} (hl : c.length = l.length) (hp : Prop_ l c) (h0 : ∀ x ∈ c, 0 ≤ x) (v : Int) : cnt l v ≤ (seenF c).length := by
  have hN : ∀ x ∈ c, 0 ≤ x ∧ x < ((topF c).toNat : Int) := fun x hx => by
    have := (topF_spec c).1 x hx
    have := h0 x hx
    omega
  rw [seen_cR c _ hN, cnt_idx]
  refine Nat.le_trans (colors_ge (f := fun i => (c.getD i 0).toNat) (N := (topF c).toNat) (fun a ha _ => ?_) (fun a b ha hb ha' hb' e => ?_)) (cR_mono (Nat.le_refl _) fun k _ hk => ?_)
  · have := hN _ (getD_in (d := 0) (show a < c.length by omega))
    show (c.getD a 0).toNat < _
    omega
  · have h1 := hN _ (getD_in (d := 0) (show a < c.length by omega))
    have h2 := hN _ (getD_in (d := 0) (show b < c.length by omega))
    exact hp a ha b hb (ovl_of_in ha' hb') (by omega)
  · obtain ⟨j, h1, _, h3⟩ := colored_iff.1 hk
    have h4 := hN _ (getD_in (d := 0) (show j < c.length by omega))
    have h5 : (k : Int) = c.getD j 0 := by rw [← h3]; show (((c.getD j 0).toNat : Nat) : Int) = _; omega
    rw [decide_eq_true_eq, h5]
    exact getD_in (by omega)

theorem first_ok (l : List Sp) {i : Nat} (hi : i < l.length) : FitOK zeroF (confF l) l.length (fun i => (firstF l).getD i 0) i := fit_ok l.length i hi

theorem first_proper (l : List Sp) : Prop_ l (firstF l) := fun i hi j hj ho => ((first_ok l hi).ne j hj ho).symm
theorem first_nonneg (l : List Sp) : ∀ x ∈ firstF l, 0 ≤ x := fun x hx => by
  obtain ⟨i, hi, rfl⟩ := getD_lt hx
  rw [firstF_length] at hi
  exact (first_ok l hi).ge
theorem first_lt (l : List Sp) : ∀ x ∈ firstF l, x < l.length := fun x hx => by
  obtain ⟨i, hi, rfl⟩ := getD_lt hx
  rw [firstF_length] at hi
  have h1 := (first_ok l hi).le
  have h2 := cR_le (confF l i) i
  have h3 : zeroF i = 0 := rfl
  omega

/-- All numbers below the greatest are used. -/
theorem first_full (l : List Sp) : ∀ c : Nat, (c : Int) < topF (firstF l) → (c : Int) ∈ firstF l := by
  intro c hc
  obtain ⟨h1, h2⟩ := topF_spec (firstF l)
  rcases h2 with h2 | ⟨x, hx, e⟩
  · omega
  · by_cases hcx : (c : Int) = x
    · rw [hcx]; exact hx
    · obtain ⟨i, hi, rfl⟩ := getD_lt hx
      rw [firstF_length] at hi
      obtain ⟨a, q1, _, q3⟩ := (first_ok l hi).gr c (by show (0 : Int) ≤ c; omega) (by omega)
      rw [← q3]
      exact getD_in (by rw [firstF_length]; omega)
theorem full_most {l : List Int} (h0 : ∀ x ∈ l, 0 ≤ x) (h : ∀ c : Nat, (c : Int) < topF l → (c : Int) ∈ l) : ((seenF l).length : Int) = topF l := by
  have h1 := topF_nonneg l
  rw [seen_cR l (topF l).toNat fun x hx => by have := (topF_spec l).1 x hx; have := h0 x hx; omega, cR_all fun a ha => ?_]
  · omega
  · rw [decide_eq_true_eq]; exact h a (by omega)
theorem first_most (l : List Sp) : (mostF (firstF l)).1 = (mostF (firstF l)).2 := full_most (first_nonneg l) (first_full l)

theorem first_le {l : List Sp} (h : Good l) (hl : l.length ≤ 40) : (mostF (firstF l)).1 ≤ 8 * (depthF l : Int) := by
  have hg := grundy (at_ l) (fun i => ((firstF l).getD i 0).toNat) l.length (topF (firstF l)).toNat (depthF l) (fun _ => true) (fun _ => true) (fun i hi _ => h i hi)
    (fun x => by simpa [cnt_idx] using depth_max h x)
    (fun i hi _ _ c _ hc => by
      obtain ⟨a, q1, q2, q3⟩ := (first_ok l hi).gr c (by show (0 : Int) ≤ c; omega) (by omega)
      have q3' : (firstF l).getD a 0 = (c : Int) := q3
      exact ⟨a, by omega, rfl, by rw [q3']; omega, q2⟩)
  have hall : cR (fun c => true && colored (fun _ => true) (fun i => ((firstF l).getD i 0).toNat) l.length c) (topF (firstF l)).toNat = (topF (firstF l)).toNat := by
    refine cR_all fun c hc => ?_
    have := first_full l c (by omega)
    obtain ⟨i, hi, e⟩ := getD_lt this
    rw [Bool.true_and]
    exact colored_iff.2 ⟨i, by rw [firstF_length] at hi; exact hi, rfl, by rw [e]; omega⟩
  rw [hall] at hg
  have h1 := first_most l
  have h2 : (mostF (firstF l)).2 = topF (firstF l) := rfl
  have h3 : (mostF (firstF l)).1 = ((seenF (firstF l)).length : Int) := rfl
  have h4 := seenF_length (firstF l)
  rw [firstF_length] at h4
  rcases Nat.lt_or_ge (depthF l) 5 with hd | hd
  · have : depthF l * depthF l ≤ 8 * depthF l := Nat.mul_le_mul_right _ (by omega)
    omega
  · omega
theorem first_ge {l : List Sp} (h : Good l) : (depthF l : Int) ≤ (mostF (firstF l)).1 := by
  obtain ⟨v, e⟩ := depth_at h
  have := most_ge (firstF_length l) (first_proper l) (first_nonneg l) v
  show (depthF l : Int) ≤ ((seenF (firstF l)).length : Int)
  omega
end Go.SX.Sh
