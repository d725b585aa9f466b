/- Chapter 03 in plain words: the levels (C3), prefixes (C5), mirrors (C6, C7), the deepest integer (C8). -/
import Derived.Test.YtmbbalghofbnbaaShD
namespace Go.SX.Sh

/-! ### Levels -/

/-- How many of the first i have a level up to K and hold an integer. -/
abbrev lc (l : List Sp) (out : List Int) (K : Int) (i : Nat) (x : Int) : Nat := cR (fun a => decide (out.getD a 0 ≤ K) && inS (at_ l a) x) i

theorem low_lc (l : List Sp) (out : List Int) (i : Nat) (K : Int) (j : Nat) (x : Int) (hx : inS (at_ l i) x = true) : cnt (lowR l out i K j) x = lc l out K j x + 1 := by
  induction j with
  | zero => unfold lowR cnt lc cR; simp [hx]
  | succ j ih =>
    have e : lc l out K (j + 1) x = lc l out K j x + if (decide (out.getD j 0 ≤ K) && inS (at_ l j) x) = true then 1 else 0 := cR_succ _ _
    rw [lowR_succ, e]
    unfold cnt at ih ⊢
    rw [List.countP_append, ih]
    generalize lc l out K j x = z
    by_cases h : out.getD j 0 ≤ K
    · rw [if_pos h, decide_eq_true h]
      by_cases h2 : inS (at_ l j) x = true
      · rw [List.countP_cons, if_pos h2, h2]; simp
      · rw [List.countP_cons, if_neg h2]; simp [h2]
    · rw [if_neg h, decide_eq_false h]; simp

theorem depthR_le (m : List Sp) (a : Sp) (K : Int) (hK : 0 ≤ K) : (depthR m a).1 ≤ K ↔ ∀ x, inS a x = true → (cnt m x : Int) ≤ K := by
  obtain ⟨h1, h2⟩ := depthTo_spec m a.1 (a.2 - a.1).toNat
  constructor
  · intro h x hx
    rw [inS_iff] at hx
    have := h1 (x - a.1).toNat (by omega)
    have e : a.1 + ((x - a.1).toNat : Nat) = x := by omega
    rw [e] at this
    exact Int.le_trans this h
  · intro h
    show (depthTo m a.1 (a.2 - a.1).toNat).1 ≤ K
    rcases h2 with h2 | ⟨j, hj, e, _⟩
    · rw [h2]; exact hK
    · rw [e]; exact h _ (inS_iff.2 ⟨by omega, by omega⟩)

/-- The least level that an interval fits in. -/
def fitsL (l : List Sp) (out : List Int) (i : Nat) (K : Int) : Prop := ∀ x, inS (at_ l i) x = true → (lc l out K i x : Int) + 1 ≤ K
theorem fitsL_iff (l : List Sp) (out : List Int) (i : Nat) (k : Nat) : (depthR (lowR l out i (1 + k) i) (at_ l i)).1 ≤ 1 + k ↔ fitsL l out i (1 + k) := by
  rw [depthR_le _ _ _ (by omega)]
  refine forall_congr' fun x => forall_congr' fun hx => ?_
  rw [low_lc l out i _ i x hx]
  omega

theorem levelAtR_spec (l : List Sp) (out : List Int) (i : Nat) : 1 ≤ levelAtR l out i ∧ fitsL l out i (levelAtR l out i) ∧ ∀ K, 1 ≤ K → fitsL l out i K → levelAtR l out i ≤ K := by
  have hall : fitsL l out i (1 + i) := fun x _ => by
    have := cR_le (fun a => decide (out.getD a 0 ≤ 1 + i) && inS (at_ l a) x) i
    unfold lc
    omega
  have hex : ∃ k, (List.range (i + 1)).find? (fun k : Nat => decide ((depthR (lowR l out i (1 + k) i) (at_ l i)).1 ≤ 1 + k)) = some k := by
    cases h : (List.range (i + 1)).find? (fun k : Nat => decide ((depthR (lowR l out i (1 + k) i) (at_ l i)).1 ≤ 1 + k)) with
    | some k => exact ⟨k, rfl⟩
    | none =>
      rw [List.find?_eq_none] at h
      have := h i (List.mem_range.2 (by omega))
      rw [decide_eq_true_eq, fitsL_iff] at this
      exact absurd hall this
  obtain ⟨k, hk⟩ := hex
  have e : levelAtR l out i = 1 + k := by unfold levelAtR; rw [hk]
  rw [List.find?_range_eq_some] at hk
  obtain ⟨h1, h2, h3⟩ := hk
  rw [decide_eq_true_eq, fitsL_iff] at h1
  rw [e]
  refine ⟨by omega, h1, fun K hK hf => ?_⟩
  rcases Int.lt_or_le K (1 + k) with h | h
  · have := h3 (K - 1).toNat (by omega)
    have e2 : (1 : Int) + ((K - 1).toNat : Nat) = K := by omega
    rw [Bool.not_eq_true', decide_eq_false_iff_not, fitsL_iff, e2] at this
    exact absurd hf this
  · exact h

theorem levelsTR_take (l : List Sp) (n k : Nat) (h : k ≤ n) : (levelsTR l n).take k = levelsTR l k := by
  induction n with
  | zero =>
    have : k = 0 := by omega
    subst this; rfl
  | succ n ih =>
    rcases Nat.lt_or_ge k (n + 1) with h1 | h1
    · rw [levelsTR, List.take_append_of_le_length (by rw [levelsTR_length]; omega), ih (by omega)]
    · have e : k = n + 1 := by omega
      rw [e, List.take_of_length_le (by rw [levelsTR_length]; omega)]
theorem lc_take (l : List Sp) (out : List Int) (K : Int) (i : Nat) (x : Int) : lc l (out.take i) K i x = lc l out K i x := cR_congr fun a ha => by rw [getD_take ha]

structure LvOK (l : List Sp) (v : List Int) (i : Nat) : Prop where
  ge : 1 ≤ v.getD i 0
  fit : fitsL l v i (v.getD i 0)
  least : ∀ K, 1 ≤ K → fitsL l v i K → v.getD i 0 ≤ K

theorem level_ok (l : List Sp) {i : Nat} (hi : i < l.length) : LvOK l (levelsR l) i := by
  have e : (levelsR l).getD i 0 = levelAtR l (levelsTR l i) i := by
    unfold levelsR
    rw [← getD_take (Nat.lt_succ_self i), levelsTR_take l _ _ hi, levelsTR, List.getD_eq_getElem?_getD, List.getElem?_append_right (by rw [levelsTR_length]; omega), levelsTR_length]
    simp
  have e2 : ∀ K, fitsL l (levelsTR l i) i K ↔ fitsL l (levelsR l) i K := fun K => by
    unfold fitsL
    refine forall_congr' fun x => forall_congr' fun _ => ?_
    rw [← levelsTR_take l l.length i (by omega), lc_take]
    exact Iff.rfl
  obtain ⟨h1, h2, h3⟩ := levelAtR_spec l (levelsTR l i) i
  rw [← e] at h1 h2 h3
  exact ⟨h1, (e2 _).1 h2, fun K hK hf => h3 K hK ((e2 K).2 hf)⟩

theorem level_le {l : List Sp} (h : Good l) {i : Nat} (hi : i < l.length) : (levelsR l).getD i 0 ≤ depthF l := by
  refine (level_ok l hi).least _ (by have := depth_pos h hi; omega) fun x hx => ?_
  have h1 := depth_max h x
  rw [cnt_idx] at h1
  have := cR_mono_succ (p := fun a => decide ((levelsR l).getD a 0 ≤ (depthF l : Int)) && inS (at_ l a) x) (q := fun a => inS (at_ l a) x) (a := i) (m := i) (n := l.length) (by omega)
    (fun a _ ha => by rw [Bool.and_eq_true] at ha; exact ha.2) hi hx (.inl (Nat.le_refl _))
  show ((cR _ i : Nat) : Int) + 1 ≤ _
  omega

/-- Another interval of the same level that overlaps. -/
def nearB (l : List Sp) (v : List Int) (i k : Nat) : Bool := !(decide (k = i)) && (decide (v.getD k 0 = v.getD i 0) && ovl (at_ l i) (at_ l k))

/-- An integer that no other interval of the same level holds. -/
theorem private_ {l : List Sp} {i : Nat} (hi : i < l.length) (h2 : 2 ≤ (levelsR l).getD i 0) : ∃ x, inS (at_ l i) x = true ∧ ∀ j, j < l.length → j ≠ i → (levelsR l).getD j 0 = (levelsR l).getD i 0 → inS (at_ l j) x = false := by
  have hL := level_ok l hi
  have hno : ¬ fitsL l (levelsR l) i ((levelsR l).getD i 0 - 1) := fun h => by
    have := hL.least _ (by omega) h
    omega
  unfold fitsL at hno
  rw [Classical.not_forall] at hno
  obtain ⟨x, hx⟩ := hno
  rw [Classical.not_forall] at hx
  obtain ⟨hin, hlt⟩ := hx
  have hfit := hL.fit x hin
  refine ⟨x, hin, fun j hj hji hv => ?_⟩
  cases hjx : inS (at_ l j) x with
  | false => rfl
  | true =>
    exfalso
    have hfj := (level_ok l hj).fit x hjx
    unfold lc at hfit hlt hfj
    rw [hv] at hfj
    generalize levelsR l = v at *
    rcases Nat.lt_or_ge j i with hlt2 | hge
    · have := cR_mono_succ (p := fun a => decide (v.getD a 0 ≤ v.getD i 0 - 1) && inS (at_ l a) x) (q := fun a => decide (v.getD a 0 ≤ v.getD i 0) && inS (at_ l a) x) (a := j) (Nat.le_refl i)
        (fun a _ ha => by rw [Bool.and_eq_true, decide_eq_true_eq] at ha ⊢; exact ⟨by omega, ha.2⟩) hlt2 (by rw [hjx, decide_eq_true (by omega)]; rfl) (.inr (by rw [decide_eq_false (by omega)]; rfl))
      omega
    · have := cR_mono_succ (p := fun a => decide (v.getD a 0 ≤ v.getD i 0 - 1) && inS (at_ l a) x) (q := fun a => decide (v.getD a 0 ≤ v.getD i 0) && inS (at_ l a) x) (a := i) (m := i) (n := j) (by omega)
        (fun a _ ha => by rw [Bool.and_eq_true, decide_eq_true_eq] at ha ⊢; exact ⟨by omega, ha.2⟩) (by omega) (by rw [hin, decide_eq_true (by omega)]; rfl) (.inl (Nat.le_refl _))
      omega

theorem near_iff {l : List Sp} {v : List Int} {i k : Nat} : nearB l v i k = true ↔ k ≠ i ∧ v.getD k 0 = v.getD i 0 ∧ ovl (at_ l i) (at_ l k) = true := by
  unfold nearB
  simp

/-- At the first level nothing overlaps. -/
theorem near_one {l : List Sp} {i : Nat} (hi : i < l.length) (h1 : (levelsR l).getD i 0 = 1) : cR (nearB l (levelsR l) i) l.length = 0 := by
  refine cR_zero fun k hk => ?_
  cases hn : nearB l (levelsR l) i k with
  | false => rfl
  | true =>
    exfalso
    obtain ⟨q1, q2, q3⟩ := near_iff.1 hn
    obtain ⟨x, hx, hy⟩ := in_of_ovl q3
    rw [h1] at q2
    rcases Nat.lt_or_ge k i with h | h
    · have hf := (level_ok l hi).fit x hx
      rw [h1] at hf
      have := cR_pos (p := fun a => decide ((levelsR l).getD a 0 ≤ 1) && inS (at_ l a) x) h (by rw [hy, decide_eq_true (by omega)]; rfl)
      unfold lc at hf
      omega
    · have hf := (level_ok l hk).fit x hy
      rw [q2] at hf
      have := cR_pos (p := fun a => decide ((levelsR l).getD a 0 ≤ 1) && inS (at_ l a) x) (show i < k by omega) (by rw [hx, decide_eq_true (by omega)]; rfl)
      unfold lc at hf
      omega

/-- At each level at most two overlap. -/
theorem near_two {l : List Sp} {i : Nat} (hi : i < l.length) : cR (nearB l (levelsR l) i) l.length ≤ 2 := by
  have hL := (level_ok l hi).ge
  rcases Int.lt_or_le ((levelsR l).getD i 0) 2 with h | h
  · rw [near_one hi (by omega)]; omega
  · obtain ⟨x, hx, hpx⟩ := private_ hi h
    rw [inS_iff] at hx
    have hsplit : cR (nearB l (levelsR l) i) l.length ≤ cR (fun k => (nearB l (levelsR l) i k && decide ((at_ l k).2 ≤ x)) || (nearB l (levelsR l) i k && decide (x < (at_ l k).1))) l.length := by
      refine cR_mono (Nat.le_refl _) fun k hk hn => ?_
      obtain ⟨q1, q2, q3⟩ := near_iff.1 hn
      have := hpx k hk q1 q2
      have hno : ¬ ((at_ l k).1 ≤ x ∧ x < (at_ l k).2) := fun h => by rw [inS_iff.2 h] at this; cases this
      rw [hn]
      simp only [Bool.true_and, Bool.or_eq_true, decide_eq_true_eq]
      omega
    have hone : ∀ (a b : Nat), a < l.length → b < l.length → a ≠ b → (levelsR l).getD a 0 = (levelsR l).getD b 0 → 2 ≤ (levelsR l).getD a 0 → True := fun _ _ _ _ _ _ _ => trivial
    refine Nat.le_trans hsplit (Nat.le_trans (cR_or _ _ _) ?_)
    have hleft : cR (fun k => nearB l (levelsR l) i k && decide ((at_ l k).2 ≤ x)) l.length ≤ 1 := by
      refine cR_one fun a b ha hb hna hnb => ?_
      rw [Bool.and_eq_true, decide_eq_true_eq] at hna hnb
      obtain ⟨a1, a2, a3⟩ := near_iff.1 hna.1
      obtain ⟨b1, b2, b3⟩ := near_iff.1 hnb.1
      obtain ⟨y, hy, hpy⟩ := private_ ha (by omega)
      obtain ⟨z, hz, hpz⟩ := private_ hb (by omega)
      rw [ovl_iff] at a3 b3
      rw [inS_iff] at hy hz
      have n1 := hpy i hi (fun e => a1 e.symm) (by omega)
      have n2 := hpz i hi (fun e => b1 e.symm) (by omega)
      have n1' : ¬ ((at_ l i).1 ≤ y ∧ y < (at_ l i).2) := fun h => by rw [inS_iff.2 h] at n1; cases n1
      have n2' : ¬ ((at_ l i).1 ≤ z ∧ z < (at_ l i).2) := fun h => by rw [inS_iff.2 h] at n2; cases n2
      by_cases hab : a = b
      · exact hab
      · exfalso
        rcases Int.le_total y z with hyz | hyz
        · have := hpz a ha hab (by omega)
          rw [inS_iff.2 ⟨by omega, by omega⟩] at this; cases this
        · have := hpy b hb (fun e => hab e.symm) (by omega)
          rw [inS_iff.2 ⟨by omega, by omega⟩] at this; cases this
    have hright : cR (fun k => nearB l (levelsR l) i k && decide (x < (at_ l k).1)) l.length ≤ 1 := by
      refine cR_one fun a b ha hb hna hnb => ?_
      rw [Bool.and_eq_true, decide_eq_true_eq] at hna hnb
      obtain ⟨a1, a2, a3⟩ := near_iff.1 hna.1
      obtain ⟨b1, b2, b3⟩ := near_iff.1 hnb.1
      obtain ⟨y, hy, hpy⟩ := private_ ha (by omega)
      obtain ⟨z, hz, hpz⟩ := private_ hb (by omega)
      rw [ovl_iff] at a3 b3
      rw [inS_iff] at hy hz
      have n1 := hpy i hi (fun e => a1 e.symm) (by omega)
      have n2 := hpz i hi (fun e => b1 e.symm) (by omega)
      have n1' : ¬ ((at_ l i).1 ≤ y ∧ y < (at_ l i).2) := fun h => by rw [inS_iff.2 h] at n1; cases n1
      have n2' : ¬ ((at_ l i).1 ≤ z ∧ z < (at_ l i).2) := fun h => by rw [inS_iff.2 h] at n2; cases n2
      by_cases hab : a = b
      · exact hab
      · exfalso
        rcases Int.le_total y z with hyz | hyz
        · have := hpy b hb (fun e => hab e.symm) (by omega)
          rw [inS_iff.2 ⟨by omega, by omega⟩] at this; cases this
        · have := hpz a ha hab (by omega)
          rw [inS_iff.2 ⟨by omega, by omega⟩] at this; cases this
    omega

theorem trot_ok (l : List Sp) {i : Nat} (hi : i < l.length) : FitOK (startT (levelsR l)) (confT l (levelsR l)) l.length (fun i => (trotR l).getD i 0) i := fit_ok l.length i hi
theorem trot_range {l : List Sp} {i : Nat} (hi : i < l.length) : 0 ≤ (trotR l).getD i 0 ∧ ((levelsR l).getD i 0 = 1 → (trotR l).getD i 0 = 0) ∧
    (2 ≤ (levelsR l).getD i 0 → 3 * (levelsR l).getD i 0 - 5 ≤ (trotR l).getD i 0 ∧ (trotR l).getD i 0 ≤ 3 * (levelsR l).getD i 0 - 3) := by
  have h1 := (trot_ok l hi).ge
  have h2 := (trot_ok l hi).le
  have h3 : cR (confT l (levelsR l) i) i ≤ cR (nearB l (levelsR l) i) l.length := cR_mono (by omega) fun a ha hc => by
    unfold confT at hc
    rw [Bool.and_eq_true, decide_eq_true_eq] at hc
    exact near_iff.2 ⟨by omega, hc.1.symm, hc.2⟩
  have h4 := near_two hi
  have h5 : startT (levelsR l) i = max (3 * (levelsR l).getD i 0 - 5) 0 := rfl
  refine ⟨by omega, fun h => ?_, fun h => ?_⟩
  · have := near_one hi h
    omega
  · omega
theorem trot_proper {l : List Sp} : Prop_ l (trotR l) := by
  intro i hi j hj ho
  have hj' : j < l.length := by omega
  by_cases hv : (levelsR l).getD i 0 = (levelsR l).getD j 0
  · exact ((trot_ok l hi).ne j hj (by unfold confT; rw [decide_eq_true hv]; exact ho)).symm
  · have a1 := trot_range hi
    have a2 := trot_range hj'
    have b1 := (level_ok l hi).ge
    have b2 := (level_ok l hj').ge
    omega

/-! ### C5: prefixes -/

theorem at_take (l : List Sp) {n i : Nat} (h : i < n) : at_ (l.take n) i = at_ l i := by
  unfold at_; simp [List.getD, List.getElem?_take, h]
theorem first_take (l : List Sp) (n : Nat) (h : n ≤ l.length) : firstF (l.take n) = (firstF l).take n := by
  unfold firstF
  rw [fitTo_take l.length n h, show (l.take n).length = n by simp; omega]
  exact fitTo_congr (fun _ _ => rfl) fun i hi a ha => by unfold confF; rw [at_take l hi, at_take l (by omega)]
theorem lowR_take (l : List Sp) (out : List Int) {n i : Nat} (h : i < n) (K : Int) : lowR (l.take n) out i K i = lowR l out i K i := by
  unfold lowR
  rw [at_take l h]
  congr 1
  refine List.map_congr_left fun a ha => at_take l ?_
  have := List.mem_range.1 (List.mem_filter.1 ha).1
  omega
theorem levelsTR_congr (l : List Sp) (n k : Nat) (h : k ≤ n) : levelsTR (l.take n) k = levelsTR l k := by
  induction k with
  | zero => rfl
  | succ k ih =>
    unfold levelsTR
    rw [ih (by omega)]
    unfold levelAtR
    simp only [lowR_take l _ (show k < n by omega), at_take l (show k < n by omega)]
theorem levels_take (l : List Sp) (n : Nat) (h : n ≤ l.length) : levelsR (l.take n) = (levelsR l).take n := by
  unfold levelsR
  rw [levelsTR_take l l.length n h, show (l.take n).length = n by simp; omega]
  exact levelsTR_congr l n n (Nat.le_refl _)
theorem trot_take (l : List Sp) (n : Nat) (h : n ≤ l.length) : trotR (l.take n) = (trotR l).take n := by
  unfold trotR
  rw [fitTo_take l.length n h, show (l.take n).length = n by simp; omega, levels_take l n h]
  refine fitTo_congr (fun i hi => by unfold startT; rw [getD_take hi]) fun i hi a ha => ?_
  unfold confT confF
  rw [at_take l hi, at_take l (by omega), getD_take hi, getD_take (by omega)]

/-! ### C6, C7: what depends on the overlaps alone -/

structure Alike (l m : List Sp) (φ ψ : Int → Int) : Prop where
  len : l.length = m.length
  to : ∀ i, i < l.length → ∀ v, inS (at_ m i) v = inS (at_ l i) (φ v)
  back : ∀ i, i < l.length → ∀ v, inS (at_ l i) v = inS (at_ m i) (ψ v)

section
variable {l m : List Sp} {φ ψ : Int → Int} (h : Alike l m φ ψ)
include h
theorem alike_ovl {i j : Nat} (hi : i < l.length) (hj : j < l.length) : ovl (at_ l i) (at_ l j) = ovl (at_ m i) (at_ m j) := by
  cases h1 : ovl (at_ l i) (at_ l j) with
  | true =>
    obtain ⟨x, a, b⟩ := in_of_ovl h1
    rw [h.back i hi] at a
    rw [h.back j hj] at b
    exact (ovl_of_in a b).symm
  | false =>
    cases h2 : ovl (at_ m i) (at_ m j) with
    | false => rfl
    | true =>
      obtain ⟨x, a, b⟩ := in_of_ovl h2
      rw [h.to i hi] at a
      rw [h.to j hj] at b
      rw [ovl_of_in a b] at h1
      cases h1
theorem alike_depth (hl : Good l) (hm : Good m) : depthF l = depthF m := by
  have c1 : ∀ v, cnt m v = cnt l (φ v) := fun v => by rw [cnt_idx, cnt_idx, ← h.len]; exact cR_congr fun i hi => h.to i hi v
  have c2 : ∀ v, cnt l v = cnt m (ψ v) := fun v => by rw [cnt_idx, cnt_idx, ← h.len]; exact cR_congr fun i hi => h.back i hi v
  obtain ⟨v, e⟩ := depth_at hl
  obtain ⟨w, e'⟩ := depth_at hm
  have a := depth_max hm (ψ v)
  have b := depth_max hl (φ w)
  rw [← c2] at a
  rw [← c1] at b
  omega
theorem alike_first : firstF l = firstF m := by
  unfold firstF
  rw [h.len]
  exact fitTo_congr (fun _ _ => rfl) fun i hi a ha => alike_ovl h (by rw [h.len]; exact hi) (by rw [h.len]; omega)
theorem alike_fits {out : List Int} {i : Nat} (hi : i < l.length) (K : Int) : fitsL l out i K ↔ fitsL m out i K := by
  have c1 : ∀ v, lc m out K i v = lc l out K i (φ v) := fun v => cR_congr fun a ha => by rw [h.to a (by omega)]
  have c2 : ∀ v, lc l out K i v = lc m out K i (ψ v) := fun v => cR_congr fun a ha => by rw [h.back a (by omega)]
  constructor
  · intro hf x hx
    rw [h.to i hi] at hx
    have := hf _ hx
    rw [c1]; exact this
  · intro hf x hx
    rw [h.back i hi] at hx
    have := hf _ hx
    rw [c2]; exact this
theorem alike_levels : levelsR l = levelsR m := by
  have : ∀ k, k ≤ l.length → levelsTR l k = levelsTR m k := by
    intro k
    induction k with
    | zero => intro _; rfl
    | succ k ih =>
      intro hk
      unfold levelsTR
      rw [ih (by omega)]
      obtain ⟨a1, a2, a3⟩ := levelAtR_spec l (levelsTR m k) k
      obtain ⟨b1, b2, b3⟩ := levelAtR_spec m (levelsTR m k) k
      have := a3 _ b1 ((alike_fits h (by omega) _).2 b2)
      have := b3 _ a1 ((alike_fits h (by omega) _).1 a2)
      congr 2
      omega
  unfold levelsR
  rw [this _ (Nat.le_refl _), h.len]
theorem alike_trot : trotR l = trotR m := by
  unfold trotR
  rw [alike_levels h, h.len]
  refine fitTo_congr (fun _ _ => rfl) fun i hi a ha => ?_
  unfold confT confF
  rw [alike_ovl h (by rw [h.len]; exact hi) (by rw [h.len]; omega)]
end

theorem at_map (f : Sp → Sp) (l : List Sp) {i : Nat} (h : i < l.length) : at_ (l.map f) i = f (at_ l i) := by
  unfold at_; simp [List.getD, h]
def mir (s : Sp) : Sp := (1000 - s.2, 1000 - s.1)
def str (m : Int) (s : Sp) : Sp := (s.1 * m, s.2 * m)
theorem alike_mir (l : List Sp) : Alike l (l.map mir) (fun v => 999 - v) (fun v => 999 - v) where
  len := by simp
  to i hi v := by rw [at_map _ l hi]; unfold mir inS; simp only; rw [Bool.and_comm]; congr 1 <;> exact decide_eq_decide.2 (by omega)
  back i hi v := by rw [at_map _ l hi]; unfold mir inS; simp only; rw [Bool.and_comm]; congr 1 <;> exact decide_eq_decide.2 (by omega)
theorem alike_str (l : List Sp) (k : Int) (hk : 0 < k) : Alike l (l.map (str k)) (fun v => v / k) (fun v => v * k) where
  len := by simp
  to i hi v := by
    rw [at_map _ l hi]; unfold str inS; simp only
    congr 1
    · exact decide_eq_decide.2 (Int.le_ediv_iff_mul_le hk).symm
    · exact decide_eq_decide.2 (Int.ediv_lt_iff_lt_mul hk).symm
  back i hi v := by
    rw [at_map _ l hi]; unfold str inS; simp only
    congr 1
    · exact decide_eq_decide.2 (Int.mul_le_mul_right hk).symm
    · exact decide_eq_decide.2 (Int.mul_lt_mul_right hk).symm

/-! ### C8 -/

theorem atF_sorted (l : List Sp) (x : Int) : (atF l x).Pairwise (· < ·) := by
  unfold atF
  rw [List.pairwise_map]
  exact List.Pairwise.imp (fun h => Int.ofNat_lt.2 h) (List.Pairwise.filter _ List.pairwise_lt_range)
theorem atF_mem {l : List Sp} {x : Int} {i : Int} (h : i ∈ atF l x) : ∃ k : Nat, i = k ∧ k < l.length ∧ inS (at_ l k) x = true := by
  unfold atF at h
  obtain ⟨k, hk, e⟩ := List.mem_map.1 h
  rw [List.mem_filter, List.mem_range] at hk
  exact ⟨k, e.symm, hk.1, hk.2⟩
theorem atF_rising (l : List Sp) (x : Int) : risingF l.length (atF l x) = true := by
  unfold risingF
  rw [List.all_eq_true]
  intro j hj
  rw [List.mem_range] at hj
  obtain ⟨k, e, h1, _⟩ := atF_mem (getD_in (d := 0) hj)
  unfold riseOK
  have h2 : j = 0 ∨ (atF l x).getD (j - 1) 0 < (atF l x).getD j 0 := by
    rcases Nat.eq_zero_or_pos j with h | h
    · exact .inl h
    · have := List.pairwise_iff_getElem.1 (atF_sorted l x) (j - 1) j (by omega) hj (by omega)
      rw [List.getD_eq_getElem?_getD, List.getD_eq_getElem?_getD, List.getElem?_eq_getElem hj, List.getElem?_eq_getElem (by omega)]
      exact .inr this
  rw [e] at h2 ⊢
  simp
  refine ⟨by omega, ?_⟩
  simpa using h2
theorem deep_atF {l : List Sp} (h : Good l) (hne : l ≠ []) : (deepF l).2 = atF l (deepF l).1 := by
  rcases (deepF_spec l h.mem).one with ⟨h1, _⟩ | ⟨s, _, e⟩
  · exact absurd h1 hne
  · rw [e]
end Go.SX.Sh
