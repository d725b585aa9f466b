/- Stable sorting in plain words: rotations, merging in place. -/
import Derived.Test.YtmbbalghofbnbaaShS
namespace Go.SX.Sh
open List

def rotF (xs : List Int) (a m b : Nat) : List Int := xs.take a ++ (seg xs m b ++ (seg xs a m ++ xs.drop b))
theorem rot_getD {xs : List Int} {a m b : Nat} (h1 : a ≤ m) (h2 : m ≤ b) (h3 : b ≤ xs.length) (p : Nat) :
    (rotF xs a m b).getD p 0 = if p < a then xs.getD p 0 else if p < a + (b - m) then xs.getD (p + m - a) 0 else if p < b then xs.getD (p + m - b) 0 else xs.getD p 0 := by
  have l1 : (xs.take a).length = a := by simp; omega
  have l2 := seg_len xs m b h3
  have l3 := seg_len xs a m (by omega)
  unfold rotF
  by_cases c1 : p < a
  · rw [if_pos c1, List.getD_eq_getElem?_getD, List.getElem?_append_left (by omega), ← List.getD_eq_getElem?_getD, getD_take c1]
  · rw [if_neg c1, List.getD_eq_getElem?_getD, List.getElem?_append_right (by omega), l1]
    by_cases c2 : p < a + (b - m)
    · rw [if_pos c2, List.getElem?_append_left (by omega), ← List.getD_eq_getElem?_getD, seg_getD _ _ _ _ (by omega)]
      congr 1; omega
    · rw [if_neg c2, List.getElem?_append_right (by omega), l2]
      by_cases c3 : p < b
      · rw [if_pos c3, List.getElem?_append_left (by omega), ← List.getD_eq_getElem?_getD, seg_getD _ _ _ _ (by omega)]
        congr 1; omega
      · rw [if_neg c3, List.getElem?_append_right (by omega), l3, List.getElem?_drop, ← List.getD_eq_getElem?_getD]
        congr 1; omega
theorem rot_len {xs : List Int} {a m b : Nat} (h1 : a ≤ m) (h2 : m ≤ b) (h3 : b ≤ xs.length) : (rotF xs a m b).length = xs.length := by
  have l2 := seg_len xs m b h3
  have l3 := seg_len xs a m (by omega)
  unfold rotF
  rw [List.length_append, List.length_append, List.length_append, l2, l3]
  simp
  omega
theorem rot_seg {xs : List Int} {a m b : Nat} (h1 : a ≤ m) (h2 : m ≤ b) (h3 : b ≤ xs.length) : SegOK xs (rotF xs a m b) a b := by
  refine ⟨rot_len h1 h2 h3, ?_, fun p hp => ?_⟩
  · have e : xs = xs.take a ++ (seg xs a m ++ (seg xs m b ++ xs.drop b)) := by
      have e1 := split_seg xs a m h1
      have e2 : xs.drop m = seg xs m b ++ xs.drop b := by
        unfold seg
        have : xs.drop b = (xs.drop m).drop (b - m) := by rw [List.drop_drop]; congr 1; omega
        rw [this, List.take_append_drop]
      rw [← e2]
      exact e1
    have : rotF xs a m b ~ xs.take a ++ (seg xs a m ++ (seg xs m b ++ xs.drop b)) := (List.perm_append_comm_assoc _ _ _).append_left _
    rwa [← e] at this
  · rw [rot_getD h1 h2 h3]
    rcases hp with hp | hp
    · rw [if_pos hp]
    · rw [if_neg (by omega), if_neg (by omega), if_neg (by omega)]

theorem rot_step1 {ys : List Int} {l m i j : Nat} (hl : l + i = m) (hj : 0 < j) (hij : j < i) (hb : m + j ≤ ys.length) : rotF (swapR ys l m j) (l + j) m (m + j) = rotF ys l m (m + j) := by
  refine ext_getD (by rw [rot_len (by omega) (by omega) (by rw [swapR_len]; exact hb), rot_len (by omega) (by omega) hb, swapR_len]) fun p _ => ?_
  rw [rot_getD (by omega) (by omega) (by rw [swapR_len]; exact hb), rot_getD (by omega) (by omega) hb, swapR_getD _ _ _ _ (by omega) (by omega), swapR_getD _ _ _ _ (by omega) (by omega), swapR_getD _ _ _ _ (by omega) (by omega)]
  (repeat' split) <;> first | rfl | (exfalso; omega) | (congr 1; omega)
theorem rot_step2 {ys : List Int} {l m i j : Nat} (hl : l + i = m) (hi : 0 < i) (hij : i < j) (hb : m + j ≤ ys.length) : rotF (swapR ys l (m + j - i) i) l m (m + (j - i)) = rotF ys l m (m + j) := by
  refine ext_getD (by rw [rot_len (by omega) (by omega) (by rw [swapR_len]; omega), rot_len (by omega) (by omega) hb, swapR_len]) fun p _ => ?_
  rw [rot_getD (by omega) (by omega) (by rw [swapR_len]; omega), rot_getD (by omega) (by omega) hb, swapR_getD _ _ _ _ (by omega) (by omega), swapR_getD _ _ _ _ (by omega) (by omega), swapR_getD _ _ _ _ (by omega) (by omega)]
  (repeat' split) <;> first | rfl | (exfalso; omega) | (congr 1; omega)
theorem rot_final {ys : List Int} {l m i : Nat} (hl : l + i = m) (hb : m + i ≤ ys.length) : swapR ys l m i = rotF ys l m (m + i) := by
  refine ext_getD (by rw [rot_len (by omega) (by omega) hb, swapR_len]) fun p _ => ?_
  rw [rot_getD (by omega) (by omega) hb, swapR_getD _ _ _ _ (by omega) (by omega)]
  (repeat' split) <;> first | rfl | (exfalso; omega) | (congr 1; omega)
theorem rot_nil {xs : List Int} {a m b : Nat} (h1 : a ≤ m) (h2 : m ≤ b) (h3 : b ≤ xs.length) (h : a = m ∨ m = b) : rotF xs a m b = xs := by
  refine ext_getD (rot_len h1 h2 h3) fun p _ => ?_
  rw [rot_getD h1 h2 h3]
  (repeat' split) <;> first | rfl | (congr 1; omega)
/-- One element goes up, one place after the other. -/
theorem rot_up {xs : List Int} {a i : Nat} (h : a + 1 ≤ i) (hi : i < xs.length) : swp (rotF xs a (a + 1) i) (i - 1) i = rotF xs a (a + 1) (i + 1) := by
  have hl : (rotF xs a (a + 1) i).length = xs.length := rot_len (by omega) h (by omega)
  refine ext_getD (by rw [swp_len, hl, rot_len (by omega) (by omega) (by omega)]) fun p _ => ?_
  rw [swp_getD _ (by omega) (by omega), rot_getD (by omega) h (by omega), rot_getD (by omega) h (by omega), rot_getD (by omega) h (by omega), rot_getD (by omega) (by omega) (by omega)]
  (repeat' split) <;> first | rfl | (exfalso; omega) | (congr 1; omega)
theorem rot_down {xs : List Int} {i m : Nat} (h : i < m) (hm : m < xs.length) : swp (rotF xs (i + 1) m (m + 1)) (i + 1) i = rotF xs i m (m + 1) := by
  have hl : (rotF xs (i + 1) m (m + 1)).length = xs.length := rot_len (by omega) (by omega) (by omega)
  refine ext_getD (by rw [swp_len, hl, rot_len (by omega) (by omega) (by omega)]) fun p _ => ?_
  rw [swp_getD _ (by omega) (by omega), rot_getD (by omega) (by omega) (by omega), rot_getD (by omega) (by omega) (by omega), rot_getD (by omega) (by omega) (by omega), rot_getD (by omega) (by omega) (by omega)]
  (repeat' split) <;> first | rfl | (exfalso; omega) | (congr 1; omega)

/-! ### Merging -/

section
variable {sp : List Sp} {xs : List Int} {a m b s e mid : Nat}

theorem sorted_le (h : SortedOn sp xs a b) {p q : Nat} (h1 : a ≤ p) (h2 : p ≤ q) (h3 : q < b) : leB sp (xs.getD p 0) (xs.getD q 0) = true := by
  rcases Nat.lt_or_eq_of_le h2 with h5 | h4
  · exact h p q h1 h5 h3
  · subst h4; exact leB_refl _ _

/-- A rotation that leaves the whole sorted. -/
theorem rot_sorted (h0 : a ≤ s) (h1 : s ≤ m) (h2 : m ≤ e) (h3 : e ≤ b) (h4 : b ≤ xs.length) (hL : SortedOn sp xs a m) (hR : SortedOn sp xs m b)
    (c1 : ∀ p q, a ≤ p → p < s → m ≤ q → q < b → leB sp (xs.getD p 0) (xs.getD q 0) = true) (c2 : ∀ p q, s ≤ p → p < m → m ≤ q → q < e → leB sp (xs.getD q 0) (xs.getD p 0) = true)
    (c3 : ∀ p q, s ≤ p → p < m → e ≤ q → q < b → leB sp (xs.getD p 0) (xs.getD q 0) = true) : SortedOn sp (rotF xs s m e) a b := by
  intro p q hp hpq hq
  rw [rot_getD h1 h2 (by omega), rot_getD h1 h2 (by omega)]
  (repeat' split) <;> first | (exfalso; omega) | exact hL _ _ (by omega) (by omega) (by omega) | exact hR _ _ (by omega) (by omega) (by omega) | exact c1 _ _ (by omega) (by omega) (by omega) (by omega) | exact c2 _ _ (by omega) (by omega) (by omega) (by omega) | exact c3 _ _ (by omega) (by omega) (by omega) (by omega)

theorem rot_stab (h0 : a ≤ s) (h1 : s ≤ m) (h2 : m ≤ e) (h3 : e ≤ b) (h4 : b ≤ xs.length) (hS : Stab sp xs a b)
    (c2 : ∀ p q, s ≤ p → p < m → m ≤ q → q < e → leB sp (xs.getD q 0) (xs.getD p 0) = true) : Stab sp (rotF xs s m e) a b := by
  intro p q hp hpq hq
  rw [rot_getD h1 h2 (by omega), rot_getD h1 h2 (by omega)]
  intro hk
  by_cases hx : (s ≤ p ∧ p < s + (e - m)) ∧ (s + (e - m) ≤ q ∧ q < e)
  · rw [if_neg (by omega), if_pos (by omega), if_neg (by omega), if_neg (by omega), if_pos (by omega)] at hk ⊢
    have k1 := c2 (q + m - e) (p + m - s) (by omega) (by omega) (by omega) (by omega)
    have k2 := hS (q + m - e) (p + m - s) (by omega) (by omega) (by omega) hk.symm
    rw [leB_iff] at k1
    omega
  · revert hk
    (repeat' split) <;> intro hk <;> first | (exfalso; omega) | exact hS _ _ (by omega) (by omega) (by omega) hk

theorem sub_sorted {lo hi : Nat} (h : SortedOn sp xs a b) (h1 : a ≤ lo) (h2 : hi ≤ b) : SortedOn sp xs lo hi := fun p q hp hpq hq => h p q (by omega) hpq (by omega)
theorem sub_stab {lo hi : Nat} (h : Stab sp xs a b) (h1 : a ≤ lo) (h2 : hi ≤ b) : Stab sp xs lo hi := fun p q hp hpq hq => h p q (by omega) hpq (by omega)
theorem sorted_same {ys : List Int} (h : SortedOn sp xs a b) (he : ∀ p, a ≤ p → p < b → ys.getD p 0 = xs.getD p 0) : SortedOn sp ys a b := fun p q hp hpq hq => by rw [he p hp (by omega), he q (by omega) hq]; exact h p q hp hpq hq

/-- The two parts of a merge. -/
theorem merge_rot (h0 : a ≤ s) (h1 : s ≤ m) (h2 : m ≤ e) (h3 : e ≤ b) (h4 : b ≤ xs.length) (hse : s + e = mid + m) (hL : SortedOn sp xs a m) (hR : SortedOn sp xs m b) (hS : Stab sp xs a b)
    (k1 : a < s → e < b → leB sp (xs.getD (s - 1) 0) (xs.getD e 0) = true) (k2 : s < m → m < e → leB sp (xs.getD (e - 1) 0) (xs.getD s 0) = true) :
    SortedOn sp (rotF xs s m e) a s ∧ SortedOn sp (rotF xs s m e) s mid ∧ Stab sp (rotF xs s m e) a b ∧
    SortedOn sp (sortSeg sp (rotF xs s m e) a mid) mid e ∧ SortedOn sp (sortSeg sp (rotF xs s m e) a mid) e b ∧ Stab sp (sortSeg sp (rotF xs s m e) a mid) a b ∧
    sortSeg sp (sortSeg sp (rotF xs s m e) a mid) mid b = sortSeg sp xs a b := by
  have hm : s ≤ mid ∧ mid ≤ e := by omega
  have hl : (rotF xs s m e).length = xs.length := rot_len h1 h2 (by omega)
  have g := rot_getD h1 h2 (show e ≤ xs.length by omega)
  have c2 : ∀ p q, s ≤ p → p < m → m ≤ q → q < e → leB sp (xs.getD q 0) (xs.getD p 0) = true := fun p q q1 q2 q3 q4 =>
    leB_trans (leB_trans (sorted_le hR q3 (show q ≤ e - 1 by omega) (by omega)) (k2 (by omega) (by omega))) (sorted_le hL h0 q1 q2)
  have hst := rot_stab h0 h1 h2 h3 h4 hS c2
  have s1 : SortedOn sp (rotF xs s m e) a s := fun p q hp hpq hq => by rw [g, g, if_pos (by omega), if_pos hq]; exact hL p q hp hpq (by omega)
  have s2 : SortedOn sp (rotF xs s m e) s mid := fun p q hp hpq hq => by
    rw [g, g, if_neg (by omega), if_pos (by omega), if_neg (by omega), if_pos (by omega)]; exact hR _ _ (by omega) (by omega) (by omega)
  have s3 : SortedOn sp (rotF xs s m e) mid e := fun p q hp hpq hq => by
    rw [g, g, if_neg (by omega), if_neg (by omega), if_pos (by omega), if_neg (by omega), if_neg (by omega), if_pos (by omega)]; exact hL _ _ (by omega) (by omega) (by omega)
  have s4 : SortedOn sp (rotF xs s m e) e b := fun p q hp hpq hq => by
    rw [g, g, if_neg (by omega), if_neg (by omega), if_neg (by omega), if_neg (by omega), if_neg (by omega), if_neg (by omega)]; exact hR _ _ (by omega) (by omega) (by omega)
  obtain ⟨q1, q2⟩ := sortSeg_ok sp (xs := rotF xs s m e) (show a ≤ mid by omega) (by rw [hl]; omega)
  have hl1 : (sortSeg sp (rotF xs s m e) a mid).length = xs.length := by rw [q1.len, hl]
  obtain ⟨r1, r2⟩ := sortSeg_ok sp (xs := sortSeg sp (rotF xs s m e) a mid) (show mid ≤ b by omega) (by rw [hl1]; exact h4)
  refine ⟨s1, s2, hst, sorted_same s3 fun p hp _ => q1.out p (.inr hp), sorted_same s4 fun p hp _ => q1.out p (.inr (by omega)), stab_sortSeg (by omega) (by rw [hl]; omega) (Nat.le_refl a) (show mid ≤ b by omega) hst, ?_⟩
  refine seg_unique (by omega) h4 (((rot_seg h1 h2 (by omega)).wide h0 h3).trans ((q1.wide (Nat.le_refl _) (by omega)).trans (r1.wide (by omega) (Nat.le_refl _)))) fun p q hp hpq hq => ?_
  by_cases c : mid ≤ p
  · exact r2 p q c hpq hq
  · rw [r1.out p (.inl (by omega))]
    by_cases c' : q < mid
    · rw [r1.out q (.inl c')]
      exact q2 p q hp hpq c'
    · obtain ⟨u, u1, u2, u3⟩ := q1.within (by omega) (by rw [hl]; omega) hp (by omega : p < mid)
      obtain ⟨v, v1, v2, v3⟩ := r1.within (by omega) (by rw [hl1]; exact h4) (show mid ≤ q by omega) hq
      rw [u3, v3, q1.out v (.inr v1), g, g]
      by_cases d1 : u < s
      · rw [if_pos d1]
        by_cases d2 : v < e
        · rw [if_neg (by omega), if_neg (by omega), if_pos d2]
          exact hL _ _ u1 (by omega) (by omega)
        · rw [if_neg (by omega), if_neg (by omega), if_neg d2]
          exact leB_trans (leB_trans (sorted_le hL u1 (show u ≤ s - 1 by omega) (by omega)) (k1 (by omega) (by omega))) (sorted_le hR h2 (by omega) v2)
      · rw [if_neg d1, if_pos (by omega)]
        by_cases d2 : v < e
        · rw [if_neg (by omega), if_neg (by omega), if_pos d2]
          exact c2 _ _ (by omega) (by omega) (by omega) (by omega)
        · rw [if_neg (by omega), if_neg (by omega), if_neg d2]
          exact hR _ _ (by omega) (by omega) v2

/-- Comparing keys across the halves. -/
theorem cross_le (hS : Stab sp xs a b) {p q : Nat} (h1 : a ≤ p) (h2 : p < q) (h3 : q < b) (h : ¬ kf sp (xs.getD q 0) < kf sp (xs.getD p 0)) : leB sp (xs.getD p 0) (xs.getD q 0) = true := by
  rw [leB_iff]
  have := hS p q h1 h2 h3
  omega
theorem cross_lt {p q : Nat} (h : kf sp (xs.getD q 0) < kf sp (xs.getD p 0)) : leB sp (xs.getD q 0) (xs.getD p 0) = true := by rw [leB_iff]; exact .inl h
end
end Go.SX.Sh
