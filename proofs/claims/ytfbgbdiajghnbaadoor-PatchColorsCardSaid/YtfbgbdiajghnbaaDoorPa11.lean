/- Chapter 06, part 11: the law PatchColors; the plain law behind it. -/
import Derived.Test.YtfbgbdiajghnbaaDoorPa10Q
namespace Go.SX.Pa
open Go Go.Proofs

/-! ### The two searches are one -/
theorem touch_append (es : List Ed) (l : List Int) (c : Int) {i j : Nat} (hi : i < l.length) (hj : j < l.length) : touch es (l ++ [c]) i j = touch es l i j := by
  unfold touch
  apply decide_eq_decide.2
  simp only [List.getD, List.getElem?_append_left hi, List.getElem?_append_left hj]
theorem clash_append (es : List Ed) (l : List Int) (c : Int) {i : Nat} (hi : i < l.length) : clashF es (l ++ [c]) i = clashF es l i := by
  unfold clashF
  apply Bool.eq_iff_iff.2
  rw [List.any_eq_true, List.any_eq_true]
  constructor
  · rintro ⟨j, hj, h⟩
    rw [touch_append es l c hi (by have := List.mem_range.1 hj; omega)] at h
    exact ⟨j, hj, h⟩
  · rintro ⟨j, hj, h⟩
    refine ⟨j, hj, ?_⟩
    rw [touch_append es l c hi (by have := List.mem_range.1 hj; omega)]
    exact h
theorem proper_append (es : List Ed) (l : List Int) (c : Int) (h : properF es l = true) : properF es (l ++ [c]) = !clashF es (l ++ [c]) l.length := by
  unfold properF at h ⊢
  rw [List.length_append, List.length_singleton, List.range_succ, List.all_append]
  have : (List.range l.length).all (fun i => !clashF es (l ++ [c]) i) = true := by
    rw [List.all_eq_true] at h ⊢
    intro i hi
    rw [clash_append es l c (List.mem_range.1 hi)]
    exact h i hi
  rw [this]
  simp
theorem ref_ext (es : List Ed) (m : Nat) : (f : Nat) → (l : List Int) → properF es l = true → refG es m f l = extF es m f l
  | 0, l, h => by unfold refG extF; rw [if_pos h]
  | f + 1, l, h => by
    unfold refG extF
    rw [if_pos h]
    congr 1
    funext c
    have hp := proper_append es l (c : Int) h
    cases hc : clashF es (l ++ [(c : Int)]) l.length with
    | true =>
      rw [hc] at hp
      rw [if_pos rfl]
      cases f with
      | zero => unfold refG; rw [hp]; rfl
      | succ n => unfold refG; rw [hp]; rfl
    | false =>
      rw [hc] at hp
      rw [if_neg (by decide)]
      exact ref_ext es m f _ hp
theorem refC_nil (es : List Ed) (m : Int) : refC es m [] = extR es m [] := ref_ext es m.toNat _ [] rfl

/-! ### The greatest degree -/
theorem degR_le (es : List Ed) (x : Int) : (n : Nat) → (degR es n ≤ x ↔ 0 ≤ x ∧ ∀ v, v < n → cntA es v ≤ x ∧ cntB es v ≤ x)
  | 0 => by simp [degR]
  | n + 1 => by
    have ih := degR_le es x n
    unfold degR
    constructor
    · intro h
      have h1 : degR es n ≤ x := by omega
      obtain ⟨h2, h3⟩ := ih.1 h1
      refine ⟨h2, fun v hv => ?_⟩
      rcases Nat.lt_succ_iff_lt_or_eq.1 hv with h4 | h4
      · exact h3 v h4
      · subst h4; omega
    · rintro ⟨h1, h2⟩
      have h3 := ih.2 ⟨h1, fun v hv => h2 v (by omega)⟩
      have h4 := h2 n (by omega)
      omega
theorem degTo_degR (es : List Ed) (hb : ∀ e ∈ es, (0 ≤ e.1 ∧ e.1 < 6) ∧ 0 ≤ e.2 ∧ e.2 < 6) : (k : Nat) → k ≤ es.length → (degTo es k).2.2 = degR (es.take k) 6
  | 0, _ => by simp [degTo, degR, cntA, cntB]
  | k + 1, h => by
    have ih := degTo_degR es hb k (by omega)
    have hk : k < es.length := by omega
    have he := hb _ (getD_mem es (0, 0) hk)
    have la := (degTo_look es (es.getD k (0, 0)).1 (k + 1) h).1
    have lb := (degTo_look es (es.getD k (0, 0)).2 (k + 1) h).2
    rw [degTo_succ es k hk] at la lb ⊢
    have cA := fun v => cntA_succ es v k hk
    have cB := fun v => cntB_succ es v k hk
    obtain ⟨A, hA⟩ : ∃ A : Nat, (es.getD k (0, 0)).1 = (A : Int) := ⟨(es.getD k (0, 0)).1.toNat, by omega⟩
    obtain ⟨B, hB⟩ : ∃ B : Nat, (es.getD k (0, 0)).2 = (B : Int) := ⟨(es.getD k (0, 0)).2.toNat, by omega⟩
    have eA : (((es.take (k + 1)).countP fun e => decide (e.1 = (es.getD k (0, 0)).1) : Nat) : Int) = cntA (es.take (k + 1)) A := by unfold cntA; rw [hA]
    have eB : (((es.take (k + 1)).countP fun e => decide (e.2 = (es.getD k (0, 0)).2) : Nat) : Int) = cntB (es.take (k + 1)) B := by unfold cntB; rw [hB]
    rw [eA] at la
    rw [eB] at lb
    have hAB : A < 6 ∧ B < 6 := by omega
    have hst : (degStep (degTo es k) (es.getD k (0, 0))).2.2 = max (max (degTo es k).2.2 (cntA (es.take (k + 1)) A)) (cntB (es.take (k + 1)) B) := by
      rw [← la, ← lb]; rfl
    rw [hst, ih]
    have D1 := (degR_le (es.take (k + 1)) (degR (es.take (k + 1)) 6) 6).1 (Int.le_refl _)
    have D0 := (degR_le (es.take k) (degR (es.take k) 6) 6).1 (Int.le_refl _)
    apply Int.le_antisymm
    · have m0 : degR (es.take k) 6 ≤ degR (es.take (k + 1)) 6 := (degR_le _ _ 6).2 ⟨D1.1, fun v hv => by
        have h1 := D1.2 v hv
        rw [cA v, cB v] at h1
        split at h1 <;> split at h1 <;> omega⟩
      have h1 := (D1.2 A hAB.1).1
      have h2 := (D1.2 B hAB.2).2
      omega
    · refine (degR_le _ _ 6).2 ⟨by omega, fun v hv => ?_⟩
      have h0 := D0.2 v hv
      have h1 := cA v
      have h2 := cB v
      constructor
      · by_cases e : v = A
        · subst e; omega
        · rw [if_neg (by omega)] at h1; omega
      · by_cases e : v = B
        · subst e; omega
        · rw [if_neg (by omega)] at h2; omega
theorem degF_degR (es : List Ed) (hb : ∀ e ∈ es, (0 ≤ e.1 ∧ e.1 < 6) ∧ 0 ≤ e.2 ∧ e.2 < 6) : degF es = degR es 6 := by
  have := degTo_degR es hb es.length (Nat.le_refl _)
  rw [List.take_length] at this
  exact this
theorem colF_refC (es : List Ed) (hb : ∀ e ∈ es, (0 ≤ e.1 ∧ e.1 < 6) ∧ 0 ≤ e.2 ∧ e.2 < 6) : colF es (degF es) = refC es (degR es 6) [] := by
  unfold colF
  rw [if_pos (Int.le_refl _), refC_nil, degF_degR es hb]

noncomputable section
@[reducible] def p4 : PC := ⟨4, [aI, aI, aEds], [aB], fun _ => True, fun _ => true⟩
def g4 (a c : Int) (es : List Ed) : Prop := p4.VC (cx [p26.ci, p27.ci, p25.ci, p30.ci, n29.ci, p28.ci] []) Tryd.f4 (a, c, es)
end
end Go.SX.Pa
