/- Chapter 03: the library's stable sort: swaps, rotations, insertion. -/
import Derived.Test.YtmbbalghofbnbaaS6Q
import Derived.Test.YtmbbalghofbnbaaS8E
namespace Go.SX.Sh
open Go Go.Proofs

theorem ok68 : HeapOK Try.prog c68 := heap_flat (c := c68) (fn := Try.f68) rfl (by decide +kernel) rfl (fun _ => ⟨trivial, trivial⟩) C68 (fun _ => cx0) fun x hx => by
  obtain ⟨xs, a, b, n⟩ := x
  obtain ⟨⟨h1, h2, h3⟩, h4, h5⟩ : (0 ≤ a ∧ 0 ≤ n ∧ a + n ≤ b) ∧ b + n ≤ xs.length ∧ xs.length ≤ 1000 := hx
  refine (g68_eq xs a b n).mpr ?_
  simp only [pp1, eq_self, and_true, true_and, and_self, Int.toNat_natCast, List.drop_zero]
  refine ⟨⟨0, by omega, rfl, rfl⟩, fun k hk => ⟨fun hlt => ?_, fun hge => ?_⟩⟩
  · have hl := swapR_len xs a.toNat b.toNat k
    have e1 : (a + (k : Int)).toNat = a.toNat + k := by omega
    have e2 : (b + (k : Int)).toNat = b.toNat + k := by omega
    have f1 : Fits .i64 (a + (k : Int)) := fits_i64 (by omega) (by omega)
    have f2 : Fits .i64 (b + (k : Int)) := fits_i64 (by omega) (by omega)
    have f3 : Fits .i64 ((k : Int) + 1) := fits_nat (by omega)
    have d1 : 0 ≤ a + (k : Int) ∧ a + (k : Int) < ((swapR xs a.toNat b.toNat k).length : Int) := by omega
    have d2 : 0 ≤ b + (k : Int) ∧ b + (k : Int) < ((swapR xs a.toNat b.toNat k).length : Int) := by omega
    have fin : ∃ x', x' ≤ n.toNat ∧ n.toNat - x' < n.toNat - k ∧ ((swapR xs a.toNat b.toNat k).set (a.toNat + k) ((swapR xs a.toNat b.toNat k).getD (b.toNat + k) 0)).set (b.toNat + k) ((swapR xs a.toNat b.toNat k).getD (a.toNat + k) 0) = swapR xs a.toNat b.toNat x' ∧ (k : Int) + 1 = (x' : Int) :=
      ⟨k + 1, by omega, by omega, rfl, by omega⟩
    simp only [List.length_set, e1, e2, f1, f2, f3, d1, d2, fin, and_self]
  · have e : k = n.toNat := by omega
    rw [e]

theorem ok67 : HeapOK Try.prog c67 := heap_flat (c := c67) (fn := Try.f67) rfl (by decide +kernel) rfl (fun _ => ⟨trivial, trivial⟩) C67 (fun _ => cx1 (HeapOK.ci ok68 (fun _ => ⟨trivial, trivial⟩) (by
    intro args H K h
    unfold pick68 at h
    split at h
    · obtain ⟨xs, h⟩ := rowI_ex h; exact ⟨_, _, h⟩
    · exact h.elim))) fun x hx => by
  obtain ⟨xs, a, m, b⟩ := x
  obtain ⟨⟨h1, h2, h3⟩, h4, h5⟩ : (0 ≤ a ∧ a < m ∧ m < b) ∧ b ≤ xs.length ∧ xs.length ≤ 1000 := hx
  refine (g67_eq xs a m b).mpr ?_
  simp only [pp1, eq_self, and_true, true_and, and_self, Int.toNat_natCast, List.drop_zero]
  refine ⟨fits_i64 (by omega) (by omega), fits_i64 (by omega) (by omega), ⟨(m.toNat - a.toNat, b.toNat - m.toNat, xs), ⟨⟨by simp only; omega, by simp only; omega, Nat.le_refl _, Nat.le_refl _⟩, rfl, ?_⟩, rfl, by simp only; omega, by simp only; omega⟩, ?_⟩
  · simp only
    rw [show m.toNat - (m.toNat - a.toNat) = a.toNat by omega, show m.toNat + (b.toNat - m.toNat) = b.toNat by omega]
  · rintro ⟨i, j, ys⟩ ⟨⟨i0, j0, i1, j1⟩, hl, hr⟩
    simp only at i0 j0 i1 j1 hl hr ⊢
    have hm : (m.toNat : Int) = m := by omega
    have e1 : (m - (i : Int)).toNat = m.toNat - i := by omega
    refine ⟨fun hne => ⟨fun hlt => ⟨fits_i64 (by omega) (by omega), by omega, fits_i64 (by omega) (by omega), (i - j, j, swapR ys (m.toNat - i) m.toNat j), ⟨⟨by simp only; omega, by simp only; omega, by simp only; omega, by simp only; omega⟩, ?_, ?_⟩, by simp only; omega, by rw [e1], by simp only; omega, rfl⟩,
      fun hge => ⟨fits_i64 (by omega) (by omega), fits_i64 (by omega) (by omega), fits_i64 (by omega) (by omega), by omega, fits_i64 (by omega) (by omega), (i, j - i, swapR ys (m.toNat - i) (m.toNat + j - i) i), ⟨⟨by simp only; omega, by simp only; omega, by simp only; omega, by simp only; omega⟩, ?_, ?_⟩, by simp only; omega, ?_, rfl, by simp only; omega⟩⟩,
      fun heq => ⟨fits_i64 (by omega) (by omega), by omega, ?_⟩⟩
    · simp only; rw [swapR_len, hl]
    · simp only
      rw [show m.toNat - (i - j) = m.toNat - i + j by omega, rot_step1 (i := i) (by omega) j0 (by omega) (by omega), hr]
    · simp only; rw [swapR_len, hl]
    · simp only
      rw [rot_step2 (by omega) i0 (by omega) (by omega), hr]
    · rw [e1, show (m + (j : Int) - (i : Int)).toNat = m.toNat + j - i by omega]
    · have hij : i = j := by omega
      subst hij
      rw [e1, rot_final (by omega) (by omega), hr]

theorem keys_at {sp : List Sp} {xs ys : List Int} (h : Keys sp xs) (hp : ys.Perm xs) {p : Nat} (hlt : p < ys.length) : (0 ≤ ys.getD p 0 ∧ ys.getD p 0 < sp.length) ∧ 0 ≤ kf sp (ys.getD p 0) ∧ kf sp (ys.getD p 0) ≤ 1000 := by
  have h1 := h.1 _ ((hp.mem_iff).1 (getD_in (d := 0) hlt))
  refine ⟨h1, ?_⟩
  unfold kf
  exact h.2 _ (getD_in (by omega))

theorem pick65_ex : ∀ args H (K : X5 → List Nat → Prop), pick65 args H K → ∃ x js, K x js := by
  intro args H K h
  unfold pick65 at h
  split at h
  · obtain ⟨xs, h⟩ := rowI_ex h
    obtain ⟨sp, h⟩ := boxSp_ex h
    exact ⟨_, _, h⟩
  · exact h.elim

theorem ins_swap {sp : List Sp} {ys : List Int} {a b i j : Nat} (hb : b ≤ ys.length) (hi : i < b) (h1 : a < j) (h2 : j ≤ i) (hS : Stab sp ys a b) (hE : ExOn sp ys a i j) (hk : kf sp (ys.getD j 0) < kf sp (ys.getD (j - 1) 0)) :
    SegOK ys (swp ys j (j - 1)) a b ∧ Stab sp (swp ys j (j - 1)) a b ∧ ExOn sp (swp ys j (j - 1)) a i (j - 1) := by
  have g := swp_getD ys (i := j) (j := j - 1) (by omega) (by omega)
  refine ⟨swp_seg ys (by omega) (by omega) (by omega) (by omega), fun p q hp hpq hq => ?_, fun p q hp hpq hq hne => ?_⟩
  · rw [g, g]
    by_cases c1 : p = j - 1 ∧ q = j
    · rw [if_pos c1.1, if_neg (by omega), if_pos c1.2]
      intro e; omega
    · (repeat' split) <;> intro e <;> first | (exfalso; omega) | exact hS _ _ (by omega) (by omega) (by omega) e
  · rw [g, g, if_neg hne]
    have hle : leB sp (ys.getD j 0) (ys.getD (j - 1) 0) = true := by rw [leB_iff]; exact .inl hk
    by_cases c1 : q = j
    · rw [if_pos c1]
      by_cases c2 : p = j - 1
      · rw [if_pos c2]; exact hle
      · rw [if_neg c2, if_neg (by omega)]
        exact hE p (j - 1) hp (by omega) (by omega) (by omega)
    · rw [if_neg c1]
      (repeat' split)
      · exact hE j q (by omega) (by omega) hq c1
      · exact hE (j - 1) q (by omega) (by omega) hq c1
      · exact hE p q hp hpq hq c1
theorem ins_done {sp : List Sp} {ys : List Int} {a b i j : Nat} (hi : i < b) (h2 : a ≤ j ∧ j ≤ i) (hS : Stab sp ys a b) (hE : ExOn sp ys a i j) (hk : a < j → ¬ kf sp (ys.getD j 0) < kf sp (ys.getD (j - 1) 0)) : SortedOn sp ys a (i + 1) := by
  intro p q hp hpq hq
  by_cases c : q = j
  · subst c
    have h3 : leB sp (ys.getD (q - 1) 0) (ys.getD q 0) = true := cross_le hS (by omega) (by omega) (by omega) (hk (by omega))
    by_cases c2 : p = q - 1
    · rw [c2]; exact h3
    · exact leB_trans (hE p (q - 1) hp (by omega) (by omega) (by omega)) h3
  · exact hE p q hp hpq (by omega) c

theorem ok65 : HeapOK Try.prog c65 := heap_flat (c := c65) (fn := Try.f65) rfl (by decide +kernel) rfl (fun _ => ⟨trivial, trivial, trivial⟩) C65 (fun _ => cx1 (inl_ok cx0 rfl (by decide +kernel) rfl)) fun x hx => by
  obtain ⟨xs, a, b, sp⟩ := x
  obtain ⟨⟨h1, h2, h3, h4⟩, hK, hS⟩ : (0 ≤ a ∧ a ≤ b ∧ b ≤ xs.length ∧ xs.length ≤ 1000) ∧ Keys sp xs ∧ Stab sp xs a.toNat b.toNat := hx
  refine (g65_eq xs a b sp).mpr ?_
  simp only [pp1, eq_self, and_true, true_and, and_self, Int.toNat_natCast, List.drop_zero]
  refine ⟨fits_i64 (by omega) (by omega), ⟨(a.toNat + 1, xs), ⟨⟨by simp only; omega, by simp only; omega⟩, SegOK.refl _ _ _, hS, fun p q hp hpq hq => by simp only at hq; omega⟩, rfl, by simp only; omega⟩, ?_⟩
  rintro ⟨i, ys⟩ ⟨⟨i0, i1⟩, hseg, hSt, hSo⟩
  simp only at i0 i1 hseg hSt hSo ⊢
  refine ⟨fun hlt => ⟨⟨(i, ys), ⟨⟨by simp only; omega, Nat.le_refl _⟩, hseg, hSt, fun p q hp hpq hq hne => hSo p q hp hpq (by simp only at hq hne; omega)⟩, rfl, rfl⟩, ?_⟩, fun hge => ?_⟩
  · rintro ⟨j, zs⟩ ⟨⟨j0, j1⟩, kseg, kSt, kE⟩
    simp only at j0 j1 kseg kSt kE ⊢
    have hzl : zs.length = xs.length := kseg.len
    refine ⟨fun hj => ?_, fun hj => ⟨fits_nat (by omega), (i + 1, zs), ⟨⟨by simp only; omega, by simp only; omega⟩, kseg, kSt, ins_done (by omega) ⟨j0, j1⟩ kSt kE (fun h => by omega)⟩, by simp only; omega, rfl, by simp only; omega⟩⟩
    have e1 : ((j : Int) - 1).toNat = j - 1 := by omega
    obtain ⟨u1, u2, u3⟩ := keys_at hK kseg.perm (p := j) (by omega)
    obtain ⟨v1, v2, v3⟩ := keys_at hK kseg.perm (p := j - 1) (by omega)
    have hkj : (sp.getD (zs.getD j 0).toNat (0, 0)).1 = kf sp (zs.getD j 0) := rfl
    have hkj' : (sp.getD (zs.getD (j - 1) 0).toNat (0, 0)).1 = kf sp (zs.getD (j - 1) 0) := rfl
    simp only [e1, hkj, hkj', List.length_set]
    refine ⟨by omega, fits_i64 (by omega) (by omega), by omega, u1, v1, fits_i64 (by omega) (by omega), fun hk => ?_, fun hk => ⟨fits_nat (by omega), (i + 1, zs), ⟨⟨by simp only; omega, by simp only; omega⟩, kseg, kSt, ins_done (by omega) ⟨j0, j1⟩ kSt kE (fun _ => by show ¬ kf sp (zs.getD j 0) < kf sp (zs.getD (j - 1) 0); omega)⟩, by simp only; omega, rfl, by simp only; omega⟩⟩
    obtain ⟨w1, w2, w3⟩ := ins_swap (b := b.toNat) (by omega) (by omega) (by omega) j1 kSt kE (by omega)
    (repeat refine ⟨by first | omega | exact fits_i64 (by omega) (by omega), ?_⟩); exact ⟨(j - 1, swp zs j (j - 1)), ⟨⟨by simp only; omega, by simp only; omega⟩, kseg.trans w1, w2, w3⟩, by simp only; omega, rfl, by simp only; omega⟩
  · exact seg_unique (by omega) (by omega) hseg (sub_sorted hSo (Nat.le_refl _) (by omega))
end Go.SX.Sh
