/- Chapter 03: merging in place, the stable sort. -/
import Derived.Test.YtmbbalghofbnbaaS8Q
import Derived.Test.YtmbbalghofbnbaaS9E
namespace Go.SX.Sh
open Go Go.Proofs

theorem half_nat {i j : Nat} (h : i + j ≤ 1000000) : IntKind.u64.wrap ((i : Int) + (j : Int)) / 2 ^ Int.toNat 1 = (((i + j) / 2 : Nat) : Int) := by
  have e : IntKind.u64.wrap ((i : Int) + (j : Int)) = (i : Int) + (j : Int) := by
    unfold IntKind.wrap
    have e1 : (2 : Int) ^ IntKind.u64.bits = 18446744073709551616 := by decide
    have e2 : IntKind.u64.signed = false := rfl
    simp only [e1, e2, Bool.false_and, Bool.false_eq_true, if_false]
    omega
  rw [e]
  have : (2 : Int) ^ Int.toNat 1 = 2 := by decide
  rw [this]
  omega

theorem pick66_ex : ∀ args H (K : X6 → List Nat → Prop), pick66 args H K → ∃ x js, K x js := by
  intro args H K h
  unfold pick66 at h
  split at h
  · obtain ⟨xs, h⟩ := rowI_ex h
    obtain ⟨sp, h⟩ := boxSp_ex h
    exact ⟨_, _, h⟩
  · exact h.elim
theorem pick68_ex : ∀ args H (K : X4 → List Nat → Prop), pick68 args H K → ∃ x js, K x js := by
  intro args H K h
  unfold pick68 at h
  split at h
  · obtain ⟨xs, h⟩ := rowI_ex h; exact ⟨_, _, h⟩
  · exact h.elim

theorem keys_perm {sp : List Sp} {xs ys : List Int} (h : Keys sp xs) (hp : ys.Perm xs) : Keys sp ys := ⟨fun e he => h.1 e ((hp.mem_iff).1 he), h.2⟩

structure SymOK (sp : List Sp) (xs : List Int) (a m b s e mid : Nat) : Prop where
  o : (a ≤ s ∧ s ≤ m ∧ m ≤ e ∧ e ≤ b) ∧ s ≤ mid ∧ mid ≤ e ∧ s + e = mid + m
  s1 : SortedOn sp (rotF xs s m e) a s
  s2 : SortedOn sp (rotF xs s m e) s mid
  st : Stab sp (rotF xs s m e) a b
  s3 : SortedOn sp (sortSeg sp (rotF xs s m e) a mid) mid e
  s4 : SortedOn sp (sortSeg sp (rotF xs s m e) a mid) e b
  st' : Stab sp (sortSeg sp (rotF xs s m e) a mid) a b
  eq : sortSeg sp (sortSeg sp (rotF xs s m e) a mid) mid b = sortSeg sp xs a b
  l1 : (rotF xs s m e).length = xs.length
  l2 : (sortSeg sp (rotF xs s m e) a mid).length = xs.length
  k1 : Keys sp (rotF xs s m e)
  k2 : Keys sp (sortSeg sp (rotF xs s m e) a mid)
  nr : s = m ∨ m = e → rotF xs s m e = xs
  n1 : a = s ∨ s = mid → sortSeg sp (rotF xs s m e) a mid = rotF xs s m e
  n2 : mid = e ∨ e = b → sortSeg sp (sortSeg sp (rotF xs s m e) a mid) mid b = sortSeg sp (rotF xs s m e) a mid

theorem sym_ok {sp : List Sp} {xs : List Int} {a m b s : Nat} (ham : a < m) (hmb : m < b) (hb : b ≤ xs.length) (hK : Keys sp xs) (hS : Stab sp xs a b) (hL : SortedOn sp xs a m) (hR : SortedOn sp xs m b)
    (h1 : loF a m b ≤ s) (h2 : s ≤ hiF a m b) (k1 : s = loF a m b ∨ ¬ kf sp (xs.getD (midF a b + m - s) 0) < kf sp (xs.getD (s - 1) 0))
    (k2 : s = hiF a m b ∨ kf sp (xs.getD (midF a b + m - 1 - s) 0) < kf sp (xs.getD s 0)) : SymOK sp xs a m b s (midF a b + m - s) (midF a b) := by
  have hm : midF a b = (a + b) / 2 := rfl
  unfold loF at h1 k1
  unfold hiF at h2 k2
  have ho : (a ≤ s ∧ s ≤ m ∧ m ≤ midF a b + m - s ∧ midF a b + m - s ≤ b) ∧ s ≤ midF a b ∧ midF a b ≤ midF a b + m - s := by
    split at h1 <;> rename_i hc <;> (first | rw [if_pos hc] at h2 | rw [if_neg hc] at h2) <;> omega
  have he : s + (midF a b + m - s) = midF a b + m := by omega
  obtain ⟨⟨o1, o2, o3, o4⟩, o5, o6⟩ := ho
  have c1 : a < s → midF a b + m - s < b → leB sp (xs.getD (s - 1) 0) (xs.getD (midF a b + m - s) 0) = true := fun q1 q2 => by
    refine cross_le hS (by omega) (by omega) (by omega) ?_
    rcases k1 with k1 | k1
    · split at k1 <;> omega
    · exact k1
  have c2 : s < m → m < midF a b + m - s → leB sp (xs.getD (midF a b + m - s - 1) 0) (xs.getD s 0) = true := fun q1 q2 => by
    refine cross_lt ?_
    rcases k2 with k2 | k2
    · split at k2 <;> omega
    · rw [show midF a b + m - s - 1 = midF a b + m - 1 - s by omega]; exact k2
  obtain ⟨m1, m2, m3, m4, m5, m6, m7⟩ := merge_rot o1 o2 o3 o4 hb he hL hR hS c1 c2
  have l1 := rot_len (xs := xs) o2 o3 (by omega)
  have q1 := (sortSeg_ok sp (xs := rotF xs s m (midF a b + m - s)) (show a ≤ midF a b by omega) (by rw [l1]; omega)).1
  have l2 := q1.len.trans l1
  refine ⟨⟨⟨o1, o2, o3, o4⟩, o5, o6, he⟩, m1, m2, m3, m4, m5, m6, m7, l1, l2, keys_perm hK (rot_seg o2 o3 (by omega)).perm, keys_perm hK (q1.perm.trans (rot_seg o2 o3 (by omega)).perm), fun h => rot_nil o2 o3 (by omega) h, fun h => ?_, fun h => ?_⟩
  · refine sortSeg_id (by omega) (by rw [l1]; omega) ?_
    rcases h with h | h
    · exact fun p q hp hpq hq => m2 p q (by omega) hpq hq
    · exact fun p q hp hpq hq => m1 p q hp hpq (by omega)
  · refine sortSeg_id (by omega) (by rw [l2]; omega) ?_
    rcases h with h | h
    · exact fun p q hp hpq hq => m5 p q (by omega) hpq hq
    · exact fun p q hp hpq hq => m4 p q hp hpq (by omega)

/-- After the first part. -/
theorem sym_second {sp : List Sp} {xs : List Int} {a m b s e mid : Nat} (h : SymOK sp xs a m b s e mid) (h5 : xs.length ≤ 1000) (hb : b ≤ xs.length) (hab : a < mid) {M : List Int} (hM : M = sortSeg sp (rotF xs s m e) a mid) :
    ((mid : Int) < (e : Int) → ((e : Int) < (b : Int) → (((0 ≤ (mid : Int) ∧ (mid : Int) < (e : Int) ∧ (e : Int) < (b : Int) ∧ (b : Int) ≤ (M.length : Int) ∧ M.length ≤ 1000) ∧ Keys sp M ∧ Stab sp M mid b ∧ SortedOn sp M mid e ∧ SortedOn sp M e b) ∧ b - mid < b - a) ∧ sortSeg sp M mid b = sortSeg sp xs a b) ∧
      (¬ (e : Int) < (b : Int) → M = sortSeg sp xs a b)) ∧ (¬ (mid : Int) < (e : Int) → M = sortSeg sp xs a b) := by
  obtain ⟨⟨o1, o2, o3, o4⟩, o5, o6, o7⟩ := h.o
  subst hM
  refine ⟨fun c1 => ⟨fun c2 => ⟨⟨⟨⟨by omega, c1, c2, by rw [h.l2]; omega, by rw [h.l2]; exact h5⟩, h.k2, sub_stab h.st' (by omega) (Nat.le_refl _), h.s3, h.s4⟩, by omega⟩, h.eq⟩, fun c2 => ?_⟩, fun c1 => ?_⟩
  · rw [← h.eq]; exact (h.n2 (.inr (by omega))).symm
  · rw [← h.eq]; exact (h.n2 (.inl (by omega))).symm
/-- After the rotation. -/
theorem sym_first {sp : List Sp} {xs : List Int} {a m b s e mid : Nat} (h : SymOK sp xs a m b s e mid) (h5 : xs.length ≤ 1000) (hb : b ≤ xs.length) (hab : a < mid) (hmid : mid < b) {Q : List Int → Prop} (hQ : ∀ M, M = sortSeg sp (rotF xs s m e) a mid → Q M) {M : List Int} (hM : M = rotF xs s m e) :
    ((a : Int) < (s : Int) → ((s : Int) < (mid : Int) → (((0 ≤ (a : Int) ∧ (a : Int) < (s : Int) ∧ (s : Int) < (mid : Int) ∧ (mid : Int) ≤ (M.length : Int) ∧ M.length ≤ 1000) ∧ Keys sp M ∧ Stab sp M a mid ∧ SortedOn sp M a s ∧ SortedOn sp M s mid) ∧ mid - a < b - a) ∧ Q (sortSeg sp M a mid)) ∧
      (¬ (s : Int) < (mid : Int) → Q M)) ∧ (¬ (a : Int) < (s : Int) → Q M) := by
  obtain ⟨⟨o1, o2, o3, o4⟩, o5, o6, o7⟩ := h.o
  subst hM
  refine ⟨fun c1 => ⟨fun c2 => ⟨⟨⟨⟨by omega, c1, c2, by rw [h.l1]; omega, by rw [h.l1]; exact h5⟩, h.k1, sub_stab h.st (Nat.le_refl _) (by omega), h.s1, h.s2⟩, by omega⟩, hQ _ rfl⟩, fun c2 => hQ _ (h.n1 (.inr (by omega))).symm⟩, fun c1 => hQ _ (h.n1 (.inl (by omega))).symm⟩

theorem ok66 : HeapOK Try.prog c66 := heap_rec (c := c66) (fn := Try.f66) m66 rfl (by decide +kernel) rfl (fun _ => ⟨trivial, trivial, trivial⟩) C66
    (fun _ h => cx3 (inl_ok cx0 rfl (by decide +kernel) rfl) (HeapOK.ci ok67 (fun _ => ⟨trivial, trivial⟩) pick68_ex) (HeapOK.ci h (fun _ => ⟨trivial, trivial, trivial⟩) pick66_ex)) fun x hx => by
  obtain ⟨xs, a, m, b, sp⟩ := x
  obtain ⟨⟨h1, h2, h3, h4, h5⟩, hK, hS, hL, hR⟩ : (0 ≤ a ∧ a < m ∧ m < b ∧ b ≤ xs.length ∧ xs.length ≤ 1000) ∧ Keys sp xs ∧ Stab sp xs a.toNat b.toNat ∧ SortedOn sp xs a.toNat m.toNat ∧ SortedOn sp xs m.toNat b.toNat := hx
  obtain ⟨a, rfl⟩ := Int.eq_ofNat_of_zero_le h1
  obtain ⟨m, rfl⟩ := Int.eq_ofNat_of_zero_le (show 0 ≤ m by omega)
  obtain ⟨b, rfl⟩ := Int.eq_ofNat_of_zero_le (show 0 ≤ b by omega)
  simp only [Int.toNat_natCast] at hS hL hR
  refine (g66_eq ..).mpr ?_
  simp only [pp1, eq_self, and_true, true_and, and_self, Int.toNat_natCast, List.drop_zero]
  have kat : ∀ p, p < xs.length → (0 ≤ xs.getD p 0 ∧ xs.getD p 0 < (sp.length : Int)) ∧ 0 ≤ kf sp (xs.getD p 0) ∧ kf sp (xs.getD p 0) ≤ 1000 := fun p hp => keys_at hK (List.Perm.refl _) hp
  have kfe : ∀ z : Int, (sp.getD z.toNat (0, 0)).1 = kf sp z := fun _ => rfl
  simp only [kfe]
  refine ⟨fits_i64 (by omega) (by omega), fun hone => ?_, fun hone => ⟨fits_i64 (by omega) (by omega), fun hlast => ?_, fun hlast => ?_⟩⟩
  · -- one element on the left
    have hma : m = a + 1 := by omega
    refine ⟨⟨(m, b), ⟨⟨Nat.le_refl _, by simp only; omega, Nat.le_refl _⟩, .inl rfl, .inl rfl⟩, rfl, rfl⟩, ?_⟩
    rintro ⟨i, j⟩ ⟨⟨i0, i1, i2⟩, bi, bj⟩
    simp only at i0 i1 i2 bi bj ⊢
    refine ⟨fun hlt => ?_, fun hge => ?_⟩
    · rw [half_nat (by omega)]
      have hh : (i + j) / 2 < j ∧ i ≤ (i + j) / 2 := by omega
      generalize (i + j) / 2 = h at hh ⊢
      simp only [Int.toNat_natCast]
      obtain ⟨u1, u2, u3⟩ := kat h (by omega)
      obtain ⟨v1, v2, v3⟩ := kat a (by omega)
      refine ⟨fits_i64 (by omega) (by omega), by omega, fits_i64 (by omega) (by omega), by omega, by omega, u1, v1, fits_i64 (by omega) (by omega), fun hk => ⟨fits_nat (by omega), (h + 1, j), ⟨⟨by simp only; omega, by simp only; omega, i2⟩, .inr ?_, bj⟩, by simp only; omega, by simp only; omega, rfl⟩,
        fun hk => ⟨(i, h), ⟨⟨i0, by simp only; omega, by simp only; omega⟩, bi, .inr ?_⟩, by simp only; omega, rfl, rfl⟩⟩
      · simp only [Nat.add_sub_cancel]; omega
      · simp only; omega
    · have hij : i = j := by omega
      subst hij
      have hs : SortedOn sp (rotF xs a m i) a b := by
        refine rot_sorted (Nat.le_refl a) (by omega) i0 i2 (by omega) hL hR (fun p q q1 q2 => by omega) (fun p q q1 q2 q3 q4 => ?_) (fun p q q1 q2 q3 q4 => ?_)
        · have hp : p = a := by omega
          subst hp
          rcases bi with bi | bi
          · omega
          · exact leB_trans (sorted_le hR q3 (show q ≤ i - 1 by omega) (by omega)) (cross_lt bi)
        · have hp : p = a := by omega
          subst hp
          rcases bj with bj | bj
          · omega
          · exact leB_trans (cross_le hS (Nat.le_refl _) (by omega) (by omega) bj) (sorted_le hR i0 q3 q4)
      have hfin : rotF xs a (a + 1) i = sortSeg sp xs a b := by
        rw [← hma]
        exact seg_unique (by omega) (by omega) ((rot_seg (by omega) i0 (by omega)).wide (Nat.le_refl _) i2) hs
      refine ⟨⟨0, by omega, (rot_nil (by omega) (by omega) (by omega) (.inr (by omega))).symm, by omega⟩, fun t ht => ⟨fits_i64 (by omega) (by omega), fun hlt => ?_, fun hge => ?_⟩⟩
      · have hl : (rotF xs a (a + 1) (a + 1 + t)).length = xs.length := rot_len (by omega) (by omega) (by omega)
        have hup := rot_up (xs := xs) (a := a) (i := a + 1 + t) (by omega) (by omega)
        have e1 : (((a + t : Nat) : Int) + 1).toNat = a + 1 + t := by omega
        simp only [List.length_set, hl, e1]
        (iterate 7 refine ⟨by first | omega | exact fits_i64 (by omega) (by omega), ?_⟩); refine ⟨t + 1, by omega, by omega, ?_, by omega⟩
        rw [show a + 1 + (t + 1) = a + 1 + t + 1 by omega, ← hup, show a + 1 + t - 1 = a + t by omega]; rfl
      · rw [show a + 1 + t = i by omega]; exact hfin
  · -- one element on the right
    have hbm : b = m + 1 := by omega
    refine ⟨⟨(a, m), ⟨⟨Nat.le_refl _, by simp only; omega, Nat.le_refl _⟩, .inl rfl, .inl rfl⟩, rfl, rfl⟩, ?_⟩
    rintro ⟨i, j⟩ ⟨⟨i0, i1, i2⟩, bi, bj⟩
    simp only at i0 i1 i2 bi bj ⊢
    refine ⟨fun hlt => ?_, fun hge => ?_⟩
    · rw [half_nat (by omega)]
      have hh : (i + j) / 2 < j ∧ i ≤ (i + j) / 2 := by omega
      generalize (i + j) / 2 = h at hh ⊢
      simp only [Int.toNat_natCast]
      obtain ⟨u1, u2, u3⟩ := kat h (by omega)
      obtain ⟨v1, v2, v3⟩ := kat m (by omega)
      refine ⟨fits_i64 (by omega) (by omega), by omega, fits_i64 (by omega) (by omega), by omega, by omega, v1, u1, fits_i64 (by omega) (by omega), fun hk => ⟨fits_nat (by omega), (h + 1, j), ⟨⟨by simp only; omega, by simp only; omega, i2⟩, .inr ?_, bj⟩, by simp only; omega, by simp only; omega, rfl⟩,
        fun hk => ⟨(i, h), ⟨⟨i0, by simp only; omega, by simp only; omega⟩, bi, .inr ?_⟩, by simp only; omega, rfl, rfl⟩⟩
      · simp only [Nat.add_sub_cancel]; omega
      · simp only; omega
    · have hij : i = j := by omega
      subst hij
      have hs : SortedOn sp (rotF xs i m b) a b := by
        refine rot_sorted i0 i2 (by omega) (Nat.le_refl b) (by omega) hL hR (fun p q q1 q2 q3 q4 => ?_) (fun p q q1 q2 q3 q4 => ?_) (fun p q q1 q2 q3 q4 => by omega)
        · have hq : q = m := by omega
          subst hq
          rcases bi with bi | bi
          · omega
          · exact leB_trans (sorted_le hL q1 (show p ≤ i - 1 by omega) (by omega)) (cross_le hS (by omega) (by omega) (by omega) bi)
        · have hq : q = m := by omega
          subst hq
          rcases bj with bj | bj
          · omega
          · exact leB_trans (cross_lt bj) (sorted_le hL i0 q1 q2)
      have hfin : rotF xs i m (m + 1) = sortSeg sp xs a b := by
        rw [← hbm]
        exact seg_unique (by omega) (by omega) ((rot_seg i2 (by omega) (by omega)).wide i0 (Nat.le_refl _)) hs
      refine ⟨⟨m, ⟨i2, Nat.le_refl _⟩, (rot_nil (by omega) (by omega) (by omega) (.inl rfl)).symm, rfl⟩, fun k hk => ⟨fun hlt => ?_, fun hge => ?_⟩⟩
      · have hl : (rotF xs k m (m + 1)).length = xs.length := rot_len (by omega) (by omega) (by omega)
        have hdn := rot_down (xs := xs) (i := k - 1) (m := m) (by omega) (by omega)
        rw [show k - 1 + 1 = k by omega] at hdn
        have e1 : ((k : Int) - 1).toNat = k - 1 := by omega
        simp only [List.length_set, hl, e1]
        (iterate 7 refine ⟨by first | omega | exact fits_i64 (by omega) (by omega), ?_⟩); exact ⟨k - 1, by omega, by omega, hdn, by omega⟩
      · rw [show k = i by omega]; exact hfin
  · -- two parts
    have hmid : IntKind.u64.wrap ((a : Int) + (b : Int)) / 2 ^ Int.toNat 1 = ((midF a b : Nat) : Int) := half_nat (by omega)
    have hmd : midF a b = (a + b) / 2 := rfl
    simp only [hmid, Int.toNat_natCast]
    have tail := fun (s : Nat) (h1 : loF a m b ≤ s) (h2 : s ≤ hiF a m b) k1 k2 => sym_ok (s := s) (by omega : a < m) (by omega : m < b) (by omega) hK hS hL hR h1 h2 k1 k2
    have hlo : loF a m b = if midF a b < m then midF a b + m - b else a := rfl
    have hhi : hiF a m b = if midF a b < m then midF a b else m := rfl
    generalize midF a b = mid at *
    -- the search
    have search : ∀ s r : Nat, (loF a m b ≤ s ∧ s ≤ r ∧ r ≤ hiF a m b) → s < r → (s + r) / 2 < r ∧ s ≤ (s + r) / 2 ∧ (s + r) / 2 < m ∧ mid + m - 1 - (s + r) / 2 < b ∧ (s + r) / 2 + 1 ≤ mid + m := fun s r h hlt => by
      rw [hlo, hhi] at h
      split at h <;> omega
    refine ⟨fits_i64 (by omega) (by omega), by omega, fits_i64 (by omega) (by omega), fits_i64 (by omega) (by omega), fun hc => ?_, fun hc => ?_⟩
    · have hlo' : loF a m b = mid + m - b := by rw [hlo, if_pos (by omega)]
      have hhi' : hiF a m b = mid := by rw [hhi, if_pos (by omega)]
      refine ⟨fits_i64 (by omega) (by omega), fits_i64 (by omega) (by omega), ⟨(loF a m b, hiF a m b), ⟨⟨Nat.le_refl _, by simp only; omega, Nat.le_refl _⟩, .inl rfl, .inl rfl⟩, by simp only; omega, by simp only; omega⟩, ?_⟩
      rintro ⟨s, r⟩ ⟨⟨s0, s1, s2⟩, bs, br⟩
      simp only at s0 s1 s2 bs br ⊢
      refine ⟨fun hlt => ?_, fun hge => ?_⟩
      · obtain ⟨c1, c2, c3, c4, c5⟩ := search s r ⟨s0, s1, s2⟩ (by omega)
        rw [half_nat (by omega)]
        generalize (s + r) / 2 = c at c1 c2 c3 c4 c5 ⊢
        have ep : ((mid : Int) + (m : Int) - 1 - (c : Int)).toNat = mid + m - 1 - c := by omega
        simp only [Int.toNat_natCast, ep]
        obtain ⟨u1, u2, u3⟩ := kat (mid + m - 1 - c) (by omega)
        obtain ⟨v1, v2, v3⟩ := kat c (by omega)
        refine ⟨fits_i64 (by omega) (by omega), by omega, fits_i64 (by omega) (by omega), fits_i64 (by omega) (by omega), by omega, by omega, u1, v1, fits_i64 (by omega) (by omega), fun hk => ⟨fits_nat (by omega), (c + 1, r), ⟨⟨by simp only; omega, by simp only; omega, s2⟩, .inr ?_, br⟩, by simp only; omega, by simp only; omega, rfl⟩,
          fun hk => ⟨(s, c), ⟨⟨s0, by simp only; omega, by simp only; omega⟩, bs, .inr ?_⟩, by simp only; omega, rfl, rfl⟩⟩
        · simp only [Nat.add_sub_cancel]; rw [show mid + m - (c + 1) = mid + m - 1 - c by omega]; omega
        · simp only; omega
      · have hsr : s = r := by omega
        subst hsr
        have T := tail s s0 s2 bs br
        obtain ⟨⟨o1, o2, o3, o4⟩, o5, o6, o7⟩ := T.o
        have he : (mid : Int) + (m : Int) - (s : Int) = ((mid + m - s : Nat) : Int) := by omega
        simp only [he, Int.toNat_natCast]
        have second := fun M hM => sym_second T h5 (by omega) (by omega) (M := M) hM
        have first := fun M hM => sym_first T h5 (by omega) (by omega) (by omega) second (M := M) hM
        exact ⟨fits_i64 (by omega) (by omega), fun c1 => ⟨fun c2 => ⟨⟨⟨by omega, c1, c2⟩, by omega, h5⟩, first _ rfl⟩, fun c2 => first _ (T.nr (.inr (by omega))).symm⟩, fun c1 => first _ (T.nr (.inl (by omega))).symm⟩
    · have hlo' : loF a m b = a := by rw [hlo, if_neg (by omega)]
      have hhi' : hiF a m b = m := by rw [hhi, if_neg (by omega)]
      refine ⟨fits_i64 (by omega) (by omega), ⟨(loF a m b, hiF a m b), ⟨⟨Nat.le_refl _, by simp only; omega, Nat.le_refl _⟩, .inl rfl, .inl rfl⟩, by simp only; omega, by simp only; omega⟩, ?_⟩
      rintro ⟨s, r⟩ ⟨⟨s0, s1, s2⟩, bs, br⟩
      simp only at s0 s1 s2 bs br ⊢
      refine ⟨fun hlt => ?_, fun hge => ?_⟩
      · obtain ⟨c1, c2, c3, c4, c5⟩ := search s r ⟨s0, s1, s2⟩ (by omega)
        rw [half_nat (by omega)]
        generalize (s + r) / 2 = c at c1 c2 c3 c4 c5 ⊢
        have ep : ((mid : Int) + (m : Int) - 1 - (c : Int)).toNat = mid + m - 1 - c := by omega
        simp only [Int.toNat_natCast, ep]
        obtain ⟨u1, u2, u3⟩ := kat (mid + m - 1 - c) (by omega)
        obtain ⟨v1, v2, v3⟩ := kat c (by omega)
        refine ⟨fits_i64 (by omega) (by omega), by omega, fits_i64 (by omega) (by omega), fits_i64 (by omega) (by omega), by omega, by omega, u1, v1, fits_i64 (by omega) (by omega), fun hk => ⟨fits_nat (by omega), (c + 1, r), ⟨⟨by simp only; omega, by simp only; omega, s2⟩, .inr ?_, br⟩, by simp only; omega, by simp only; omega, rfl⟩,
          fun hk => ⟨(s, c), ⟨⟨s0, by simp only; omega, by simp only; omega⟩, bs, .inr ?_⟩, by simp only; omega, rfl, rfl⟩⟩
        · simp only [Nat.add_sub_cancel]; rw [show mid + m - (c + 1) = mid + m - 1 - c by omega]; omega
        · simp only; omega
      · have hsr : s = r := by omega
        subst hsr
        have T := tail s s0 s2 bs br
        obtain ⟨⟨o1, o2, o3, o4⟩, o5, o6, o7⟩ := T.o
        have he : (mid : Int) + (m : Int) - (s : Int) = ((mid + m - s : Nat) : Int) := by omega
        simp only [he, Int.toNat_natCast]
        have second := fun M hM => sym_second T h5 (by omega) (by omega) (M := M) hM
        have first := fun M hM => sym_first T h5 (by omega) (by omega) (by omega) second (M := M) hM
        exact ⟨fits_i64 (by omega) (by omega), fun c1 => ⟨fun c2 => ⟨⟨⟨by omega, c1, c2⟩, by omega, h5⟩, first _ rfl⟩, fun c2 => first _ (T.nr (.inr (by omega))).symm⟩, fun c1 => first _ (T.nr (.inl (by omega))).symm⟩

theorem pick63_ex : ∀ args H (K : X3 → List Nat → Prop), pick63 args H K → ∃ x js, K x js := by
  intro args H K h
  unfold pick63 at h
  split at h
  · obtain ⟨xs, h⟩ := rowI_ex h
    obtain ⟨sp, h⟩ := boxSp_ex h
    exact ⟨_, _, h⟩
  · exact h.elim

/-- A part is sorted: what becomes of the rest. -/
theorem part_ok {sp : List Sp} {xs ys : List Int} {n a b : Nat} (h : SegOK xs ys 0 n) (hS : Stab sp ys 0 n) (hab : a ≤ b) (hb : b ≤ n) (hn : n ≤ xs.length) :
    SegOK xs (sortSeg sp ys a b) 0 n ∧ Stab sp (sortSeg sp ys a b) 0 n ∧ SortedOn sp (sortSeg sp ys a b) a b ∧ ∀ lo hi, (hi ≤ a ∨ b ≤ lo) → SortedOn sp ys lo hi → SortedOn sp (sortSeg sp ys a b) lo hi := by
  have hl : b ≤ ys.length := by rw [h.len]; omega
  obtain ⟨q1, q2⟩ := sortSeg_ok sp hab hl
  refine ⟨h.trans (q1.wide (Nat.zero_le _) hb), stab_sortSeg hab hl (Nat.zero_le _) hb hS, q2, fun lo hi hd hs => sorted_same hs fun p hp hp2 => q1.out p (by omega)⟩

theorem ok63 : HeapOK Try.prog c63 := heap_flat (c := c63) (fn := Try.f63) rfl (by decide +kernel) rfl (fun _ => ⟨trivial, trivial, trivial⟩) C63
    (fun _ => cx2 (HeapOK.ci ok65 (fun _ => ⟨trivial, trivial, trivial⟩) pick65_ex) (HeapOK.ci ok66 (fun _ => ⟨trivial, trivial, trivial⟩) pick66_ex)) fun x hx => by
  obtain ⟨xs, n, sp⟩ := x
  obtain ⟨⟨h1, h2⟩, hK, hS⟩ : (n = xs.length ∧ xs.length ≤ 40) ∧ Keys sp xs ∧ Stab sp xs 0 xs.length := hx
  subst h1
  refine (g63_eq ..).mpr ?_
  simp only [pp1, eq_self, and_true, true_and, and_self, Int.toNat_natCast, List.drop_zero]
  refine ⟨⟨(0, xs), ⟨⟨by simp only; omega, by simp only; omega⟩, SegOK.refl _ _ _, hS, fun h => by simp only at h; omega, fun h => by simp only at h; omega⟩, rfl, rfl, rfl⟩, ?_⟩
  rintro ⟨t, ys⟩ ⟨⟨t0, t1⟩, hseg, hst, hs1, hs2⟩
  simp only at t0 t1 hseg hst hs1 hs2 ⊢
  have hyl := hseg.len
  have hKy := keys_perm hK hseg.perm
  refine ⟨fun hle => ?_, fun hgt => ?_⟩
  · obtain ⟨p1, p2, p3, p4⟩ := part_ok (a := 20 * t) (b := 20 * t + 20) hseg hst (by omega) (by omega) (Nat.le_refl _)
    refine ⟨⟨⟨by omega, by omega, by omega, by omega⟩, hKy, sub_stab hst (by omega) (by omega)⟩, fits_i64 (by omega) (by omega), (t + 1, _), ⟨⟨by simp only; omega, by simp only; omega⟩, p1, p2, fun _ => ?_, fun ht => ?_⟩, by simp only; omega, rfl, by simp only; omega, by simp only; omega⟩
    · rcases Nat.eq_zero_or_pos t with h | h
      · subst h; exact p3
      · exact p4 0 20 (.inl (by omega)) (hs1 h)
    · have ht1 : t = 1 := by simp only at ht; omega
      subst ht1
      exact p3
  · obtain ⟨p1, p2, p3, p4⟩ := part_ok (a := 20 * t) (b := xs.length) hseg hst (by omega) (Nat.le_refl _) (Nat.le_refl _)
    refine ⟨⟨⟨by omega, by omega, by omega, by omega⟩, hKy, sub_stab hst (by omega) (Nat.le_refl _)⟩, ⟨(20, _), ⟨p1, p2, .inl ⟨rfl, ?_, ?_⟩⟩, rfl, rfl⟩, ?_⟩
    · rcases Nat.eq_zero_or_pos t with h | h
      · subst h; exact sub_sorted p3 (by omega) (by omega)
      · exact sub_sorted (p4 0 20 (.inl (by omega)) (hs1 h)) (by omega) (by omega)
    · by_cases ht : t = 2
      · subst ht
        exact sub_sorted (p4 20 40 (.inl (by omega)) (hs2 (by omega))) (by omega) (by omega)
      · exact sub_sorted p3 (by omega) (by omega)
    · clear hs1 hs2 p1 p2 p3 p4 hst hKy hyl hseg hgt
      rintro ⟨B, zs⟩ ⟨kseg, kst, hB⟩
      simp only at kseg kst hB ⊢
      refine ⟨fun hlt => ?_, fun hge => ?_⟩
      · obtain ⟨rfl, b1, b2⟩ : B = 20 ∧ SortedOn sp zs 0 (min 20 xs.length) ∧ SortedOn sp zs 20 xs.length := by
          rcases hB with hB | hB
          · exact hB
          · have := hB.1; omega
        refine ⟨fits_i64 (by omega) (by omega), ⟨(0, zs), ⟨⟨by omega, by simp only; omega, by simp only; omega⟩, kseg, kst, fun _ => ⟨b1, b2⟩, fun h => by simp only at h; omega⟩, rfl, rfl, rfl⟩, ?_⟩
        rintro ⟨u, vs⟩ ⟨⟨_, u1, u2⟩, lseg, lst, l1, l2⟩
        simp only at u1 u2 lseg lst l1 l2 ⊢
        have hvl := lseg.len
        have hKv := keys_perm hK lseg.perm
        refine ⟨fun hle => ?_, fun hgt => ⟨fits_i64 (by omega) (by omega), fun hm => ?_, fun hm => ?_⟩⟩
        · have hu : u = 0 := by omega
          subst hu
          have hn : xs.length = 40 := by omega
          obtain ⟨c1, c2⟩ := l1 rfl
          obtain ⟨p1, p2, p3, p4⟩ := part_ok (a := 40 * 0) (b := 40 * 0 + 40) lseg lst (by omega) (by omega) (Nat.le_refl _)
          have e20 : (((40 * 0 : Nat) : Int) + ((20 : Nat) : Int)).toNat = 20 := by omega
          rw [e20]
          refine ⟨fits_i64 (by omega) (by omega), ⟨⟨by omega, by omega, by omega, by omega, by omega⟩, hKv, sub_stab lst (by omega) (by omega), sub_sorted c1 (by omega) (by omega), sub_sorted c2 (by omega) (by omega)⟩, fits_i64 (by omega) (by omega), fits_i64 (by omega) (by omega), (1, _), ⟨⟨by omega, by simp only; omega, by simp only; omega⟩, p1, p2, fun h => by simp only at h; omega, fun _ => sub_sorted p3 (by omega) (by omega)⟩, by first | (simp only; omega) | omega, rfl, by first | rfl | (simp only; omega), by first | rfl | (simp only; omega)⟩
        · have hu : u = 0 := by omega
          subst hu
          obtain ⟨c1, c2⟩ := l1 rfl
          obtain ⟨p1, p2, p3, p4⟩ := part_ok (a := 40 * 0) (b := xs.length) lseg lst (by omega) (Nat.le_refl _) (Nat.le_refl _)
          have e20 : (((40 * 0 : Nat) : Int) + ((20 : Nat) : Int)).toNat = 20 := by omega
          rw [e20]
          exact ⟨⟨⟨by omega, by omega, by omega, by omega, by omega⟩, hKv, sub_stab lst (by omega) (Nat.le_refl _), sub_sorted c1 (by omega) (by omega), sub_sorted c2 (by omega) (by omega)⟩, fits_i64 (by omega) (by omega), (40, _), ⟨p1, p2, .inr ⟨rfl, sub_sorted p3 (by omega) (Nat.le_refl _)⟩⟩, by simp only; omega, rfl, by simp only; omega⟩
        · have hu : u = 1 := by omega
          exact ⟨fits_i64 (by omega) (by omega), (40, vs), ⟨lseg, lst, .inr ⟨rfl, l2 hu⟩⟩, by simp only; omega, rfl, by simp only; omega⟩
      · refine seg_unique (Nat.zero_le _) (Nat.le_refl _) kseg ?_
        rcases hB with ⟨rfl, b1, b2⟩ | ⟨_, b1⟩
        · exact sub_sorted b1 (Nat.le_refl _) (by omega)
        · exact b1
end Go.SX.Sh
