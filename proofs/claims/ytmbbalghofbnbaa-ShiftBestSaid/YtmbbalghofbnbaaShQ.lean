/- Chapter 03 in plain words: the deepest integer by the program and by the reference. -/
import Derived.Test.YtmbbalghofbnbaaShP
namespace Go.SX.Sh

theorem cnt_take' (l : List Sp) (v : Int) (k : Nat) (h : k < l.length) : cnt (l.take (k + 1)) v = cnt (l.take k) v + if inS (l.getD k (0, 0)) v = true then 1 else 0 := by
  unfold cnt
  rw [List.take_add_one, List.countP_append, List.getElem?_eq_getElem h, List.getD_eq_getElem?_getD, List.getElem?_eq_getElem h]
  simp [List.countP_cons]

theorem atF_cnt (l : List Sp) (x : Int) : (atF l x).length = cnt l x := by
  have : ∀ k, k ≤ l.length → (atF (l.take k) x).length = cnt (l.take k) x := by
    intro k
    induction k with
    | zero => intro _; simp [atF, cnt]
    | succ k ih =>
      intro hk
      rw [atF_take_succ l x k (by omega), cnt_take' l x k (by omega), List.length_append, ih (by omega)]
      split <;> rfl
  have h := this l.length (Nat.le_refl _)
  rwa [List.take_length] at h

/-- The depth somewhere is reached where an interval begins. -/
theorem cnt_start (l : List Sp) (v : Int) (h : 0 < cnt l v) : ∃ s ∈ l, s.1 ≤ v ∧ v < s.2 ∧ cnt l v ≤ cnt l s.1 := by
  -- the interval with the greatest beginning among those that contain v
  have : ∀ m : List Sp, (∃ s ∈ m, inS s v = true) → ∃ s ∈ m, inS s v = true ∧ ∀ t ∈ m, inS t v = true → t.1 ≤ s.1 := by
    intro m
    induction m with
    | nil => rintro ⟨s, h, _⟩; cases h
    | cons a m ih =>
      rintro ⟨s, hs, hv⟩
      by_cases hm : ∃ s ∈ m, inS s v = true
      · obtain ⟨b, hb, hbv, hmax⟩ := ih hm
        by_cases hab : inS a v = true ∧ b.1 ≤ a.1
        · refine ⟨a, List.mem_cons_self, hab.1, fun t ht htv => ?_⟩
          rcases List.mem_cons.1 ht with h | h
          · subst h; exact Int.le_refl _
          · exact Int.le_trans (hmax t h htv) hab.2
        · refine ⟨b, List.mem_cons_of_mem _ hb, hbv, fun t ht htv => ?_⟩
          rcases List.mem_cons.1 ht with h | h
          · subst h
            by_cases h2 : b.1 ≤ t.1
            · exact absurd ⟨htv, h2⟩ hab
            · omega
          · exact hmax t h htv
      · rcases List.mem_cons.1 hs with h | h
        · subst h
          refine ⟨s, List.mem_cons_self, hv, fun t ht htv => ?_⟩
          rcases List.mem_cons.1 ht with h | h
          · subst h; exact Int.le_refl _
          · exact absurd ⟨t, h, htv⟩ hm
        · exact absurd ⟨s, h, hv⟩ hm
  obtain ⟨s, hs, hv, hmax⟩ := this l (by
    unfold cnt at h
    obtain ⟨s, h1, h2⟩ := List.countP_pos_iff.1 h
    exact ⟨s, h1, h2⟩)
  have hsv := inS_iff.1 hv
  refine ⟨s, hs, hsv.1, hsv.2, ?_⟩
  unfold cnt
  refine List.countP_mono_left fun t ht htv => ?_
  have h1 := hmax t ht htv
  have h2 := inS_iff.1 htv
  exact inS_iff.2 ⟨h1, by omega⟩

structure DeepOK (l : List Sp) (m : List Sp) (st : Int × List Int) : Prop where
  all : ∀ s ∈ m, cnt l s.1 ≤ st.2.length ∧ (cnt l s.1 = st.2.length → st.1 ≤ s.1)
  one : (m = [] ∧ st = (0, [])) ∨ ∃ s ∈ m, st = (s.1, atF l s.1)

theorem deep_ok (l : List Sp) (hpos : ∀ s ∈ l, 0 < cnt l s.1) : ∀ (m : List Sp) (m0 : List Sp) (st : Int × List Int), (∀ s ∈ m, s ∈ l) → (∀ s ∈ m0, s ∈ l) → DeepOK l m0 st → DeepOK l (m0 ++ m) (m.foldl (deepStep l) st)
  | [], m0, st, _, _, h => by simpa using h
  | s :: m, m0, st, hm, hm0, h => by
    rw [List.foldl_cons, show m0 ++ s :: m = (m0 ++ [s]) ++ m by simp]
    refine deep_ok l hpos m (m0 ++ [s]) _ (fun t ht => hm t (List.mem_cons_of_mem _ ht)) (fun t ht => by
      rcases List.mem_append.1 ht with h | h
      · exact hm0 t h
      · rw [List.mem_singleton.1 h]; exact hm s List.mem_cons_self) ?_
    have hs := hpos s (hm s List.mem_cons_self)
    unfold deepStep
    rw [atF_cnt]
    split
    · rename_i hc
      refine ⟨fun t ht => ?_, .inr ⟨s, by simp, rfl⟩⟩
      show cnt l t.1 ≤ (atF l s.1).length ∧ _
      rw [atF_cnt]
      rcases List.mem_append.1 ht with h1 | h1
      · have := h.all t h1
        rcases hc with hc | hc
        · exact ⟨by omega, fun e => by omega⟩
        · exact ⟨by omega, fun e => by have := this.2 (by omega); show s.1 ≤ t.1; omega⟩
      · rw [List.mem_singleton.1 h1]; exact ⟨Nat.le_refl _, fun _ => Int.le_refl _⟩
    · rename_i hc
      have hc1 : ¬ (st.2.length : Int) < cnt l s.1 := fun h => hc (.inl h)
      refine ⟨fun t ht => ?_, ?_⟩
      · rcases List.mem_append.1 ht with h1 | h1
        · exact h.all t h1
        · rw [List.mem_singleton.1 h1]
          exact ⟨by omega, fun e => by
            have : ¬ s.1 < st.1 := fun h => hc (.inr ⟨by omega, h⟩)
            omega⟩
      · rcases h.one with ⟨h1, h2⟩ | ⟨t, h1, h2⟩
        · rw [h2] at hc1
          exact absurd hs (by simp at hc1; omega)
        · exact .inr ⟨t, by simp [h1], h2⟩

theorem cnt_own {l : List Sp} {s : Sp} (hs : s ∈ l) (h : s.1 < s.2) : 0 < cnt l s.1 := by
  unfold cnt
  exact List.countP_pos_iff.2 ⟨s, hs, inS_iff.2 ⟨Int.le_refl _, h⟩⟩

theorem deepF_spec (l : List Sp) (hpos : ∀ s ∈ l, s.1 < s.2) : DeepOK l l (deepF l) := by
  have := deep_ok l (fun s hs => cnt_own hs (hpos s hs)) l [] (0, []) (fun s h => h) (fun s h => by cases h) ⟨fun s h => (by cases h), .inl ⟨rfl, rfl⟩⟩
  simpa [deepF] using this

theorem depthTo_spec (l : List Sp) (x : Int) (k : Nat) : (∀ j : Nat, j < k → (cnt l (x + j) : Int) ≤ (depthTo l x k).1) ∧
    ((depthTo l x k = (0, 0)) ∨ ∃ j : Nat, j < k ∧ depthTo l x k = ((cnt l (x + j) : Int), x + j) ∧ ∀ i : Nat, i < j → cnt l (x + i) < cnt l (x + j)) := by
  induction k with
  | zero => exact ⟨fun j hj => by omega, .inl rfl⟩
  | succ k ih =>
    obtain ⟨h1, h2⟩ := ih
    unfold depthTo depthStep
    split
    · rename_i hc
      refine ⟨fun j hj => ?_, .inr ⟨k, by omega, rfl, fun i hi => ?_⟩⟩
      · show (cnt l (x + j) : Int) ≤ cnt l (x + k)
        rcases Nat.lt_or_ge j k with h | h
        · have := h1 j h; omega
        · have e : j = k := by omega
          rw [e]; exact Int.le_refl _
      · have := h1 i hi; omega
    · rename_i hc
      refine ⟨fun j hj => ?_, ?_⟩
      · rcases Nat.lt_or_ge j k with h | h
        · exact h1 j h
        · have e : j = k := by omega
          rw [e]; omega
      · rcases h2 with h2 | ⟨j, hj, h3, h4⟩
        · exact .inl h2
        · exact .inr ⟨j, by omega, h3, h4⟩

/-- The program's deepest integer is the reference's. -/
theorem deep_eq (l : List Sp) (hb : ∀ s ∈ l, 0 ≤ s.1 ∧ s.1 < s.2 ∧ s.2 ≤ 1000) (hne : l ≠ []) :
    depthR l (0, 1000) = (((deepF l).2.length : Int), (deepF l).1) ∧ (deepF l).2 = atF l (deepF l).1 := by
  have hd := deepF_spec l fun s hs => (hb s hs).2.1
  obtain ⟨h1, h2⟩ := depthTo_spec l 0 1000
  obtain ⟨s, hs, hst⟩ : ∃ s ∈ l, deepF l = (s.1, atF l s.1) := by
    rcases hd.one with ⟨h, _⟩ | h
    · exact absurd h hne
    · exact h
  have hss := hb s hs
  have hcs := cnt_own hs hss.2.1
  have hall := hd.all
  rw [hst] at hall ⊢
  refine ⟨?_, rfl⟩
  show depthTo l 0 1000 = _
  have hlen := atF_cnt l s.1
  have ns : ((s.1.toNat : Nat) : Int) = s.1 := by omega
  have m1 := h1 s.1.toNat (by omega)
  rw [ns, Int.zero_add] at m1
  rcases h2 with h2 | ⟨j, hj, h3, h4⟩
  · rw [h2] at m1
    have m1' : (cnt l s.1 : Int) ≤ 0 := m1
    omega
  · rw [h3] at m1 ⊢
    rw [Int.zero_add] at m1 h4 ⊢
    have m1' : (cnt l s.1 : Int) ≤ cnt l (j : Int) := m1
    obtain ⟨t, ht, t1, t2, t3⟩ := cnt_start l (j : Int) (by omega)
    have hts := hb t ht
    have ht2 := hall t ht
    have ht3 : cnt l t.1 ≤ cnt l s.1 := by rw [← hlen]; exact ht2.1
    have e1 : cnt l s.1 = cnt l (j : Int) := by omega
    have hsj : s.1 ≤ t.1 := ht2.2 (by show cnt l t.1 = (atF l s.1).length; omega)
    have hjs : (j : Int) ≤ s.1 := by
      rcases Int.lt_or_le s.1 j with h | h
      · have := h4 s.1.toNat (by omega)
        rw [ns, Int.zero_add] at this
        omega
      · exact h
    have e2 : (j : Int) = s.1 := by omega
    show ((cnt l (j : Int) : Int), (j : Int)) = (((atF l s.1).length : Int), s.1)
    rw [hlen, e2]

/-- The depth of a list that is proper, as the program finds it. -/
theorem deep_max (m : List Sp) (hm : ∀ s ∈ m, s.1 < s.2) (hne : m ≠ []) : (∃ s ∈ m, (deepF m).2.length = cnt m s.1) ∧ ∀ v, cnt m v ≤ (deepF m).2.length := by
  have hd := deepF_spec m hm
  refine ⟨?_, fun v => ?_⟩
  · rcases hd.one with ⟨h, _⟩ | ⟨s, hs, h⟩
    · exact absurd h hne
    · exact ⟨s, hs, by rw [h]; exact atF_cnt m s.1⟩
  · rcases Nat.eq_zero_or_pos (cnt m v) with h | h
    · omega
    · obtain ⟨t, ht, _, _, h3⟩ := cnt_start m v h
      exact Nat.le_trans h3 (hd.all t ht).1

theorem common_ovl {a b : Sp} (h : ovl a b = true) : common a b = (max a.1 b.1, min a.2 b.2) ∧ max a.1 b.1 < min a.2 b.2 := by
  rw [ovl_eq] at h
  have := of_decide_eq_true h
  refine ⟨?_, this⟩
  unfold common
  rw [if_neg (by omega)]

theorem low_cnt (l : List Sp) (out : List Int) (i : Nat) (k : Int) (j : Nat) (v : Int) (hv : inS (at_ l i) v = true) : cnt (lowTo l out i k j) v = cnt (lowR l out i k j) v := by
  induction j with
  | zero => rfl
  | succ j ih =>
    rw [lowTo_succ, lowR_succ]
    unfold cnt at ih ⊢
    rw [List.countP_append, List.countP_append, ih]
    congr 1
    by_cases h1 : out.getD j 0 ≤ k
    · rw [decide_eq_true h1, Bool.true_and, if_pos h1]
      have h2 := inS_iff.1 hv
      by_cases h3 : ovl (at_ l i) (at_ l j) = true
      · rw [if_pos h3]
        obtain ⟨e, _⟩ := common_ovl h3
        rw [e]
        simp only [List.countP_cons, List.countP_nil]
        congr 1
        have : inS (max (at_ l i).1 (at_ l j).1, min (at_ l i).2 (at_ l j).2) v = inS (at_ l j) v := by
          unfold inS
          rw [Bool.eq_iff_iff]
          simp only [Bool.and_eq_true, decide_eq_true_eq]
          omega
        rw [this]
      · rw [if_neg h3]
        simp only [List.countP_cons, List.countP_nil]
        have : ¬ inS (at_ l j) v = true := fun h4 => h3 (by
          rw [ovl_eq]
          have := inS_iff.1 h4
          exact decide_eq_true (by omega))
        rw [if_neg this]
    · rw [decide_eq_false h1, Bool.false_and, if_neg h1]
      simp

theorem lowTo_in (l : List Sp) (out : List Int) (i : Nat) (k : Int) (j : Nat) (hi : (at_ l i).1 < (at_ l i).2) : ∀ s ∈ lowTo l out i k j, s.1 < s.2 ∧ (at_ l i).1 ≤ s.1 ∧ s.1 < (at_ l i).2 := by
  induction j with
  | zero =>
    intro s hs
    have : s = at_ l i := by simpa [lowTo] using hs
    subst this
    exact ⟨hi, Int.le_refl _, hi⟩
  | succ j ih =>
    intro s hs
    rw [lowTo_succ] at hs
    rcases List.mem_append.1 hs with h | h
    · exact ih s h
    · split at h
      · rename_i h1
        rw [Bool.and_eq_true] at h1
        obtain ⟨e, h2⟩ := common_ovl h1.2
        rw [List.mem_singleton.1 h, e]
        exact ⟨h2, by show (at_ l i).1 ≤ max _ _; omega, by show max (at_ l i).1 (at_ l j).1 < (at_ l i).2; omega⟩
      · cases h

theorem low_depth (l : List Sp) (out : List Int) (i : Nat) (k : Int) (j : Nat) (hi : (at_ l i).1 < (at_ l i).2) :
    ((deepF (lowTo l out i k j)).2.length : Int) = (depthR (lowR l out i k j) (at_ l i)).1 := by
  have hin := lowTo_in l out i k j hi
  obtain ⟨⟨s, hs, h1⟩, h2⟩ := deep_max (lowTo l out i k j) (fun s hs => (hin s hs).1) (by unfold lowTo; simp)
  obtain ⟨d1, d2⟩ := depthTo_spec (lowR l out i k j) (at_ l i).1 ((at_ l i).2 - (at_ l i).1).toNat
  have e0 : (depthR (lowR l out i k j) (at_ l i)) = depthTo (lowR l out i k j) (at_ l i).1 ((at_ l i).2 - (at_ l i).1).toNat := rfl
  rw [e0]
  have hs2 := hin s hs
  have a1 := d1 (s.1 - (at_ l i).1).toNat (by omega)
  have e1 : (at_ l i).1 + ((s.1 - (at_ l i).1).toNat : Nat) = s.1 := by omega
  rw [e1, ← low_cnt l out i k j s.1 (inS_iff.2 ⟨hs2.2.1, hs2.2.2⟩)] at a1
  rcases d2 with d2 | ⟨m, hm, d3, _⟩
  · rw [d2] at a1 ⊢
    show ((deepF _).2.length : Int) = 0
    have a1' : ((cnt (lowTo l out i k j) s.1 : Nat) : Int) ≤ 0 := a1
    omega
  · have a2 := h2 ((at_ l i).1 + m)
    rw [low_cnt l out i k j _ (inS_iff.2 ⟨by omega, by omega⟩)] at a2
    rw [d3] at a1 ⊢
    show ((deepF _).2.length : Int) = (cnt (lowR l out i k j) ((at_ l i).1 + m) : Nat)
    have a1' : ((cnt (lowTo l out i k j) s.1 : Nat) : Int) ≤ (cnt (lowR l out i k j) ((at_ l i).1 + m) : Nat) := a1
    omega

theorem levels_eq (l : List Sp) (hb : ∀ i, i < l.length → bad (at_ l i) = false) : levelsF l = levelsR l := by
  have : ∀ i, i ≤ l.length → levelsTo l i = levelsTR l i := by
    intro i
    induction i with
    | zero => intro _; rfl
    | succ i ih =>
      intro hi
      unfold levelsTo levelsTR
      rw [ih (by omega)]
      congr 2
      unfold levelAt levelAtR
      have hnb := not_bad (hb i (by omega))
      simp only [low_depth l _ i _ i hnb.2.1]
  exact this l.length (Nat.le_refl _)

theorem trot_eq (l : List Sp) (hb : ∀ i, i < l.length → bad (at_ l i) = false) : trotF l = trotR l := by
  unfold trotF trotR
  rw [levels_eq l hb]

end Go.SX.Sh
