/- Chapter 03, part 2: the contracts of First Fit and of the levels. -/
import Derived.Test.YtmbbalghofbnbaaS1Q
import Derived.Test.YtmbbalghofbnbaaS2E
namespace Go.SX.Sh
open Go Go.Proofs

theorem ok61 : p61.OK Try.prog := p61.ok (fun _ => cx [] []) (fun _ => cx0) (fn := Try.f61) rfl (by decide +kernel) rfl fun x _ => (g61_eq x).mpr (by simp)
theorem ok62 : p62.OK Try.prog := p62.ok (fun _ => cx [] []) (fun _ => cx0) (fn := Try.f62) rfl (by decide +kernel) rfl fun p _ => (g62_eq p.1 p.2).mpr (by simp)
theorem small_of {n : Nat} (h : n ≤ 100000) : Small n := by unfold Small; omega

theorem ok36 : p36.OK Try.prog := p36.ok C36 (fun _ => cx2 (PC.OK.ci ok30) (PC.OK.ci ok48)) (fn := Try.f36) rfl (by decide +kernel) rfl fun (xs : List Sp) hp => by
  refine (g36_eq xs).mpr ?_
  have hp : xs.length ≤ 100 := hp
  simp only [pp1, eq_self, and_true, true_and, Int.toNat_natCast]
  refine ⟨⟨0, by omega, rfl, rfl⟩, fun i hi => ⟨fun h1 => ⟨⟨0, by omega, rfl, rfl⟩, fun j hj => ⟨fun h2 => ?_, fun h2 => ?_⟩⟩, fun h1 => ?_⟩⟩
  · have hc := taken_succ (confF xs) (fitTo zeroF (confF xs) i) i j
    have hl := taken_length (confF xs) (fitTo zeroF (confF xs) i) i j
    have hf := fitTo_length zeroF (confF xs) i
    refine ⟨by omega, by omega, fun h3 => ⟨by omega, small_of (by omega), fits_nat (by omega), j + 1, by omega, by omega, ?_, by omega⟩, fun h3 => ⟨fits_nat (by omega), j + 1, by omega, by omega, ?_, by omega⟩⟩
    · rw [hc, if_pos]; unfold confF at_; rw [ovl_eq]; exact h3
    · rw [hc, if_neg, List.append_nil]; unfold confF at_; rw [ovl_eq, h3]; simp
  · have e : j = i := by omega
    subst e
    have hl := taken_length (confF xs) (fitTo zeroF (confF xs) j) j j
    have hf := fitTo_length zeroF (confF xs) j
    exact ⟨⟨by omega, by omega, by omega⟩, small_of (by omega), fits_nat (by omega), j + 1, by omega, by omega, rfl, by omega⟩
  · have e : i = xs.length := by omega
    rw [e]; rfl

theorem ok44 : p44.OK Try.prog := p44.ok C44 (fun _ => cx3 (PC.OK.ci ok39) (PC.OK.ci ok43) (PC.OK.ci ok59)) (fn := Try.f44) rfl (by decide +kernel) rfl fun (xs : List Sp) hp => by
  refine (g44_eq xs).mpr ?_
  have hp : xs.length ≤ 100 := hp
  simp only [pp1, eq_self, and_true, true_and, Int.toNat_natCast, List.drop_zero]
  have tk : ∀ (i j : Nat), j < i → (xs.take i).getD j (0, 0) = xs.getD j (0, 0) := fun i j h => by
    rw [List.getD_eq_getElem?_getD, List.getElem?_take, if_pos h, List.getD_eq_getElem?_getD]
  refine ⟨⟨0, by omega, rfl, rfl⟩, fun i hi => ⟨fun h1 => ⟨by omega, ⟨0, ⟨by omega, by omega⟩, by omega⟩, fun k ⟨hk, hkok⟩ => ⟨by omega, ⟨0, by omega, rfl, rfl⟩, fun j hj => ⟨fun h2 => ?_, fun h2 => ?_⟩⟩⟩, fun h1 => ?_⟩⟩
  · have hji : j < i := by simp at h2; omega
    have hc := lowTo_succ xs (levelsTo xs i) i (1 + k) j
    have hl := lowTo_length xs (levelsTo xs i) i (1 + k) j
    have hf := levelsTo_length xs i
    rw [tk i j hji]
    refine ⟨by simp at h2 ⊢; omega, by omega, fun h3 => ⟨fun h4 => ⟨small_of (by omega), fits_nat (by omega), j + 1, by omega, by omega, ?_, by omega⟩, fun h4 => ⟨fits_nat (by omega), j + 1, by omega, by omega, ?_, by omega⟩⟩, fun h3 => ⟨fits_nat (by omega), j + 1, by omega, by omega, ?_, by omega⟩⟩
    · rw [hc, if_pos]
      · rfl
      · rw [decide_eq_true h3]; exact h4
    · rw [hc, if_neg, List.append_nil]
      have h4' : ovl (at_ xs i) (at_ xs j) = false := h4
      rw [h4', Bool.and_false]; simp
    · rw [hc, if_neg, List.append_nil]
      rw [decide_eq_false h3, Bool.false_and]; simp
  · have e : j = i := by simp at h2; omega
    subst e
    have hl := lowTo_length xs (levelsTo xs j) j (1 + k) j
    have hd := deepF_length (lowTo xs (levelsTo xs j) j (1 + k) j)
    have hf := levelsTo_length xs j
    refine ⟨by omega, fun h3 => ⟨small_of (by omega), fits_nat (by omega), j + 1, by omega, by omega, ?_, by omega⟩, fun h3 => ⟨fits_i64 (by omega) (by omega), k + 1, ⟨by omega, all_below hkok h3⟩, by omega, by omega⟩⟩
    rw [levelsTo, levelAt_eq xs _ j k hk h3 hkok]
  · have e : i = xs.length := by omega
    rw [e]; rfl

theorem belowF_length (i : Nat) : (belowF (i : Int)).length = i := by simp [belowF]
theorem belowF_getD (i j : Nat) (h : j < i) : (belowF (i : Int)).getD j 0 = j := by
  unfold belowF
  rw [Int.toNat_natCast, List.getD_eq_getElem?_getD, List.getElem?_map, List.getElem?_range h]; rfl
theorem mem_taken {conf : Nat → Nat → Bool} {out : List Int} {i j : Nat} {x : Int} : x ∈ taken conf out i j ↔ ∃ a, a < j ∧ conf i a = true ∧ out.getD a 0 = x := by
  unfold taken
  rw [List.mem_map]
  constructor
  · rintro ⟨a, h, e⟩
    rw [List.mem_filter, List.mem_range] at h
    exact ⟨a, h.1, h.2, e⟩
  · rintro ⟨a, h1, h2, e⟩
    exact ⟨a, by rw [List.mem_filter, List.mem_range]; exact ⟨h1, h2⟩, e⟩
/-- The search of First Fit: nothing below it is free, it is. -/
theorem fit_found {start : Nat → Int} {conf : Nat → Nat → Bool} {i k : Nat} (hk : ∀ j : Nat, j < k → start i + j ∈ taken conf (fitTo start conf i) i i)
    (hn : ∀ j, j < i → (decide ((fitTo start conf i).getD j 0 = start i + k) && conf i j) = false) : fitTo start conf i ++ [start i + k] = fitTo start conf (i + 1) := by
  have hle := run_le _ _ _ hk
  rw [fitTo, leastF_eq _ _ k hle hk]
  intro hm
  obtain ⟨a, h1, h2, h3⟩ := mem_taken.1 hm
  have := hn a h1
  rw [decide_eq_true h3, h2] at this
  cases this
theorem fit_more {start : Nat → Int} {conf : Nat → Nat → Bool} {i k j : Nat} (hk : ∀ j : Nat, j < k → start i + j ∈ taken conf (fitTo start conf i) i i) (hj : j < i)
    (h1 : (fitTo start conf i).getD j 0 = start i + k) (h2 : conf i j = true) : k + 1 ≤ i ∧ ∀ j : Nat, j < k + 1 → start i + j ∈ taken conf (fitTo start conf i) i i := by
  have h := all_below (p := fun j => start i + (j : Nat) ∈ taken conf (fitTo start conf i) i i) hk (mem_taken.2 ⟨j, hj, h2, h1⟩)
  exact ⟨Nat.le_trans (run_le _ _ _ h) (taken_length _ _ _ _), h⟩

theorem ok49 : p49.OK Try.prog := p49.ok C49 (fun _ => cx1 (inl_ok (cx3 (PC.OK.ci ok61) (PC.OK.ci ok52) (inl_ok (cx1 (inl_ok (cx1 (inl_ok (cx2 (PC.OK.ci ok62) (PC.OK.ci ok43)) rfl (by decide +kernel) rfl)) rfl (by decide +kernel) rfl)) rfl (by decide +kernel) rfl)) rfl (by decide +kernel) rfl))
    (fn := Try.f49) rfl (by decide +kernel) rfl fun (xs : List Sp) hp => by
  refine (g49_eq xs).mpr ?_
  have hp : xs.length ≤ 100 := hp
  simp only [pp1, eq_self, and_true, true_and, Int.toNat_natCast, belowF_length]
  refine ⟨⟨0, by omega, rfl, rfl⟩, fun i hi => ⟨fun h1 => ⟨by omega, ⟨0, ⟨by omega, by omega⟩, by simp [zeroF]⟩, fun k ⟨hk, hkok⟩ => ⟨by omega, ⟨0, ⟨by omega, by omega⟩, rfl⟩, fun j ⟨hj, hjok⟩ => ⟨fun h2 => ?_, fun h2 => ?_⟩⟩⟩, fun h1 => ?_⟩⟩
  · have hji : j < i := by omega
    have hf := fitTo_length zeroF (confF xs) i
    have hz : zeroF i = 0 := rfl
    rw [belowF_getD i j hji, Int.toNat_natCast]
    refine ⟨by omega, by omega, fun h3 => ⟨fun _ => ⟨by omega, fun h4 => ⟨fun _ => ?_, fun h5 => absurd (Int.natCast_nonneg j) h5⟩, fun h4 => ⟨fits_nat (by omega), j + 1, ⟨by omega, all_below hjok ?_⟩, by omega, by omega⟩⟩, fun h => absurd h (by decide)⟩,
      fun h3 => ⟨fits_nat (by omega), j + 1, ⟨by omega, all_below hjok ?_⟩, by omega, by omega⟩⟩
    · obtain ⟨q1, q2⟩ := fit_more hkok hji h3 h4
      exact ⟨fits_i64 (by omega) (by omega), k + 1, ⟨q1, q2⟩, by omega, by omega⟩
    · have h4' : confF xs i j = false := h4
      rw [h4', Bool.and_false]
    · rw [decide_eq_false h3, Bool.false_and]
  · have e : j = i := by omega
    subst e
    have hf := fitTo_length zeroF (confF xs) j
    exact ⟨fun h => absurd h (by decide), fun _ => ⟨small_of (by omega), fits_nat (by omega), j + 1, by omega, by omega, fit_found hkok hjok, by omega⟩⟩
  · have e : i = xs.length := by omega
    rw [e]; rfl

theorem guard_no {f : List Sp → List Int} {xs : List Sp} (h : ¬ checkF xs = 0) : ([], checkF xs) = guardF xs f := by unfold guardF; rw [if_neg h]
theorem guard_yes {f : List Sp → List Int} {xs : List Sp} (h : ¬ ¬ checkF xs = 0) : (f xs, (0 : Int)) = guardF xs f := by unfold guardF; rw [if_pos (Classical.not_not.1 h)]

theorem ok31 : p31.OK Try.prog := p31.ok (fun _ => cx [p38.ci, p49.ci] []) (fun _ => cx2 (PC.OK.ci ok38) (PC.OK.ci ok49)) (fn := Try.f31) rfl (by decide +kernel) rfl fun (xs : List Sp) hp => by
  refine (g31_eq xs).mpr ?_
  simp only [pp1]
  exact ⟨hp, guard_no, fun h => ⟨by have := (checkF_zero (Classical.not_not.1 h)).1; omega, guard_yes h⟩⟩
theorem ok25 : p25.OK Try.prog := p25.ok (fun _ => cx [p38.ci, p44.ci] []) (fun _ => cx2 (PC.OK.ci ok38) (PC.OK.ci ok44)) (fn := Try.f25) rfl (by decide +kernel) rfl fun (xs : List Sp) hp => by
  refine (g25_eq xs).mpr ?_
  simp only [pp1]
  exact ⟨hp, guard_no, fun h => ⟨by have := (checkF_zero (Classical.not_not.1 h)).1; omega, guard_yes h⟩⟩

theorem ok27 : p27.OK Try.prog := p27.ok C27 (fun _ => cx1 (PC.OK.ci ok20)) (fn := Try.f27) rfl (by decide +kernel) rfl fun (xs : List Sp) hp => by
  refine (g27_eq xs).mpr ?_
  obtain ⟨hp, hb⟩ := checkF_zero hp
  simp only [pp1, eq_self, and_true, true_and, Int.toNat_natCast, List.drop_zero]
  refine ⟨⟨0, by omega, rfl, rfl⟩, fun i hi => ⟨fun h1 => ⟨⟨0, ⟨by omega, by omega⟩, by omega⟩, fun k ⟨hk, hkok⟩ => ⟨by omega, ⟨0, by omega, rfl, rfl⟩, fun j hj => ⟨fun h2 => ?_, fun h2 => ?_⟩⟩⟩, fun h1 => ?_⟩⟩
  · have hc := lowR_succ xs (levelsTR xs i) i (1 + k) j
    have hl := lowR_length xs (levelsTR xs i) i (1 + k) j
    have hf := levelsTR_length xs i
    refine ⟨by omega, fun h3 => ⟨by omega, small_of (by omega), fits_nat (by omega), j + 1, by omega, by omega, ?_, by omega⟩, fun h3 => ⟨fits_nat (by omega), j + 1, by omega, by omega, ?_, by omega⟩⟩
    · rw [hc, if_pos h3]; rfl
    · rw [hc, if_neg h3, List.append_nil]
  · have e : j = i := by omega
    subst e
    have hl := lowR_length xs (levelsTR xs j) j (1 + k) j
    have hd : (depthR (lowR xs (levelsTR xs j) j (1 + k) j) (at_ xs j)).1 ≤ _ := depthTo_le (lowR xs (levelsTR xs j) j (1 + k) j) (at_ xs j).1 ((at_ xs j).2 - (at_ xs j).1).toNat
    have hf := levelsTR_length xs j
    have hnb := not_bad (hb j (by omega))
    have hnb' : 0 ≤ (xs.getD j (0, 0)).1 ∧ (xs.getD j (0, 0)).1 < (xs.getD j (0, 0)).2 ∧ (xs.getD j (0, 0)).2 ≤ 1000 := hnb
    refine ⟨by omega, ⟨by omega, by omega, by omega, by omega⟩, fun h3 => ⟨small_of (by omega), fits_nat (by omega), j + 1, by omega, by omega, ?_, by omega⟩, fun h3 => ⟨fits_i64 (by omega) (by omega), k + 1, ⟨?_, all_below hkok h3⟩, ?_, by omega⟩⟩
    · rw [levelsTR, levelAtR_eq xs _ j k hk h3 hkok]
    · have h3' : ¬ (depthR (lowR xs (levelsTR xs j) j (1 + k) j) (at_ xs j)).1 ≤ 1 + k := h3
      omega
    · have h3' : ¬ (depthR (lowR xs (levelsTR xs j) j (1 + k) j) (at_ xs j)).1 ≤ 1 + k := h3
      omega
  · have e : i = xs.length := by omega
    rw [e]; rfl

theorem ok28 : p28.OK Try.prog := p28.ok C28 (fun _ => cx3 (PC.OK.ci ok27) (PC.OK.ci ok30) (PC.OK.ci ok48)) (fn := Try.f28) rfl (by decide +kernel) rfl fun (xs : List Sp) hp0 => by
  refine (g28_eq xs).mpr ?_
  obtain ⟨hp, hb⟩ := checkF_zero hp0
  simp only [pp1, eq_self, and_true, true_and, Int.toNat_natCast, List.drop_zero]
  have hlv : (levelsR xs).length = xs.length := levelsTR_length xs xs.length
  refine ⟨hp0, ⟨0, by omega, rfl, rfl⟩, fun i hi => ⟨fun h1 => ⟨⟨0, by omega, rfl, rfl⟩, fun j hj => ⟨fun h2 => ?_, fun h2 => ?_⟩⟩, fun h1 => ?_⟩⟩
  · have hc := taken_succ (confT xs (levelsR xs)) (fitTo (startT (levelsR xs)) (confT xs (levelsR xs)) i) i j
    have hl := taken_length (confT xs (levelsR xs)) (fitTo (startT (levelsR xs)) (confT xs (levelsR xs)) i) i j
    have hf := fitTo_length (startT (levelsR xs)) (confT xs (levelsR xs)) i
    refine ⟨by omega, by omega, fun h3 => ⟨by omega, by omega, fun h4 => ⟨by omega, small_of (by omega), fits_nat (by omega), j + 1, by omega, by omega, ?_, by omega⟩, fun h4 => ⟨fits_nat (by omega), j + 1, by omega, by omega, ?_, by omega⟩⟩, fun h3 => ⟨fits_nat (by omega), j + 1, by omega, by omega, ?_, by omega⟩⟩
    · rw [hc, if_pos]
      unfold confT confF at_
      rw [ovl_eq, decide_eq_true h3.symm]; exact h4
    · rw [hc, if_neg, List.append_nil]
      unfold confT confF at_
      rw [ovl_eq, h4, Bool.and_false]; simp
    · rw [hc, if_neg, List.append_nil]
      unfold confT
      rw [decide_eq_false (fun e => h3 e.symm), Bool.false_and]; simp
  · have e : j = i := by omega
    subst e
    have hl := taken_length (confT xs (levelsR xs)) (fitTo (startT (levelsR xs)) (confT xs (levelsR xs)) j) j j
    have hf := fitTo_length (startT (levelsR xs)) (confT xs (levelsR xs)) j
    have hv : 1 ≤ (levelsR xs).getD j 0 ∧ (levelsR xs).getD j 0 ≤ xs.length := levelsTR_bound xs xs.length j (by omega)
    refine ⟨by omega, fits_i64 (by omega) (by omega), fits_i64 (by omega) (by omega), ⟨by omega, by omega, by omega⟩, small_of (by omega), fits_nat (by omega), j + 1, by omega, by omega, ?_, by omega⟩
    rw [fitTo]
    unfold startT
    rw [Int.max_comm]
  · have e : i = xs.length := by omega
    rw [e]; rfl

theorem ok26 : p26.OK Try.prog := p26.ok C26 (fun _ => cx3 (PC.OK.ci ok38) (PC.OK.ci ok44) (inl_ok (cx3 (inl_ok cx0 rfl (by decide +kernel) rfl) (PC.OK.ci ok52) (inl_ok (cx1 (inl_ok (cx1 (inl_ok (cx2 (inl_ok cx0 rfl (by decide +kernel) rfl) (PC.OK.ci ok43)) rfl (by decide +kernel) rfl)) rfl (by decide +kernel) rfl)) rfl (by decide +kernel) rfl)) rfl (by decide +kernel) rfl))
    (fn := Try.f26) rfl (by decide +kernel) rfl fun (xs : List Sp) hp => by
  refine (g26_eq xs).mpr ?_
  simp only [pp1, eq_self, and_true, true_and, Int.toNat_natCast, belowF_length]
  refine ⟨hp, guard_no, fun hc => ?_⟩
  have hgy := guard_yes (f := trotF) hc
  obtain ⟨hp, hb⟩ := checkF_zero (Classical.not_not.1 hc)
  have hlv : (levelsF xs).length = xs.length := levelsTo_length xs xs.length
  refine ⟨by omega, ⟨0, by omega, rfl, rfl⟩, fun i hi => ⟨fun h1 => ?_, fun h1 => ?_⟩⟩
  · have hv : 1 ≤ (levelsF xs).getD i 0 ∧ (levelsF xs).getD i 0 ≤ xs.length := levelsTo_bound xs xs.length i (by omega)
    have hst : startT (levelsF xs) i = max (3 * (levelsF xs).getD i 0 - 5) 0 := rfl
    refine ⟨by omega, by omega, fits_i64 (by omega) (by omega), fits_i64 (by omega) (by omega), ⟨0, ⟨by omega, by omega⟩, by omega⟩, fun k ⟨hk, hkok⟩ => ⟨by omega, ⟨0, ⟨by omega, by omega⟩, rfl⟩, fun j ⟨hj, hjok⟩ => ⟨fun h2 => ?_, fun h2 => ?_⟩⟩⟩
    · have hji : j < i := by omega
      have hf := fitTo_length (startT (levelsF xs)) (confT xs (levelsF xs)) i
      rw [belowF_getD i j hji, Int.toNat_natCast]
      refine ⟨by omega, by omega, fun h3 => ⟨by omega, by omega, fun h4 => ⟨by omega, fun h5 => ⟨fun _ => ?_, fun h6 => absurd (Int.natCast_nonneg j) h6⟩, fun h5 => ⟨fits_nat (by omega), j + 1, ⟨by omega, all_below hjok ?_⟩, by omega, by omega⟩⟩, fun h4 => ⟨fits_nat (by omega), j + 1, ⟨by omega, all_below hjok ?_⟩, by omega, by omega⟩⟩,
        fun h3 => ⟨fits_nat (by omega), j + 1, ⟨by omega, all_below hjok ?_⟩, by omega, by omega⟩⟩
      · obtain ⟨q1, q2⟩ := fit_more hkok hji h3 (by unfold confT confF at_; rw [decide_eq_true h4]; exact h5)
        exact ⟨fits_i64 (by omega) (by omega), k + 1, ⟨q1, q2⟩, by omega, by omega⟩
      · have h5' : confF xs i j = false := h5
        unfold confT
        rw [h5', Bool.and_false, Bool.and_false]
      · unfold confT
        rw [decide_eq_false h4, Bool.false_and, Bool.and_false]
      · rw [decide_eq_false h3, Bool.false_and]
    · have e : j = i := by omega
      subst e
      have hf := fitTo_length (startT (levelsF xs)) (confT xs (levelsF xs)) j
      exact ⟨fun h => absurd h (by decide), fun _ => ⟨small_of (by omega), fits_nat (by omega), j + 1, by omega, by omega, fit_found hkok hjok, by omega⟩⟩
  · have e : i = xs.length := by omega
    rw [e]; exact hgy
end Go.SX.Sh
