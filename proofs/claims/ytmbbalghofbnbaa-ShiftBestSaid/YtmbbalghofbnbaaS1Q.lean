/- Chapter 03, part 1: the contracts. -/
import Derived.Test.YtmbbalghofbnbaaS1E
namespace Go.SX.Sh
open Go Go.Proofs

theorem fits_nat {n : Nat} (h : n ≤ 1000000000) : Fits .i64 ((n : Int) + 1) := fits_i64 (by omega) (by omega)
theorem all_below {p : Nat → Prop} {k : Nat} (h : ∀ b, b < k → p b) (hk : p k) : ∀ b, b < k + 1 → p b := fun b hb => by
  rcases Nat.lt_succ_iff_lt_or_eq.1 hb with h1 | h1
  · exact h b h1
  · subst h1; exact hk
theorem take_any {α : Type} (f : α → Bool) (l : List α) (d : α) (k : Nat) (h : k < l.length) : (l.take (k + 1)).any f = ((l.take k).any f || f (l.getD k d)) := by
  rw [List.take_add_one, List.any_append, List.getElem?_eq_getElem h]
  simp [List.getD, List.getElem?_eq_getElem h]
theorem take_mem {α : Type} (l : List α) (d x : α) (k : Nat) (h : k < l.length) : x ∈ l.take (k + 1) ↔ x ∈ l.take k ∨ x = l.getD k d := by
  rw [List.take_add_one, List.mem_append, List.getElem?_eq_getElem h]
  simp [List.getD, List.getElem?_eq_getElem h]

theorem ok59 : p59.OK Try.prog := p59.ok (fun _ => cx [] []) (fun _ => cx0) (fn := Try.f59) rfl (by decide +kernel) rfl fun x _ => by
  obtain ⟨a, b⟩ := x
  refine (g59_eq a b).mpr ?_
  unfold common
  exact ⟨fun h => ⟨h, by rw [if_pos h]⟩, fun h => ⟨h, by rw [if_neg h]⟩⟩

theorem ok56 : p56.OK Try.prog := p56.ok (fun _ => cx [] []) (fun _ => cx0) (fn := Try.f56) rfl (by decide +kernel) rfl fun x _ => by
  refine (g56_eq x).mpr ?_
  unfold bad
  exact ⟨fun h => ⟨h, h, by simp [h]⟩, fun h => ⟨h, h, fun h2 => ⟨h2, h2, h2, by simp [h2]⟩, fun h2 => ⟨h2, h2, h2, by simp [h, h2]⟩⟩⟩

theorem ok57 : p57.OK Try.prog := p57.ok C57 (fun _ => cx0) (fn := Try.f57) rfl (by decide +kernel) rfl fun p hp => by
  obtain ⟨xs, x⟩ := p
  refine (g57_eq xs x).mpr ?_
  have hp : xs.length ≤ 1000 := hp
  simp only [pp1, eq_self, and_true, true_and, Int.toNat_natCast]
  refine ⟨⟨0, by omega, rfl, rfl⟩, fun k hk => ⟨fun h1 => ?_, fun h1 => ?_⟩⟩
  · have hk' : k < xs.length := by omega
    have hs := atF_take_succ xs x k hk'
    have hl := atF_length (xs.take k) x
    have hlt : (xs.take k).length ≤ 1000 := by simp; omega
    refine ⟨by omega, fun h2 => ⟨fun h3 => ⟨?_, fits_nat (by omega), k + 1, by omega, by omega, ?_, by simp⟩, fun h3 => ⟨fits_nat (by omega), k + 1, by omega, by omega, ?_, by simp⟩⟩,
      fun h2 => ⟨fits_nat (by omega), k + 1, by omega, by omega, ?_, by simp⟩⟩
    · unfold Small; omega
    · rw [hs, if_pos (inS_iff.2 ⟨h2, h3⟩)]
    · rw [hs, if_neg (fun h => h3 (inS_iff.1 h).2), List.append_nil]
    · rw [hs, if_neg (fun h => h2 (inS_iff.1 h).1), List.append_nil]
  · have : k = xs.length := by omega
    subst this
    simp

theorem ok43 : p43.OK Try.prog := p43.ok (fun _ => cx [p59.ci] []) (fun _ => cx1 (PC.OK.ci ok59)) (fn := Try.f43) rfl (by decide +kernel) rfl fun p _ => by
  obtain ⟨a, b⟩ := p
  refine (g43_eq a b).mpr ⟨trivial, ?_⟩
  unfold ovl
  simp

theorem checkF_long {xs : List Sp} (h : 40 < (xs.length : Int)) : checkF xs = 3 := by
  unfold checkF; rw [if_pos (by omega)]
theorem checkF_any {xs : List Sp} (h : ¬ 40 < (xs.length : Int)) : checkF xs = if xs.any bad = true then 2 else 0 := by
  unfold checkF; rw [if_neg (by omega)]
theorem any_of_take {α : Type} {f : α → Bool} {l : List α} {k : Nat} (d : α) (hk : k < l.length) (h : f (l.getD k d) = true) : l.any f = true := by
  rw [List.any_eq_true]
  exact ⟨l[k], List.getElem_mem hk, by rw [List.getD_eq_getElem?_getD, List.getElem?_eq_getElem hk] at h; exact h⟩

theorem ok38 : p38.OK Try.prog := p38.ok C38 (fun _ => cx1 (inl_ok (cx1 (inl_ok (cx1 (PC.OK.ci ok56)) rfl (by decide +kernel) rfl)) rfl (by decide +kernel) rfl)) (fn := Try.f38) rfl (by decide +kernel) rfl fun xs hp => by
  refine (g38_eq xs).mpr ?_
  have hp : xs.length ≤ 1000 := hp
  simp only [pp1, eq_self, and_true, true_and, Int.toNat_natCast]
  refine ⟨fun h => (checkF_long h).symm, fun h0 => ⟨⟨0, ⟨by omega, by simp⟩, rfl⟩, fun k ⟨hk, hok⟩ => ⟨fun h1 => ⟨by omega, fun h2 => ⟨fun _ => ?_, fun h => absurd (Int.natCast_nonneg k) h⟩,
    fun h2 => ⟨fits_nat (by omega), k + 1, ⟨by omega, ?_⟩, by omega, by simp⟩⟩, fun h1 => ⟨fun h => absurd h (by decide), fun _ => ?_⟩⟩⟩⟩
  · rw [checkF_any h0, if_pos (any_of_take (0, 0) (by omega) h2)]
  · rw [take_any bad xs (0, 0) k (by omega), hok]; exact h2
  · have : k = xs.length := by omega
    subst this
    rw [List.take_length] at hok
    rw [checkF_any h0, hok]; rfl

theorem deepF_eq (xs : List Sp) (k : Nat) (hk : k < xs.length) : (xs.take (k + 1)).foldl (deepStep xs) (0, []) = deepStep xs ((xs.take k).foldl (deepStep xs) (0, [])) (xs.getD k (0, 0)) :=
  take_foldl _ _ _ _ _ hk

theorem ok39 : p39.OK Try.prog := p39.ok C39 (fun _ => cx1 (PC.OK.ci ok57)) (fn := Try.f39) rfl (by decide +kernel) rfl fun xs hp => by
  refine (g39_eq xs).mpr ?_
  have hp : xs.length ≤ 1000 := hp
  simp only [pp1, eq_self, and_true, true_and, Int.toNat_natCast]
  refine ⟨⟨0, by omega, by simp⟩, fun k hk => ⟨fun h1 => ?_, fun h1 => ?_⟩⟩
  · have hd := deepF_eq xs k (by omega)
    generalize (xs.take k).foldl (deepStep xs) (0, []) = st at hd ⊢
    refine ⟨by omega, hp, fun h2 => ⟨fits_nat (by omega), k + 1, by omega, by omega, by omega, ?_⟩, fun h2 => ⟨fun h3 => ⟨fun h4 => ⟨fits_nat (by omega), k + 1, by omega, by omega, by omega, ?_⟩, fun h4 => ⟨fits_nat (by omega), k + 1, by omega, by omega, by omega, ?_⟩⟩,
      fun h3 => ⟨fits_nat (by omega), k + 1, by omega, by omega, by omega, ?_⟩⟩⟩
    · rw [hd]; unfold deepStep; rw [if_pos (.inl h2)]; exact ⟨rfl, rfl⟩
    · rw [hd]; unfold deepStep; rw [if_pos (.inr ⟨h3, h4⟩)]; exact ⟨rfl, rfl⟩
    · rw [hd]; unfold deepStep; rw [if_neg (fun h => h.elim h2 fun h => h4 h.2)]; exact ⟨rfl, rfl⟩
    · rw [hd]; unfold deepStep; rw [if_neg (fun h => h.elim h2 fun h => h3 h.1)]; exact ⟨rfl, rfl⟩
  · have : k = xs.length := by omega
    subst this
    simp [deepF]

theorem ok16 : p16.OK Try.prog := p16.ok (fun _ => cx [p38.ci, p39.ci] []) (fun _ => cx2 (PC.OK.ci ok38) (PC.OK.ci ok39)) (fn := Try.f16) rfl (by decide +kernel) rfl fun xs hp => by
  refine (g16_eq xs).mpr ?_
  simp only [pp1]
  unfold depthP
  exact ⟨hp, fun h => by rw [if_neg h], fun h => ⟨hp, by rw [if_pos (Classical.not_not.1 h)]⟩⟩

theorem ok17 : p17.OK Try.prog := p17.ok (fun _ => cx [p38.ci, p39.ci] []) (fun _ => cx2 (PC.OK.ci ok38) (PC.OK.ci ok39)) (fn := Try.f17) rfl (by decide +kernel) rfl fun xs hp => by
  refine (g17_eq xs).mpr ?_
  simp only [pp1]
  unfold deepestP
  refine ⟨hp, fun h => by rw [if_neg h], fun h => ⟨fun h2 => ?_, fun h2 => ⟨hp, ?_⟩⟩⟩
  · rw [if_pos (Classical.not_not.1 h), if_pos (by omega)]
  · rw [if_pos (Classical.not_not.1 h), if_neg (by omega)]

theorem ok42 : p42.OK Try.prog := p42.ok (fun _ => cx [] []) (fun _ => cx0) (fn := Try.f42) rfl (by decide +kernel) rfl fun x _ => (g42_eq x).mpr (by simp)
theorem ok30 : p30.OK Try.prog := p30.ok (fun _ => cx [] []) (fun _ => cx0) (fn := Try.f30) rfl (by decide +kernel) rfl fun p _ => (g30_eq p.1 p.2).mpr (by simp)
theorem ok51 : p51.OK Try.prog := p51.ok (fun _ => cx [] []) (fun _ => cx0) (fn := Try.f51) rfl (by decide +kernel) rfl fun p _ => by
  obtain ⟨a, b, c⟩ := p
  refine (g51_eq a b c).mpr ?_
  simp only [pp1, eq_self, and_true, true_and]
  exact ⟨fun h => by simp [h], fun h => by simp [h]⟩

theorem ok50 : p50.OK Try.prog := p50.ok C50 (fun _ => cx0) (fn := Try.f50) rfl (by decide +kernel) rfl fun p hp => by
  obtain ⟨l, x⟩ := p
  refine (g50_eq l x).mpr ?_
  have hp : l.length ≤ 1000 := hp
  simp only [pp1, eq_self, and_true, true_and, Int.toNat_natCast]
  refine ⟨⟨0, ⟨by omega, by simp⟩, rfl⟩, fun k ⟨hk, hok⟩ => ⟨fun h1 => ⟨by omega, fun h2 => ?_, fun h2 => ⟨fits_nat (by omega), k + 1, ⟨by omega, ?_⟩, by omega, by omega⟩⟩, fun h1 => ?_⟩⟩
  · rw [← h2, List.getD_eq_getElem?_getD, List.getElem?_eq_getElem (by omega)]
    simp
  · rw [take_mem l 0 x k (by omega)]
    rintro (h | h)
    · exact hok h
    · exact h2 h.symm
  · have : k = l.length := by omega
    subst this
    rw [List.take_length] at hok
    simp [hok]

theorem ok18 : p18.OK Try.prog := p18.ok C18 (fun _ => cx0) (fn := Try.f18) rfl (by decide +kernel) rfl fun xs hp => by
  refine (g18_eq xs).mpr ?_
  have hp : xs.length ≤ 1000 := hp
  simp only [pp1, eq_self, and_true, true_and, Int.toNat_natCast]
  have yes : ∀ k : Nat, (k : Int) < xs.length → ¬ 40 < (xs.length : Int) → bad (xs.getD k (0, 0)) = true → 2 = checkF xs := fun k h1 h0 h2 => by
    rw [checkF_any h0, if_pos (any_of_take (0, 0) (by omega) h2)]
  refine ⟨fun h => (checkF_long h).symm, fun h0 => ⟨⟨0, ⟨by omega, by simp⟩, rfl⟩, fun k ⟨hk, hok⟩ => ⟨fun h1 => ⟨by omega, fun h2 => yes k h1 h0 ?_, fun h2 => ⟨by omega, by omega, fun h3 => yes k h1 h0 ?_, fun h3 => ⟨by omega, fun h4 => yes k h1 h0 ?_,
    fun h4 => ⟨fits_nat (by omega), k + 1, ⟨by omega, ?_⟩, by omega, by simp⟩⟩⟩⟩, fun h1 => ?_⟩⟩⟩
  · unfold bad; simp only [decide_eq_true h2, Bool.true_or]
  · unfold bad; simp only [decide_eq_true h3, Bool.true_or, Bool.or_true]
  · unfold bad; simp only [decide_eq_true h4, Bool.or_true]
  · rw [take_any bad xs (0, 0) k (by omega), hok]
    unfold bad
    simp only [decide_eq_false h2, decide_eq_false h3, decide_eq_false h4, Bool.or_false]
  · have : k = xs.length := by omega
    subst this
    rw [List.take_length] at hok
    rw [checkF_any h0, hok]; rfl

theorem drop_getD {α : Type} (l : List α) (d : α) (k : Nat) (h : k < l.length) : l.drop k = l.getD k d :: l.drop (k + 1) := by
  rw [List.drop_eq_getElem_cons h, List.getD_eq_getElem?_getD, List.getElem?_eq_getElem h]
  rfl

theorem beforeF_nil_left (b : List Int) : beforeF [] b = decide (0 < b.length) := by cases b <;> simp [beforeF]
theorem beforeF_nil_right (a : List Int) : beforeF a [] = false := by cases a <;> rfl

theorem ok40 : p40.OK Try.prog := p40.ok C40 (fun _ => cx0) (fn := Try.f40) rfl (by decide +kernel) rfl fun (p : List Int × List Int) hp => by
  obtain ⟨a, b⟩ := p
  refine (g40_eq a b).mpr ?_
  obtain ⟨ha, hb⟩ : a.length ≤ 1000 ∧ b.length ≤ 1000 := hp
  simp only [pp1, eq_self, and_true, true_and, Int.toNat_natCast]
  have step : ∀ k : Nat, k < a.length → k < b.length → beforeF (a.drop k) (b.drop k) = if a.getD k 0 = b.getD k 0 then beforeF (a.drop (k + 1)) (b.drop (k + 1)) else decide (a.getD k 0 < b.getD k 0) := fun k h1 h2 => by
    rw [drop_getD a 0 k h1, drop_getD b 0 k h2]; rfl
  refine ⟨⟨0, ⟨by omega, by omega, rfl⟩, rfl⟩, fun k ⟨hk1, hk2, hok⟩ => ⟨fun h1 => ⟨fun h2 => ⟨by omega, by omega, fun h3 => ⟨by omega, by omega, ?_⟩, fun h3 => ⟨fits_nat (by omega), k + 1, ⟨by omega, by omega, ?_⟩, by omega, by omega⟩⟩, fun h2 => ?_⟩, fun h1 => ?_⟩⟩
  · rw [← hok, step k (by omega) (by omega), if_neg h3]
  · rw [← hok, step k (by omega) (by omega), if_pos (Classical.not_not.1 h3)]
  · have e : b.drop k = [] := List.drop_eq_nil_of_le (by omega)
    rw [← hok, e, beforeF_nil_right]
    exact decide_eq_false (by omega)
  · have e : a.drop k = [] := List.drop_eq_nil_of_le (by omega)
    rw [← hok, e, beforeF_nil_left, List.length_drop]
    exact decide_eq_decide.2 (by omega)
theorem before_same : (a b : List Int) → (!(beforeF a b) && !(beforeF b a)) = decide (a = b)
  | [], [] => rfl
  | [], _ :: _ => rfl
  | _ :: _, [] => rfl
  | x :: a, y :: b => by
    have ih := before_same a b
    unfold beforeF
    by_cases h : x = y
    · subst h
      simp only [if_true, ih, List.cons.injEq, true_and]
    · have h' : ¬ y = x := fun e => h e.symm
      simp only [if_neg h, if_neg h', List.cons.injEq, h, false_and, decide_false]
      rcases Int.lt_or_gt_of_ne h with h1 | h1
      · simp [h1]
      · simp [h1]

theorem ok22 : p22.OK Try.prog := p22.ok (fun _ => cx [p40.ci] []) (fun _ => cx1 (PC.OK.ci ok40)) (fn := Try.f22) rfl (by decide +kernel) rfl fun (p : List Int × List Int) hp => by
  obtain ⟨a, b⟩ := p
  refine (g22_eq a b).mpr ?_
  have hp : a.length ≤ 1000 ∧ b.length ≤ 1000 := hp
  have hs := before_same a b
  simp only [pp1, eq_self, and_true, true_and, Int.toNat_natCast]
  refine ⟨hp, fun h => ⟨⟨hp.2, hp.1⟩, ?_⟩, fun h => ?_⟩
  · rw [← hs, h, Bool.true_and]
  · rw [← hs, h, Bool.false_and]

theorem leastF_eq (x : Int) (l : List Int) (k : Nat) (hk : k ≤ l.length) (h : ∀ j : Nat, j < k → x + j ∈ l) (hn : ¬ x + k ∈ l) : leastF x l = x + k := by
  unfold leastF
  have : (List.range (l.length + 1)).find? (fun k => !(decide (x + (k : Nat) ∈ l))) = some k := by
    rw [List.find?_range_eq_some]
    refine ⟨by simp [hn], by simp; omega, fun j hj => by simp [h j hj]⟩
  rw [this]

/-- Numbers one after the other that a list has are no more than its length. -/
theorem run_le (x : Int) (l : List Int) (k : Nat) (h : ∀ j : Nat, j < k → x + j ∈ l) : k ≤ l.length := by
  have hn : ((List.range k).map fun j : Nat => x + j).Nodup := by
    rw [List.Nodup, List.pairwise_map]
    exact List.Pairwise.imp (fun {a b} (hab : a < b) e => by omega) List.pairwise_lt_range
  have := List.Nodup.length_le_of_subset hn (l₂ := l) (fun y hy => by
    obtain ⟨j, hj, rfl⟩ := List.mem_map.1 hy
    exact h j (by simpa using hj))
  simpa using this

theorem ok48 : p48.OK Try.prog := p48.ok C48 (fun _ => cx1 (PC.OK.ci ok50)) (fn := Try.f48) rfl (by decide +kernel) rfl fun (p : Int × List Int) hp => by
  obtain ⟨x, l⟩ := p
  refine (g48_eq x l).mpr ?_
  obtain ⟨hp, h0, h1⟩ : l.length ≤ 1000 ∧ 0 ≤ x ∧ x ≤ 1000000 := hp
  simp only [pp1, eq_self, and_true, true_and, Int.toNat_natCast]
  refine ⟨⟨0, ⟨by omega, by omega⟩, by omega⟩, fun k ⟨hk, hok⟩ => ⟨hp, fun h2 => ?_, fun h2 => ?_⟩⟩
  · have hok' := all_below (p := fun j => x + (j : Nat) ∈ l) hok (of_decide_eq_true h2)
    have := run_le x l (k + 1) hok'
    exact ⟨fits_i64 (by omega) (by omega), k + 1, ⟨by omega, hok'⟩, by omega, by omega⟩
  · exact (leastF_eq x l k hk hok (of_decide_eq_false h2)).symm

theorem cnt_take (l : List Sp) (v : Int) (k : Nat) (h : k < l.length) : cnt (l.take (k + 1)) v = cnt (l.take k) v + if inS (l.getD k (0, 0)) v = true then 1 else 0 := by
  unfold cnt
  rw [List.take_add_one, List.countP_append, List.getElem?_eq_getElem h, List.getD_eq_getElem?_getD, List.getElem?_eq_getElem h]
  simp [List.countP_cons]

theorem ok20 : p20.OK Try.prog := p20.ok C20 (fun _ => cx0) (fn := Try.f20) rfl (by decide +kernel) rfl fun (p : List Sp × Sp) hp => by
  obtain ⟨xs, a⟩ := p
  refine (g20_eq xs a).mpr ?_
  obtain ⟨hp, h0, h1, h2⟩ : xs.length ≤ 1000 ∧ 0 ≤ a.1 ∧ a.1 ≤ a.2 ∧ a.2 ≤ 1000000 := hp
  simp only [pp1, eq_self, and_true, true_and, Int.toNat_natCast]
  refine ⟨⟨0, by omega, by omega, rfl, rfl⟩, fun k hk => ⟨fun h3 => ⟨⟨0, by omega, rfl, rfl⟩, fun j hj => ⟨fun h4 => ?_, fun h4 => ?_⟩⟩, fun h3 => ?_⟩⟩
  · have hc := cnt_take xs (a.1 + k) j (by omega)
    have hl : cnt (xs.take j) (a.1 + k) ≤ 1000 := Nat.le_trans List.countP_le_length (by simp; omega)
    refine ⟨by omega, fun h5 => ⟨by omega, fun h6 => ⟨fits_nat (by omega), fits_nat (by omega), j + 1, by omega, by omega, by omega, ?_⟩, fun h6 => ⟨fits_nat (by omega), j + 1, by omega, by omega, by omega, ?_⟩⟩,
      fun h5 => ⟨fits_nat (by omega), j + 1, by omega, by omega, by omega, ?_⟩⟩
    · rw [hc, if_pos (inS_iff.2 ⟨h5, h6⟩)]; omega
    · rw [hc, if_neg (fun h => h6 (inS_iff.1 h).2)]; omega
    · rw [hc, if_neg (fun h => h5 (inS_iff.1 h).1)]; omega
  · have e : xs.take j = xs := List.take_of_length_le (by omega)
    rw [e]
    refine ⟨fun h5 => ⟨fits_i64 (by omega) (by omega), k + 1, by omega, by omega, by omega, ?_⟩, fun h5 => ⟨fits_i64 (by omega) (by omega), k + 1, by omega, by omega, by omega, ?_⟩⟩
    · rw [depthTo, depthStep, if_pos h5]; exact ⟨rfl, rfl⟩
    · rw [depthTo, depthStep, if_neg h5]; exact ⟨rfl, rfl⟩
  · have e : k = (a.2 - a.1).toNat := by omega
    rw [e]; rfl
theorem proper_no {xs : List Sp} {c : List Int} {i j : Nat} (hi : i < xs.length) (hj : j < i) (h : clash xs c i j = true) : properR xs c = false := by
  unfold properR
  rw [List.all_eq_false]
  refine ⟨i, by simpa using hi, ?_⟩
  rw [Bool.not_eq_true, List.all_eq_false]
  exact ⟨j, by simpa using hj, by rw [h]; simp⟩
theorem proper_yes {xs : List Sp} {c : List Int} (h : ∀ i, i < xs.length → ∀ j, j < i → clash xs c i j = false) : properR xs c = true := by
  unfold properR
  rw [List.all_eq_true]
  intro i hi
  rw [List.all_eq_true]
  intro j hj
  rw [h i (by simpa using hi) j (by simpa using hj)]; rfl
theorem ok24 : p24.OK Try.prog := p24.ok C24 (fun _ => cx1 (PC.OK.ci ok30)) (fn := Try.f24) rfl (by decide +kernel) rfl fun (p : List Sp × List Int) hp => by
  obtain ⟨xs, c⟩ := p
  refine (g24_eq xs c).mpr ?_
  obtain ⟨hx, hc⟩ : xs.length ≤ 1000 ∧ c.length = xs.length := hp
  simp only [pp1, eq_self, and_true, true_and, Int.toNat_natCast]
  refine ⟨⟨0, ⟨by omega, by omega⟩, rfl⟩, fun i ⟨hi, hok⟩ => ⟨fun h1 => ⟨⟨0, ⟨by omega, by omega⟩, rfl⟩, fun j ⟨hj, hjok⟩ => ⟨fun h2 => ⟨by omega, by omega, fun h3 => ⟨by omega, by omega, fun h4 => ?_, fun h4 => ⟨fits_nat (by omega), j + 1, ⟨by omega, all_below hjok ?_⟩, by omega, by omega⟩⟩, fun h3 => ⟨fits_nat (by omega), j + 1, ⟨by omega, all_below hjok ?_⟩, by omega, by omega⟩⟩,
     fun h2 => ⟨fits_nat (by omega), i + 1, ⟨by omega, all_below hok ?_⟩, by omega, by omega⟩⟩⟩, fun h1 => ?_⟩⟩
  · rw [proper_no (i := i) (j := j) (by omega) (by omega)]
    unfold clash; rw [ovl_eq, h3, decide_eq_true h4]; rfl
  · unfold clash; rw [decide_eq_false h4, Bool.and_false]
  · unfold clash; rw [ovl_eq, h3, Bool.false_and]
  · exact fun b hb => hjok b (by omega)
  · rw [proper_yes fun a ha => hok a (by omega)]
theorem ok23 : p23.OK Try.prog := p23.ok C23 (fun _ => cx3 (PC.OK.ci ok38) (inl_ok (cx1 (inl_ok (cx1 (PC.OK.ci ok42)) rfl (by decide +kernel) rfl)) rfl (by decide +kernel) rfl) (PC.OK.ci ok43)) (fn := Try.f23) rfl (by decide +kernel) rfl fun (p : List Sp × List Int) hp => by
  obtain ⟨xs, c⟩ := p
  refine (g23_eq xs c).mpr ?_
  obtain ⟨hx, hc⟩ : xs.length ≤ 1000 ∧ c.length ≤ 1000 := hp
  simp only [pp1, eq_self, and_true, true_and, Int.toNat_natCast, List.drop_zero]
  have main : checkF xs = 0 → c.length = xs.length → c.any (fun x => decide (x < 0)) = false → properP xs c = (properR xs c, 0) := fun h1 h2 h3 => by
    unfold properP; rw [if_pos h1, if_pos ⟨h2, h3⟩]
  have tk : ∀ (i j : Nat), j < i → (xs.take i).getD j (0, 0) = xs.getD j (0, 0) := fun i j h => by
    rw [List.getD_eq_getElem?_getD, List.getElem?_take, if_pos h, List.getD_eq_getElem?_getD]
  refine ⟨hx, fun h => ?_, fun h => ⟨fun h2 => ?_, fun h2 => ⟨⟨0, ⟨by omega, rfl⟩, rfl⟩, fun k ⟨hk, hok⟩ => ⟨fun h3 => ⟨by omega, fun h4 => ⟨fun _ => ?_, fun h5 => absurd (Int.natCast_nonneg k) h5⟩,
    fun h4 => ⟨fits_nat (by omega), k + 1, ⟨by omega, ?_⟩, by omega, by omega⟩⟩, fun h3 => ⟨fun h => absurd h (by decide), fun _ => ?_⟩⟩⟩⟩⟩
  · unfold properP; rw [if_neg h]
  · unfold properP; rw [if_pos (Classical.not_not.1 h), if_neg (fun h => h2 (by omega))]
  · unfold properP; rw [if_pos (Classical.not_not.1 h), if_neg]
    rintro ⟨_, h6⟩
    rw [any_of_take (0 : Int) (by omega) h4] at h6
    cases h6
  · rw [take_any _ c 0 k (by omega), hok]; exact h4
  · have hcl : c.length = xs.length := by have := Classical.not_not.1 h2; omega
    have ek : k = c.length := by omega
    subst ek
    rw [List.take_length] at hok
    have M := main (Classical.not_not.1 h) hcl hok
    rw [M]
    refine ⟨⟨0, ⟨by omega, by omega⟩, rfl⟩, fun i ⟨hi, hok⟩ => ⟨fun h1 => ⟨by omega, by omega, ⟨0, ⟨by omega, by omega⟩, rfl⟩, fun j ⟨hj, hjok⟩ => ⟨fun h2 => ?_, fun h2 => ?_⟩⟩, fun h1 => ?_⟩⟩
    · have hjl : j < i := by simp at h2; omega
      rw [tk i j hjl]
      refine ⟨by simp at h2 ⊢; omega, fun h3 => ⟨by omega, by omega, fun h4 => ?_, fun h4 => ⟨fits_nat (by omega), j + 1, ⟨by omega, all_below hjok ?_⟩, by omega, by omega⟩⟩, fun h3 => ⟨fits_nat (by omega), j + 1, ⟨by omega, all_below hjok ?_⟩, by omega, by omega⟩⟩
      · rw [proper_no (i := i) (j := j) (by omega) (by omega)]
        unfold clash; rw [h3, decide_eq_true h4]; rfl
      · unfold clash; rw [decide_eq_false h4, Bool.and_false]
      · unfold clash; rw [h3, Bool.false_and]
    · refine ⟨fits_nat (by omega), i + 1, ⟨by omega, all_below hok ?_⟩, by omega, by omega⟩
      have hji : j = i := by simp at h2; omega
      subst hji
      exact hjok
    · rw [proper_yes fun a ha => hok a (by omega)]
theorem ok34 : p34.OK Try.prog := p34.ok C34 (fun _ => cx1 (PC.OK.ci ok51)) (fn := Try.f34) rfl (by decide +kernel) rfl fun (p : Int × List Int) hp => by
  obtain ⟨n, l⟩ := p
  refine (g34_eq n l).mpr ?_
  obtain ⟨hx, hc⟩ : l.length ≤ 1000 ∧ 0 ≤ n ∧ n ≤ 1000000 := hp
  simp only [pp1, eq_self, and_true, true_and, Int.toNat_natCast]
  have no : ∀ k : Nat, (k : Int) < l.length → riseOK n l k = false → false = risingF n l := fun k h1 h2 => by
    unfold risingF
    symm
    rw [List.all_eq_false]
    exact ⟨k, by simp; omega, by rw [h2]; simp⟩
  refine ⟨⟨0, ⟨by omega, by omega⟩, rfl⟩, fun k ⟨hk, hok⟩ => ⟨fun h1 => ⟨by omega, fits_i64 (by omega) (by omega), fun h2 => no k h1 ?_, fun h2 => ?_⟩, fun h1 => ?_⟩⟩
  · unfold riseOK
    rw [Bool.not_eq_true'] at h2
    rw [h2]; rfl
  · rw [Bool.not_eq_false'] at h2
    have e : ((k : Int) - 1).toNat = k - 1 := by omega
    refine ⟨fun h3 => ⟨by omega, fits_i64 (by omega) (by omega), by omega, fun h4 => no k h1 ?_, fun h4 => ⟨fits_nat (by omega), k + 1, ⟨by omega, all_below hok ?_⟩, by omega, by omega⟩⟩, fun h3 => ⟨fits_nat (by omega), k + 1, ⟨by omega, all_below hok ?_⟩, by omega, by omega⟩⟩
    · unfold riseOK
      rw [e] at h4
      rw [h2, decide_eq_false (by omega : ¬ k = 0), decide_eq_false (by omega)]; rfl
    · unfold riseOK
      rw [e] at h4
      rw [h2, decide_eq_true (by omega : l.getD (k - 1) 0 < l.getD k 0), Bool.or_true]; rfl
    · unfold riseOK
      rw [h2, decide_eq_true (by omega : k = 0)]; rfl
  · have : k = l.length := by omega
    subst this
    unfold risingF
    symm
    rw [List.all_eq_true]
    exact fun j hj => hok j (by simpa using hj)
theorem ok52 : p52.OK Try.prog := p52.ok C52 (fun _ => cx0) (fn := Try.f52) rfl (by decide +kernel) rfl fun (n : Int) hp => by
  refine (g52_eq n).mpr ?_
  obtain ⟨hx, hc⟩ : 0 ≤ n ∧ n ≤ 1000 := hp
  simp only [pp1, eq_self, and_true, true_and, Int.toNat_natCast, List.length_replicate]
  have hlen : ∀ k, k ≤ n.toNat → (belowTo n k).length = n.toNat := fun k hk => by simp [belowTo]; omega
  refine ⟨⟨hx, by omega, by unfold Small; omega⟩, ⟨0, by omega, by simp [belowTo], rfl⟩, fun k hk => ⟨fun h1 => ⟨by rw [hlen k hk]; omega, fits_nat (by omega), k + 1, by omega, by omega, ?_, by omega⟩, fun h1 => ?_⟩⟩
  · unfold belowTo
    have e : n.toNat - k = (n.toNat - (k + 1)) + 1 := by omega
    rw [List.set_append_right _ _ (by simp), e, List.replicate_succ, List.range_succ]
    simp
  · have e : k = n.toNat := by omega
    rw [e]; simp [belowTo, belowF]
theorem ok15 : p15.OK Try.prog := p15.ok (fun _ => cx [] []) (fun _ => cx0) (fn := Try.f15) rfl (by decide +kernel) rfl fun (xs : List Sp) hp => by
  refine (g15_eq xs).mpr ?_
  simp only [pp1, eq_self, and_true, true_and, Int.toNat_natCast]
  have e : (min (xs.length : Int) 41).toNat = min xs.length 41 := by omega
  have e2 : xs.take (min xs.length 41) = xs.take 41 := by
    rcases Nat.le_total xs.length 41 with h | h
    · rw [Nat.min_eq_left h, List.take_length, List.take_of_length_le h]
    · rw [Nat.min_eq_right h]
  rw [e, e2, List.drop_zero]
  refine ⟨by omega, ?_, rfl⟩
  unfold Small
  simp
  omega
end Go.SX.Sh
