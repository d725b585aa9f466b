/- Chapter 06, part 10: the contracts of the reference's colourings. -/
import Derived.Test.YtfbgbdiajghnbaaDoorPa10E
import Derived.Test.YtfbgbdiajghnbaaDoorPa5
namespace Go.SX.Pa
open Go Go.Proofs

theorem proper_bad {es : List Ed} {l : List Int} {i : Nat} (hi : i < l.length) (h : clashF es l i = true) : properF es l = false := by
  unfold properF
  rw [List.all_eq_false]
  exact ⟨i, List.mem_range.2 hi, by rw [h]; simp⟩
theorem proper_good {es : List Ed} {l : List Int} (h : ∀ a, a < l.length → clashF es l a = false) : properF es l = true := by
  unfold properF
  rw [List.all_eq_true]
  intro i hi
  rw [h i (List.mem_range.1 hi)]; rfl

theorem ok35 : p35.OK Tryd.prog := p35.ok C35 (fun _ => cx0) (fn := Tryd.f35) rfl (by decide +kernel) rfl fun (p : List Ed × List Int) hp => by
  obtain ⟨es, l⟩ := p
  refine (g35_eq es l).mpr ?_
  obtain ⟨q1, q2⟩ := hp
  have q1 : es.length ≤ 1000 := q1
  have q2 : l.length ≤ es.length := q2
  simp only [pp1, eq_self, and_true, true_and, and_self, Int.toNat_natCast]
  refine ⟨⟨0, ⟨by omega, fun a ha => by omega⟩, rfl⟩, fun i ⟨hi, hok⟩ => ⟨fun h1 => ⟨⟨0, ⟨by omega, fun a ha => by omega⟩, rfl⟩, fun j ⟨hj, hno⟩ => ⟨fun h2 => ?_, fun h2 => ?_⟩⟩, fun h1 => ?_⟩⟩
  · have hi' : i < l.length := by omega
    have hj' : j < i := by omega
    have step : touch es l i j = false → Fits IntKind.i64 ((j : Int) + 1) ∧ ∃ x', (x' ≤ i ∧ ∀ (b : Nat), b < x' → touch es l i b = false) ∧ i - x' < i - j ∧ (j : Int) + 1 = (x' : Nat) := fun h =>
      ⟨fits_nat (by omega), j + 1, ⟨by omega, all_below hno h⟩, by omega, by simp⟩
    refine ⟨by omega, by omega, fun e1 => ⟨by omega, by omega, fun e2 => ?_, fun e2 => ⟨by omega, by omega, fun e3 => ?_, fun e3 => step ?_⟩⟩, fun e1 => step ?_⟩
    · exact (proper_bad hi' (touch_clash hj' (decide_eq_true ⟨e1.symm, .inl e2.symm⟩))).symm
    · exact (proper_bad hi' (touch_clash hj' (decide_eq_true ⟨e1.symm, .inr e3.symm⟩))).symm
    · exact decide_eq_false fun h => h.2.elim (fun h => e2 h.symm) (fun h => e3 h.symm)
    · exact decide_eq_false fun h => e1 h.1.symm
  · have : j = i := by omega
    subst this
    exact ⟨fits_nat (by omega), j + 1, ⟨by omega, all_below hok (no_clash hno)⟩, by omega, by simp⟩
  · have : i = l.length := by omega
    subst this
    exact (proper_good hok).symm

theorem cntA_succ (es : List Ed) (v k : Nat) (h : k < es.length) : cntA (es.take (k + 1)) v = cntA (es.take k) v + if (es.getD k (0, 0)).1 = (v : Int) then 1 else 0 := by
  unfold cntA
  rw [take_snoc es (0, 0) k h, List.countP_append]
  simp only [List.countP_cons, List.countP_nil, Nat.zero_add, decide_eq_true_eq]
  split <;> simp
theorem cntB_succ (es : List Ed) (v k : Nat) (h : k < es.length) : cntB (es.take (k + 1)) v = cntB (es.take k) v + if (es.getD k (0, 0)).2 = (v : Int) then 1 else 0 := by
  unfold cntB
  rw [take_snoc es (0, 0) k h, List.countP_append]
  simp only [List.countP_cons, List.countP_nil, Nat.zero_add, decide_eq_true_eq]
  split <;> simp
theorem cntA_le (es : List Ed) (v : Nat) : 0 ≤ cntA es v ∧ cntA es v ≤ es.length := by
  have : es.countP (fun e => decide (e.1 = (v : Int))) ≤ es.length := List.countP_le_length
  unfold cntA; omega
theorem cntB_le (es : List Ed) (v : Nat) : 0 ≤ cntB es v ∧ cntB es v ≤ es.length := by
  have : es.countP (fun e => decide (e.2 = (v : Int))) ≤ es.length := List.countP_le_length
  unfold cntB; omega

theorem ok30 : p30.OK Tryd.prog := p30.ok C30 (fun _ => cx0) (fn := Tryd.f30) rfl (by decide +kernel) rfl fun (es : List Ed) hp => by
  refine (g30_eq es).mpr ?_
  have hp : es.length ≤ 1000 := hp
  simp only [pp1, eq_self, and_true, true_and, and_self, Int.toNat_natCast]
  refine ⟨⟨0, by omega, rfl, rfl⟩, fun v hv => ⟨fun h1 => ⟨⟨0, by omega, rfl, rfl, rfl⟩, fun k hk => ⟨fun h2 => ?_, fun h2 => ?_⟩⟩, fun h1 => ?_⟩⟩
  · have hk' : k < es.length := by omega
    have a1 := cntA_succ es v k hk'
    have b1 := cntB_succ es v k hk'
    have a2 := cntA_le (es.take k) v
    have b2 := cntB_le (es.take k) v
    have hl : (es.take k).length = k := by rw [List.length_take]; omega
    rw [hl] at a2 b2
    refine ⟨by omega, fun e1 => ?_, fun e1 => ?_⟩
    · rw [if_pos e1] at a1
      refine ⟨fits_i64 (by omega) (by omega), by omega, fun e2 => ?_, fun e2 => ?_⟩
      · rw [if_pos e2] at b1
        exact ⟨fits_i64 (by omega) (by omega), fits_nat (by omega), k + 1, by omega, by omega, by simp, a1.symm, b1.symm⟩
      · rw [if_neg e2] at b1
        exact ⟨fits_nat (by omega), k + 1, by omega, by omega, by simp, a1.symm, by omega⟩
    · rw [if_neg e1] at a1
      refine ⟨by omega, fun e2 => ?_, fun e2 => ?_⟩
      · rw [if_pos e2] at b1
        exact ⟨fits_i64 (by omega) (by omega), fits_nat (by omega), k + 1, by omega, by omega, by simp, by omega, b1.symm⟩
      · rw [if_neg e2] at b1
        exact ⟨fits_nat (by omega), k + 1, by omega, by omega, by simp, by omega, by omega⟩
  · have : es.take k = es := List.take_of_length_le (by omega)
    rw [this]
    exact ⟨fits_nat (by omega), v + 1, by omega, by omega, by simp, rfl⟩
  · have : v = 6 := by omega
    rw [this]

theorem ok27 : p27.OK Tryd.prog := p27.ok C27 (fun _ => cx1 (PC.OK.ci ok21)) (fn := Tryd.f27) rfl (by decide +kernel) rfl fun (p : Int × Int × List Ed) hp => by
  obtain ⟨a, c, es⟩ := p
  refine (g27_eq a c es).mpr ?_
  have hp : es.length ≤ 1000 := hp
  simp only [pp1, eq_self, and_true, true_and, and_self, Int.toNat_natCast]
  unfold graphF
  refine ⟨fun h => by rw [if_pos (by omega)], fun h => ⟨fun h1 => ?_, fun h1 => ⟨fun h2 => ?_, fun h2 => ⟨⟨0, ⟨by omega, by simp⟩, rfl⟩, fun k ⟨hk, hok⟩ => ⟨fun h3 => ?_, fun h3 => ?_⟩⟩⟩⟩⟩
  · rw [Bool.not_eq_true'] at h1
    rw [if_neg (by omega), if_pos (.inl (of_decide_eq_false h1))]
  · rw [Bool.not_eq_true'] at h2
    rw [if_neg (by omega), if_pos (.inr (.inl (of_decide_eq_false h2)))]
  · rw [Bool.not_eq_false'] at h1 h2
    have h1 := of_decide_eq_true h1
    have h2 := of_decide_eq_true h2
    have hk' : k < es.length := by omega
    have bad : badEd a c (es.getD k (0, 0)) = true → 1 = (if 12 < es.length then (3 : Int) else if ¬ (1 ≤ a ∧ a ≤ 6) ∨ ¬ (1 ≤ c ∧ c ≤ 6) ∨ es.any (badEd a c) = true then 1 else 0) := fun hb => by
      rw [if_neg (by omega), if_pos (.inr (.inr (any_of_get (0, 0) hk' hb)))]
    refine ⟨by omega, fits_i64 (by omega) (by omega), fun h4 => bad ?_, fun h4 => ⟨by omega, fits_i64 (by omega) (by omega), fun h5 => bad ?_, fun h5 => ⟨fits_nat (by omega), k + 1, ⟨by omega, ?_⟩, by omega, by simp⟩⟩⟩
    · rw [Bool.not_eq_true'] at h4
      have h4 := of_decide_eq_false h4
      exact decide_eq_true (by omega)
    · rw [Bool.not_eq_true'] at h5
      have h5 := of_decide_eq_false h5
      exact decide_eq_true (by omega)
    · rw [Bool.not_eq_false'] at h4 h5
      have h4 := of_decide_eq_true h4
      have h5 := of_decide_eq_true h5
      rw [take_any _ _ (0, 0) k hk', hok, Bool.false_or]
      exact decide_eq_false (by omega)
  · rw [Bool.not_eq_false'] at h1 h2
    have h1 := of_decide_eq_true h1
    have h2 := of_decide_eq_true h2
    have : k = es.length := by omega
    subst this
    rw [List.take_length] at hok
    rw [if_neg (by omega), if_neg (by rw [hok]; simp; omega)]

theorem refC_bad {es : List Ed} {m : Int} {l : List Int} (h : properF es l = false) : refC es m l = none := by
  unfold refC
  cases es.length - l.length with
  | zero => unfold refG; rw [h]; rfl
  | succ n => unfold refG; rw [h]; rfl
theorem refC_done {es : List Ed} {m : Int} {l : List Int} (h : properF es l = true) (hl : l.length = es.length) : refC es m l = some l := by
  unfold refC
  rw [hl, Nat.sub_self]
  unfold refG
  rw [if_pos h]
theorem refC_step {es : List Ed} {m : Int} {l : List Int} (h : properF es l = true) (hl : l.length < es.length) : refC es m l = (List.range m.toNat).findSome? fun c : Nat => refC es m (l ++ [(c : Int)]) := by
  conv => lhs; unfold refC
  obtain ⟨f, hf⟩ : ∃ f, es.length - l.length = f + 1 := ⟨es.length - l.length - 1, by omega⟩
  rw [hf]
  unfold refG
  rw [if_pos h]
  congr 1
  funext c
  unfold refC
  rw [List.length_append, List.length_singleton, show es.length - (l.length + 1) = f by omega]
theorem refG_length (es : List Ed) (m : Nat) : (f : Nat) → (l ys : List Int) → refG es m f l = some ys → ys.length = l.length + f
  | 0, l, ys, h => by
    unfold refG at h
    split at h
    · cases h; rfl
    · cases h
  | f + 1, l, ys, h => by
    unfold refG at h
    split at h
    · obtain ⟨c, _, hc⟩ := List.exists_of_findSome?_eq_some h
      have := refG_length es m f _ _ hc
      simp at this
      omega
    · cases h

theorem ok29 : NilOK Tryd.prog n29 := n29.rec_ok (fn := Tryd.f29) m29 C29 (fun _ h => cx2 (PC.OK.ci ok35) h.ci) rfl (by decide +kernel) rfl fun (p : List Ed × Int × List Int) hp => by
  obtain ⟨es, m, l⟩ := p
  refine (g29_eq es m l).mpr ?_
  obtain ⟨⟨q1, q2⟩, q3, q4⟩ := hp
  have q1 : es.length ≤ 1000 := q1
  have q2 : l.length ≤ es.length := q2
  have q3 : (0 : Int) ≤ m := q3
  have q4 : m ≤ (1000 : Int) := q4
  simp only [pp1, eq_self, and_true, true_and, and_self, Int.toNat_natCast]
  refine ⟨⟨q1, q2⟩, fun h => refC_bad (by simpa using h), fun h => ?_⟩
  have h : properF es l = true := by simpa using h
  refine ⟨fun h1 => refC_done h (by omega), fun h1 => ⟨⟨0, ⟨by omega, fun c hc => by omega⟩, rfl⟩, fun k ⟨hk, hno⟩ => ⟨fun h2 => ?_, fun h2 => ?_⟩⟩⟩
  · have hl1 : (l ++ [(k : Int)]).length = l.length + 1 := by simp
    refine ⟨by unfold Small; omega, by unfold Small; omega, ⟨⟨⟨q1, by omega⟩, by omega, by omega⟩, ?_⟩, fun h3 => ⟨fits_nat (by omega), k + 1, ⟨by omega, fun c hc => ?_⟩, by omega, by simp⟩, fun ys h3 => ⟨fun e => ?_, ?_⟩⟩
    · show es.length - (l ++ [(k : Int)]).length < es.length - l.length
      omega
    · rcases Nat.lt_succ_iff_lt_or_eq.1 hc with h4 | h4
      · exact hno c h4
      · subst h4; exact h3
    · have := refG_length _ _ _ _ _ h3
      rw [e] at this
      simp at this
      omega
    · rw [refC_step h (by omega)]
      exact findSome_at (x := k) (by omega) (fun c hc => hno c hc) h3
  · rw [refC_step h (by omega)]
    exact findSome_no fun c hc => hno c (by omega)
end Go.SX.Pa
