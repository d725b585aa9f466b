/- Chapter 03: the laws ShiftFits, ShiftAre, ShiftBest. -/
import Derived.Test.YtmbbalghofbnbaaS7Q
import Derived.Test.YtmbbalghofbnbaaS10Q
namespace Go.SX.Sh
open Go Go.Proofs

theorem ok12 : p12.OK Try.prog := p12.ok (fun _ => cx [p15.ci, p31.ci, p35.ci, p18.ci, p19.ci, p36.ci, p37.ci, p22.ci] []) (fun _ => cx8 (PC.OK.ci ok15) (PC.OK.ci ok31) (PC.OK.ci ok35) (PC.OK.ci ok18) (PC.OK.ci ok19) (PC.OK.ci ok36) (PC.OK.ci ok37) (PC.OK.ci ok22)) (fn := Try.f12) rfl (by decide +kernel) rfl fun (xs : List Sp) _ => by
  refine (g12_eq xs).mpr ?_
  simp only [pp1, eq_self, and_true, true_and, and_self, Int.toNat_natCast, List.drop_zero]
  have hl : (xs.take 41).length ≤ 41 := by simp; omega
  generalize xs.take 41 = l at *
  by_cases hc : checkF l = 0
  · obtain ⟨hlen, hbad⟩ := checkF_zero hc
    have hr : bestR l = bestF l := by
      unfold bestR bestF
      rw [ordR_eq fun i hi => by have := not_bad (hbad i hi); omega, ord_len]
    have l1 := firstF_length l
    have l2 := best_len l
    simp only [guard_ok hc, hr, l1, l2, hc, not_true_eq_false, not_false_eq_true, false_imp_iff, true_imp_iff, true_and, and_true, decide_true, Bool.true_eq_false]
    omega
  · have g : ∀ f, guardF l f = ([], checkF l) := fun f => (guard_no hc).symm
    simp only [g, hc, not_true_eq_false, not_false_eq_true, false_imp_iff, true_imp_iff, List.length_nil]
    refine ⟨by omega, by omega, by omega, ⟨fits_i64 (by simp) (by simp), ?_⟩, trivial⟩
    simp

theorem proper_ok {l : List Sp} {c : List Int} (hc : checkF l = 0) (hl : c.length = l.length) (h0 : ∀ x ∈ c, 0 ≤ x) (hp : Prop_ l c) : properR l c = true ∧ properP l c = (true, 0) := by
  have h1 : properR l c = true := proper_yes fun i hi j hj => by
    unfold clash
    cases ho : ovl (l.getD i (0, 0)) (l.getD j (0, 0)) with
    | false => rfl
    | true => rw [Bool.true_and]; exact decide_eq_false (hp i hi j hj ho)
  refine ⟨h1, ?_⟩
  unfold properP
  have h2 : c.any (fun x => decide (x < 0)) = false := by
    rw [List.any_eq_false]
    intro x hx
    have := h0 x hx
    simpa using this
  rw [if_pos hc, if_pos ⟨hl, h2⟩, h1]
theorem trot_nonneg {l : List Sp} : ∀ x ∈ trotR l, 0 ≤ x := fun x hx => by
  obtain ⟨i, hi, rfl⟩ := getD_lt hx
  exact (trot_range (l := l) (by rw [show (trotR l).length = l.length from fitTo_length _ _ _] at hi; exact hi)).1

theorem ok13 : p13.OK Try.prog := p13.ok (fun _ => C13) (fun _ => cx7 (PC.OK.ci ok29) (PC.OK.ci ok31) (PC.OK.ci ok26) (PC.OK.ci ok35) (PC.OK.ci ok19) (PC.OK.ci ok23) (PC.OK.ci ok24)) (fn := Try.f13) rfl (by decide +kernel) rfl fun (x : List (Int × Int)) hx => by
  have hx : ∀ q ∈ x, U16 q := hx
  refine (g13_eq x).mpr ?_
  simp only [pp1, eq_self, and_true, true_and, and_self, Int.toNat_natCast, List.drop_zero]
  refine ⟨⟨hx, by omega, by omega⟩, ?_⟩
  have hc := madeF_check x 60 (by omega) (by omega)
  have hl := madeF_length x 60
  generalize madeF x 60 = l at *
  have l1 := firstF_length l
  have l2 := trotF_length l
  have l3 := best_len l
  have e : trotF l = trotR l := trot_eq l (checkF_zero hc).2
  have all : ∀ k : Nat, k < 3 → ([firstF l, trotF l, bestF l].getD k []).length = l.length ∧ properR l ([firstF l, trotF l, bestF l].getD k []) = true ∧ properP l ([firstF l, trotF l, bestF l].getD k []) = (true, 0) := fun k hk => by
    match k, hk with
    | 0, _ => exact ⟨l1, proper_ok hc l1 (first_nonneg l) (first_proper l)⟩
    | 1, _ => exact ⟨l2, proper_ok (c := trotF l) hc l2 (by rw [e]; exact trot_nonneg) (by rw [e]; exact trot_proper)⟩
    | 2, _ => exact ⟨l3, proper_ok hc l3 (best_nonneg l) (best_proper l)⟩
  simp only [guard_ok hc, l1, l2, l3, not_true_eq_false, not_false_eq_true, false_imp_iff, true_imp_iff, true_and, and_true, Bool.not_true, Bool.false_eq_true]
  refine ⟨by omega, by omega, by omega, ⟨0, by omega, rfl⟩, fun k hk => ⟨fun hlt => ?_, fun h => h⟩⟩
  obtain ⟨a1, a2, a3⟩ := all k (by omega)
  simp only [a1, a2, a3, Bool.not_true, Bool.false_eq_true, not_true_eq_false, not_false_eq_true, false_imp_iff, true_imp_iff, true_and]
  exact ⟨by omega, ⟨by omega, by omega⟩, ⟨by omega, trivial⟩, fits_nat (by omega), k + 1, by omega, by omega, by omega⟩

theorem othTo_succ (y : List Int) (i : Nat) : othTo y (i + 1) = othTo y i ++ [if i < y.length then y.getD i 0 % 6 else (i : Int)] := by
  unfold othTo; rw [List.range_succ, List.map_append]; rfl
theorem othTo_len (y : List Int) (i : Nat) : (othTo y i).length = i := by unfold othTo; simp

theorem ok14 : p14.OK Try.prog := p14.ok C14 (fun _ => cx6 (PC.OK.ci ok29) (PC.OK.ci ok35) (PC.OK.ci ok16) (PC.OK.ci ok32) (PC.OK.ci ok19) (PC.OK.ci ok23)) (fn := Try.f14) rfl (by decide +kernel) rfl fun (p : List (Int × Int) × List Int) hp => by
  obtain ⟨x, y⟩ := p
  obtain ⟨hx, hy⟩ : (∀ q ∈ x, U16 q) ∧ ∀ b ∈ y, 0 ≤ b ∧ b ≤ 255 := hp
  refine (g14_eq x y).mpr ?_
  simp only [pp1, eq_self, and_true, true_and, and_self, Int.toNat_natCast, List.drop_zero]
  refine ⟨⟨hx, by omega, by omega⟩, ?_⟩
  have hc := madeF_check x 40 (by omega) (by omega)
  have hl := madeF_length x 40
  generalize madeF x 40 = l at *
  have hg := good_of hc
  have l3 := best_len l
  have bm := best_most l hg
  have hoth : ∀ z ∈ othTo y l.length, 0 ≤ z ∧ z ≤ 1000 := fun z hz => by
    unfold othTo at hz
    obtain ⟨k, hk, rfl⟩ := List.mem_map.1 hz
    have hk := List.mem_range.1 hk
    split <;> omega
  simp only [guard_ok hc, depthP_ok hc, bm, l3, not_true_eq_false, not_false_eq_true, false_imp_iff, true_imp_iff, true_and, and_true, Bool.not_true, Bool.false_eq_true]
  refine ⟨by omega, by omega, ⟨by omega, fun z hz => ⟨best_nonneg l z hz, by have := best_lt l z hz; omega⟩⟩, ⟨0, by omega, rfl, rfl⟩, fun i hi => ⟨fun hlt => ?_, fun hge => ?_⟩⟩
  · have hs := othTo_succ y i
    have ho := othTo_len y i
    refine ⟨fun h => ?_, fun h => ⟨small_of (by omega), fits_nat (by omega), i + 1, by omega, by omega, ?_, by omega⟩⟩
    · have hb := hy _ (getD_in (d := 0) (show i < y.length by omega))
      exact ⟨by omega, fits_i64 (by omega) (by omega), by omega, small_of (by omega), fits_nat (by omega), i + 1, by omega, by omega, by rw [hs, if_pos (by omega)], by omega⟩
    · rw [hs, if_neg (by omega)]
  · have ei : i = l.length := by omega
    subst ei
    have ho := othTo_len y l.length
    refine ⟨⟨by omega, by omega⟩, ⟨by omega, hoth⟩, fun _ => ⟨fun h => h, fun h => ?_⟩, fun h => ?_⟩
    · have hpr : properR l (othTo y l.length) = true := by
        unfold properP at h
        rw [if_pos hc] at h
        split at h
        · simpa using h
        · simp at h
      obtain ⟨v, e⟩ := depth_at hg
      have hP : Prop_ l (othTo y l.length) := fun a ha b hb hov hce => by
        unfold properR at hpr
        rw [List.all_eq_true] at hpr
        have h1 := hpr a (List.mem_range.2 ha)
        rw [List.all_eq_true] at h1
        have h2 := h1 b (List.mem_range.2 hb)
        unfold clash at h2
        have hov' : ovl (l.getD a (0, 0)) (l.getD b (0, 0)) = true := hov
        rw [hov', decide_eq_true hce] at h2
        cases h2
      have := most_ge ho hP (fun z hz => (hoth z hz).1) v
      refine decide_eq_true ?_
      show (depthF l : Int) ≤ ((seenF (othTo y l.length)).length : Int)
      omega
    · exfalso
      apply h
      unfold properP
      have h2 : (othTo y l.length).any (fun x => decide (x < 0)) = false := by
        rw [List.any_eq_false]
        intro z hz
        have := (hoth z hz).1
        simpa using this
      rw [if_pos hc, if_pos ⟨ho, h2⟩]
end Go.SX.Sh
