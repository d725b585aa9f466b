/- Chapter 03: ShiftDepths' and ShiftLevels' walks. -/
import Derived.Test.YtmbbalghofbnbaaS3Q
import Derived.Test.YtmbbalghofbnbaaS5E
import Derived.Test.YtmbbalghofbnbaaShQ
namespace Go.SX.Sh
open Go Go.Proofs

theorem ok21 : p21.OK Try.prog := p21.ok (fun _ => cx [] []) (fun _ => cx0) (fn := Try.f21) rfl (by decide +kernel) rfl fun _ _ => g21_eq.mpr (by simp)

theorem depthTo_nil (x : Int) (k : Nat) : depthTo [] x k = (0, 0) := by
  induction k with
  | zero => rfl
  | succ k ih => unfold depthTo depthStep; rw [ih, if_neg]; simp [cnt]

theorem ok3 : p3.OK Try.prog := p3.ok C3 (fun _ => cx8 (PC.OK.ci ok15) (PC.OK.ci ok16) (PC.OK.ci ok17) (PC.OK.ci ok18) (PC.OK.ci ok19) (PC.OK.ci ok20) (PC.OK.ci ok21) (PC.OK.ci ok22)) (fn := Try.f3) rfl (by decide +kernel) rfl fun (xs : List Sp) _ => by
  refine (g3_eq xs).mpr ?_
  simp only [pp1, eq_self, and_true, true_and, and_self, Int.toNat_natCast, List.drop_zero]
  have hl : (xs.take 41).length ≤ 41 := by simp; omega
  generalize xs.take 41 = l at *
  by_cases hc : checkF l = 0
  · obtain ⟨hlen, hbad⟩ := checkF_zero hc
    have hb : ∀ s ∈ l, 0 ≤ s.1 ∧ s.1 < s.2 ∧ s.2 ≤ 1000 := fun s hs => by
      obtain ⟨i, hi, rfl⟩ := List.getElem_of_mem hs
      have := not_bad (hbad i hi)
      unfold at_ at this
      rw [List.getD_eq_getElem?_getD, List.getElem?_eq_getElem hi] at this
      exact this
    have hd : depthP l = (((deepF l).2.length : Int), 0) := by unfold depthP; rw [if_pos hc]
    by_cases hn : l = []
    · subst hn
      have h1 : depthR [] (0, 1000) = (0, 0) := depthTo_nil _ _
      have h2 : deepestP [] = (0, [], 5) := by unfold deepestP; rw [if_pos hc]; rfl
      have h3 : depthP [] = (0, 0) := hd
      simp [hc, h1, h2, h3]
    · have hn' : ¬ (l.length : Int) = 0 := fun h => hn (List.eq_nil_of_length_eq_zero (by omega))
      obtain ⟨e1, e2⟩ := deep_eq l hb hn
      have h2 : deepestP l = ((deepF l).1, (deepF l).2, 0) := by
        unfold deepestP; rw [if_pos hc, if_neg (by omega)]
      have h4 : depthP l = ((depthR l (0, 1000)).1, 0) := by rw [hd, e1]
      have h5 : deepestP l = ((depthR l (0, 1000)).2, atF l (depthR l (0, 1000)).2, 0) := by rw [h2, e1, ← e2]
      rw [h4, h5]
      generalize depthR l (0, 1000) = dv
      obtain ⟨dd, v⟩ := dv
      simp only [not_true_eq_false, false_implies, true_and, and_true, not_false_eq_true, true_implies, Bool.not_true, Bool.false_eq_true]
      refine ⟨by omega, by omega, by omega, fun h => absurd hc h, fun _ => ⟨⟨by omega, by omega⟩, fun h => absurd h hn', fun _ => ⟨⟨0, by omega, rfl, rfl⟩, fun k hk => ⟨fun h1 => ?_, fun h1 => ?_⟩⟩⟩⟩
      · have hs := atF_take_succ l v k (by omega)
        have hl2 := atF_length (l.take k) v
        have hl3 : (l.take k).length ≤ 41 := by simp; omega
        refine ⟨by omega, fun h2 => ⟨by omega, fun h3 => ⟨small_of (by omega), fits_nat (by omega), k + 1, by omega, by omega, ?_, by omega⟩, fun h3 => ⟨fits_nat (by omega), k + 1, by omega, by omega, ?_, by omega⟩⟩, fun h2 => ⟨fits_nat (by omega), k + 1, by omega, by omega, ?_, by omega⟩⟩
        · rw [hs, if_pos (inS_iff.2 ⟨h2, h3⟩)]
        · rw [hs, if_neg (fun h => h3 (inS_iff.1 h).2), List.append_nil]
        · rw [hs, if_neg (fun h => h2 (inS_iff.1 h).1), List.append_nil]
      · have hk' : l.take k = l := List.take_of_length_le (by omega)
        rw [hk']
        have hl2 := atF_length l v
        simp
        omega
  · have h1 : depthP l = (0, checkF l) := by unfold depthP; rw [if_neg hc]
    have h2 : deepestP l = (0, [], checkF l) := by unfold deepestP; rw [if_neg hc]
    refine ⟨by omega, by omega, by omega, fun _ => ?_, fun h => absurd hc h⟩
    rw [h1, h2]
    simp
end Go.SX.Sh
