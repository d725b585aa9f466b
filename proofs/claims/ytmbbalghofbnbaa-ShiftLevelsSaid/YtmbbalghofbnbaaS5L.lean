/- Chapter 03: ShiftLevels' walk. -/
import Derived.Test.YtmbbalghofbnbaaS3Q
import Derived.Test.YtmbbalghofbnbaaS5E
import Derived.Test.YtmbbalghofbnbaaShQ
namespace Go.SX.Sh
open Go Go.Proofs

theorem levelsR_length (l : List Sp) : (levelsR l).length = l.length := levelsTR_length l l.length
theorem trotR_length (l : List Sp) : (trotR l).length = l.length := fitTo_length _ _ _

theorem ok5 : p5.OK Try.prog := p5.ok (fun _ => cx [p15.ci, p25.ci, p26.ci, p18.ci, p19.ci, p27.ci, p28.ci, p22.ci] []) (fun _ => cx8 (PC.OK.ci ok15) (PC.OK.ci ok25) (PC.OK.ci ok26) (PC.OK.ci ok18) (PC.OK.ci ok19) (PC.OK.ci ok27) (PC.OK.ci ok28) (PC.OK.ci ok22))
    (fn := Try.f5) rfl (by decide +kernel) rfl fun (xs : List Sp) _ => by
  refine (g5_eq xs).mpr ?_
  simp only [pp1, eq_self, and_true, true_and, and_self, Int.toNat_natCast, List.drop_zero]
  have hl : (xs.take 41).length ≤ 41 := by simp; omega
  generalize xs.take 41 = l at *
  have h1 : l.length ≤ 1000 := by omega
  by_cases hc : checkF l = 0
  · obtain ⟨hlen, hbad⟩ := checkF_zero hc
    have g1 : guardF l levelsF = (levelsR l, 0) := by unfold guardF; rw [if_pos hc, levels_eq l hbad]
    have g2 : guardF l trotF = (trotR l, 0) := by unfold guardF; rw [if_pos hc, trot_eq l hbad]
    rw [g1, g2]
    have e1 := levelsR_length l
    have e2 := trotR_length l
    refine ⟨h1, h1, h1, fun h => absurd hc h, fun _ => ⟨hc, ⟨by show (levelsR l).length ≤ 1000; omega, by omega⟩, ?_⟩⟩
    simp [hc]
    omega
  · have g1 : guardF l levelsF = ([], checkF l) := by unfold guardF; rw [if_neg hc]
    have g2 : guardF l trotF = ([], checkF l) := by unfold guardF; rw [if_neg hc]
    rw [g1, g2]
    refine ⟨h1, h1, h1, fun _ => ⟨fits_i64 (by simp) (by simp), ?_⟩, fun h => absurd hc h⟩
    simp
end Go.SX.Sh
