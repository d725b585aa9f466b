/- Chapter 06, part 11: the law PatchColors: its contract. -/
import Derived.Test.YtfbgbdiajghnbaaDoorPa11E
namespace Go.SX.Pa
open Go Go.Proofs

theorem colors_graph (a c : Int) (es : List Ed) :
    (graphF a c es ≠ 0 → colorsF a c es = ([], graphF a c es)) ∧ (graphF a c es = 0 → colorsF a c es = ((refC es (degR es 6) []).getD [], 0) ∧ es.length ≤ 12) := by
  unfold graphF colorsF
  by_cases h : 12 < es.length
  · rw [if_pos h, if_pos h]
    exact ⟨fun _ => rfl, fun h => absurd h (by decide)⟩
  · rw [if_neg h, if_neg h]
    by_cases h2 : min a c < 1 ∨ 6 < max a c ∨ es.any (badEd a c) = true
    · rw [if_pos h2, if_pos (by
        rcases h2 with h2 | h2 | h2
        · by_cases h3 : 1 ≤ a ∧ a ≤ 6
          · exact .inr (.inl (by omega))
          · exact .inl h3
        · by_cases h3 : 1 ≤ a ∧ a ≤ 6
          · exact .inr (.inl (by omega))
          · exact .inl h3
        · exact .inr (.inr h2))]
      exact ⟨fun _ => rfl, fun h => absurd h (by decide)⟩
    · have h2' : ¬ min a c < 1 ∧ ¬ 6 < max a c ∧ es.any (badEd a c) = false := ⟨fun h => h2 (.inl h), fun h => h2 (.inr (.inl h)), by cases hb : es.any (badEd a c) with | true => exact absurd (.inr (.inr hb)) h2 | false => rfl⟩
      obtain ⟨k1, k2, k3⟩ := h2'
      rw [if_neg h2, if_neg (by rw [k3]; simp; omega)]
      refine ⟨fun h => absurd rfl h, fun _ => ⟨?_, by omega⟩⟩
      rw [colF_refC es fun e he => ?_]
      have := List.any_eq_false.1 k3 e he
      unfold badEd at this
      rw [decide_eq_true_eq] at this
      omega

theorem ok4 : p4.OK Tryd.prog := p4.ok (fun _ => cx [p26.ci, p27.ci, p25.ci, p30.ci, n29.ci, p28.ci] []) (fun _ => cx_ok (cs := [p26.ci, p27.ci, p25.ci, p30.ci, n29.ci, p28.ci]) ⟨PC.OK.ci ok26, PC.OK.ci ok27, PC.OK.ci ok25, PC.OK.ci ok30, ok29.ci, PC.OK.ci ok28, trivial⟩ _) (fn := Tryd.f4) rfl (by decide +kernel) rfl fun (p : Int × Int × List Ed) _ => by
  obtain ⟨a, c, es⟩ := p
  refine (g4_eq a c es).mpr ?_
  simp only [pp1, eq_self, and_true, true_and, and_self, Int.toNat_natCast, List.drop_zero]
  have hq : (es.take (min (es.length : Int) 13).toNat).length ≤ 13 := by rw [List.length_take]; omega
  have hm : (0 : Int) ≤ (0 : Nat) ∧ (0 : Int) ≤ min (es.length : Int) 13 ∧ min (es.length : Int) 13 ≤ es.length := by omega
  generalize es.take (min (es.length : Int) 13).toNat = q at hq ⊢
  obtain ⟨h1, h2⟩ := colors_graph a c q
  have hd : 0 ≤ degR q 6 ∧ degR q 6 ≤ 1000 := ⟨((degR_le q _ 6).1 (Int.le_refl _)).1, (degR_le q 1000 6).2 ⟨by omega, fun v _ => by have := cntA_le q v; have := cntB_le q v; omega⟩⟩
  refine ⟨by omega, by unfold Small; omega, by omega, by omega, fun hg => ?_, fun hg => ?_⟩
  · have hg : graphF a c q ≠ 0 := hg
    rw [h1 hg]
    exact ⟨fun _ => ⟨fun _ => rfl, fun h => absurd rfl h⟩, fun h => absurd rfl h⟩
  · have hg : graphF a c q = 0 := Classical.not_not.1 hg
    obtain ⟨e1, e2⟩ := h2 hg
    rw [e1]
    refine ⟨by omega, ⟨⟨by omega, by omega⟩, by omega, by omega⟩, fun h3 => ?_, fun ys h3 => ?_⟩
    · rw [h3]
      exact ⟨⟨by simp, by omega⟩, fun _ => ⟨fun _ => rfl, fun h => absurd rfl h⟩, fun h => by simp at h⟩
    · rw [h3]
      have hl := refG_length _ _ _ _ _ h3
      simp at hl
      refine ⟨⟨?_, by omega⟩, fun _ => ⟨fun _ => rfl, fun h => absurd rfl h⟩, fun h => by simp at h⟩
      show ys.length ≤ 1000
      omega
end Go.SX.Pa
