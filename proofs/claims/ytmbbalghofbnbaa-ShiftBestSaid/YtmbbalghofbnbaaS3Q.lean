/- Chapter 03: the laws' walks. -/
import Derived.Test.YtmbbalghofbnbaaS2Q
import Derived.Test.YtmbbalghofbnbaaS3E
namespace Go.SX.Sh
open Go Go.Proofs

def L1 : List Sp := [(0, 2), (4, 6), (1, 5)]
def L2 : List Sp := [(0, 1), (2, 5), (1, 3), (0, 3)]
theorem v1 : guardF [((0 : Int), (2 : Int)), ((4 : Int), (6 : Int)), ((1 : Int), (5 : Int))] firstF = ([0, 0, 1], 0) := by decide +kernel
theorem v2 : guardF [((0 : Int), (2 : Int)), ((4 : Int), (6 : Int)), ((1 : Int), (5 : Int))] levelsF = ([1, 1, 2], 0) := by decide +kernel
theorem v3 : guardF [((0 : Int), (2 : Int)), ((4 : Int), (6 : Int)), ((1 : Int), (5 : Int))] trotF = ([0, 0, 1], 0) := by decide +kernel
theorem v4 : depthP [((0 : Int), (2 : Int)), ((4 : Int), (6 : Int)), ((1 : Int), (5 : Int))] = (2, 0) := by decide +kernel
theorem v5 : deepestP [((0 : Int), (1 : Int)), ((2 : Int), (5 : Int)), ((1 : Int), (3 : Int)), ((0 : Int), (3 : Int))] = (2, [1, 2, 3], 0) := by decide +kernel
theorem v6 : properP [((0 : Int), (2 : Int)), ((4 : Int), (6 : Int)), ((1 : Int), (5 : Int))] [(0 : Int), (0 : Int), (1 : Int)] = (true, 0) := by decide +kernel

theorem ok19 : p19.OK Try.prog := p19.ok (fun _ => cx [p31.ci, p25.ci, p26.ci, p16.ci, p17.ci, p23.ci, p22.ci] []) (fun _ => cx7 (PC.OK.ci ok31) (PC.OK.ci ok25) (PC.OK.ci ok26) (PC.OK.ci ok16) (PC.OK.ci ok17) (PC.OK.ci ok23) (PC.OK.ci ok22))
    (fn := Try.f19) rfl (by decide +kernel) rfl fun _ _ => by
  refine g19_eq.mpr ?_
  simp [v1, v2, v3, v4, v5, v6]

theorem take_min (c : List Int) : c.take (min (c.length : Int) 41).toNat = c.take 41 := by
  have e : (min (c.length : Int) 41).toNat = min c.length 41 := by omega
  rw [e]
  rcases Nat.le_total c.length 41 with h | h
  · rw [Nat.min_eq_left h, List.take_length, List.take_of_length_le h]
  · rw [Nat.min_eq_right h]

theorem badArg_zero (l : List Sp) (c : List Int) : badArg l c 0 = if checkF l = 0 then (if c.length = l.length then 0 else 1) else checkF l := by
  unfold badArg; simp
theorem badArg_succ {l : List Sp} {c : List Int} {k : Nat} (hk : k < c.length) (h : badArg l c k = 0) : badArg l c (k + 1) = if c.getD k 0 < 0 then 1 else 0 := by
  unfold badArg at h ⊢
  rw [take_any _ c 0 k hk]
  split at h
  · rename_i h1
    split at h
    · rename_i h2
      split at h
      · cases h
      · rename_i h3
        rw [if_pos h1, if_pos h2]
        simp at h3
        by_cases h4 : c.getD k 0 < 0
        · rw [if_pos h4, if_pos]
          rw [decide_eq_true h4, Bool.or_true]
        · rw [if_neg h4, if_neg]
          rw [decide_eq_false h4, Bool.or_false]
          simpa using h3
    · cases h
  · rename_i h1; exact absurd h h1
theorem badArg_fin {l : List Sp} {c : List Int} {k : Nat} (hk : k ≤ c.length) (h : badArg l c k = 0 → k = c.length) : properP l c = if badArg l c k = 0 then (properR l c, 0) else (false, badArg l c k) := by
  have key : badArg l c k = if checkF l = 0 then (if c.length = l.length ∧ c.any (fun x => decide (x < 0)) = false then 0 else 1) else checkF l := by
    by_cases hz : badArg l c k = 0
    · have e := h hz
      subst e
      unfold badArg
      rw [List.take_length]
      split
      · split
        · split
          · rename_i h3; rw [if_neg (by rw [h3]; simp)]
          · rename_i h2 h3; rw [if_pos ⟨h2, by simpa using h3⟩]
        · rename_i h2; rw [if_neg (fun h => h2 h.1)]
      · rfl
    · unfold badArg at hz ⊢
      split
      · rename_i h1
        rw [if_pos h1] at hz
        split
        · rename_i h2
          rw [if_pos h2] at hz
          split
          · rename_i h3
            rw [if_neg]
            rintro ⟨_, h4⟩
            obtain ⟨x, hx, hx2⟩ := List.any_eq_true.1 h3
            have := List.any_eq_false.1 h4 x (List.mem_of_mem_take hx)
            exact this hx2
          · rename_i h3; rw [if_neg h3] at hz; exact absurd rfl hz
        · rename_i h2; rw [if_neg (fun h => h2 h.1)]
      · rfl
  rw [key]
  unfold properP
  split
  · split
    · rfl
    · rfl
  · rename_i h1; first | rfl | rw [if_neg h1]

theorem badArg_len {l : List Sp} {c : List Int} {k : Nat} (h : badArg l c k = 0) : c.length = l.length := by
  unfold badArg at h
  split at h
  · split at h
    · assumption
    · cases h
  · rename_i h1; exact absurd h h1

theorem ok4 : p4.OK Try.prog := p4.ok C4 (fun _ => cx5 (PC.OK.ci ok15) (PC.OK.ci ok23) (PC.OK.ci ok18) (PC.OK.ci ok24) (PC.OK.ci ok19)) (fn := Try.f4) rfl (by decide +kernel) rfl fun (p : List Sp × List Int) _ => by
  obtain ⟨xs, c⟩ := p
  refine (g4_eq xs c).mpr ?_
  simp only [pp1, eq_self, and_true, true_and, and_self, Int.toNat_natCast, List.drop_zero, take_min]
  have hl : (xs.take 41).length ≤ 41 := by simp; omega
  have hd : (c.take 41).length ≤ 41 := by simp; omega
  have h0 : ((0 : Nat) : Int) = 0 := rfl
  refine ⟨⟨by omega, by omega, by omega⟩, ?_⟩
  generalize xs.take 41 = l at *
  generalize c.take 41 = d at *
  have small : Small (0 + d.length) := small_of (by omega)
  -- what each round of the loop leaves, and what stands behind it
  have round : ∀ k : Nat, (k : Int) < d.length → badArg l d k = 0 → (0 ≤ (k : Int) ∧ (k : Int) < d.length) ∧
      (d.getD k 0 < 0 → Fits IntKind.i64 ((k : Int) + 1) ∧ ∃ x' : Nat, x' ≤ d.length ∧ d.length - x' < d.length - k ∧ (k : Int) + 1 = x' ∧ 1 = badArg l d x') ∧
      (¬ d.getD k 0 < 0 → Fits IntKind.i64 ((k : Int) + 1) ∧ ∃ x' : Nat, x' ≤ d.length ∧ d.length - x' < d.length - k ∧ (k : Int) + 1 = x' ∧ badArg l d k = badArg l d x') := fun k h1 h2 =>
    ⟨by omega, fun h3 => ⟨fits_nat (by omega), k + 1, by omega, by omega, by omega, by rw [badArg_succ (by omega) h2, if_pos h3]⟩,
      fun h3 => ⟨fits_nat (by omega), k + 1, by omega, by omega, by omega, by rw [badArg_succ (by omega) h2, if_neg h3, h2]⟩⟩
  have fin : ∀ k : Nat, k ≤ d.length → (badArg l d k = 0 → k = d.length) →
      (¬badArg l d k = 0 → ((!(properP l d).fst) = true → ((properP l d).snd = badArg l d k → (properP l d).snd = badArg l d k) ∧ (¬(properP l d).snd = badArg l d k → false = true)) ∧ ((!(properP l d).fst) = false → false = true)) ∧
      (¬¬badArg l d k = 0 → (l.length ≤ 1000 ∧ d.length = l.length) ∧ ((properP l d).fst = properR l d → ((properP l d).snd = 0 → (properP l d).snd = 0) ∧ (¬(properP l d).snd = 0 → false = true)) ∧ (¬(properP l d).fst = properR l d → false = true)) := by
    intro k hk h
    have hp := badArg_fin hk h
    refine ⟨fun h1 => ?_, fun h1 => ?_⟩
    · rw [if_neg h1] at hp
      rw [hp]
      simp
    · have h1' := Classical.not_not.1 h1
      rw [if_pos h1'] at hp
      rw [hp]
      have := badArg_len h1'
      refine ⟨⟨by omega, this⟩, ?_⟩
      simp
  have all : ∀ v : Int, v = badArg l d 0 → (∃ x0 : Nat, x0 ≤ d.length ∧ (0 : Int) = x0 ∧ v = badArg l d x0) := fun v hv => ⟨0, by omega, rfl, hv⟩
  have hz := badArg_zero l d
  refine ⟨small, ⟨by omega, by omega⟩, by omega, fun h1 => ⟨fun h2 => ⟨all _ ?_, fun k hk => ⟨fun h3 => ⟨fun h4 => round k h3 h4, fun h4 => fin k hk fun h => absurd h h4⟩, fun h3 => fin k hk fun _ => by omega⟩⟩,
    fun h2 => ⟨all _ ?_, fun k hk => ⟨fun h3 => ⟨fun h4 => round k h3 h4, fun h4 => fin k hk fun h => absurd h h4⟩, fun h3 => fin k hk fun _ => by omega⟩⟩⟩,
    fun h1 => ⟨all _ ?_, fun k hk => ⟨fun h3 => ⟨fun h4 => round k h3 h4, fun h4 => fin k hk fun h => absurd h h4⟩, fun h3 => fin k hk fun _ => by omega⟩⟩⟩
  · rw [hz, if_pos h1, if_neg (by omega)]
  · rw [hz, if_pos h1, if_pos (by omega), h1]
  · rw [hz, if_neg h1]
end Go.SX.Sh
