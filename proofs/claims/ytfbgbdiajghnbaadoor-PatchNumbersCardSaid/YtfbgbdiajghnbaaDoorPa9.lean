/- Chapter 06, part 9: the law PatchNumbers. -/
import Derived.Test.YtfbgbdiajghnbaaDoorPa8Q
namespace Go.SX.Pa
open Go Go.Proofs

theorem waks_eq (k : Int) : (k - 1) * 2 ^ k.toNat + 1 = k * 2 ^ k.toNat - 1 * 2 ^ k.toNat + 1 := by
  rw [Int.sub_mul]
theorem waks_fits2 {k : Int} (h1 : 1 ≤ k) (h2 : k ≤ 20) : Fits .i64 (k * 2 ^ k.toNat) ∧ Fits .i64 (1 * 2 ^ k.toNat) ∧ Fits .i64 (k * 2 ^ k.toNat - 1 * 2 ^ k.toNat) ∧ Fits .i64 (k * 2 ^ k.toNat - 1 * 2 ^ k.toNat + 1) := by
  have hp : (2 : Int) ^ k.toNat ≤ 2 ^ 20 := by
    have : (2 : Nat) ^ k.toNat ≤ 2 ^ 20 := Nat.pow_le_pow_right (by omega) (by omega)
    exact_mod_cast this
  have hp0 : (0 : Int) < 2 ^ k.toNat := Int.pow_pos (by omega)
  have h0 : 0 ≤ k * 2 ^ k.toNat := Int.mul_nonneg (by omega) (by omega)
  have h3 : k * 2 ^ k.toNat ≤ 20 * 2 ^ 20 := Int.mul_le_mul (by omega) hp (by omega) (by omega)
  have e : (2 : Int) ^ 20 = 1048576 := by decide
  rw [e] at h3 hp
  exact ⟨fits_i64 (by omega) (by omega), fits_i64 (by omega) (by omega), fits_i64 (by omega) (by omega), fits_i64 (by omega) (by omega)⟩
theorem pow_small {k : Int} (h : 1 ≤ k ∧ k ≤ 2) : (0 : Int) ≤ 1 * 2 ^ k.toNat ∧ (1 : Int) * 2 ^ k.toNat ≤ 1000000 := by
  have : k = 1 ∨ k = 2 := by omega
  rcases this with rfl | rfl <;> decide

theorem ok3 : p3.OK Tryd.prog := p3.ok (fun _ => cx [p17.ci, p18.ci, p19.ci, p20.ci, p21.ci, p22.ci, p23.ci, p24.ci, p25.ci] []) (fun _ => cx_ok (cs := [p17.ci, p18.ci, p19.ci, p20.ci, p21.ci, p22.ci, p23.ci, p24.ci, p25.ci]) ⟨PC.OK.ci ok17, PC.OK.ci ok18, PC.OK.ci ok19, PC.OK.ci ok20, PC.OK.ci ok21, PC.OK.ci ok22, PC.OK.ci ok23, PC.OK.ci ok24, PC.OK.ci ok25, trivial⟩ _) (fn := Tryd.f3) rfl (by decide +kernel) rfl fun (p : Int × List Int × Cl) _ => by
  obtain ⟨k, l, c⟩ := p
  refine (g3_eq k l c).mpr ?_
  have hl : (l.take 13).length ≤ 1000 := by rw [List.length_take]; omega
  generalize l.take 13 = q at hl ⊢
  obtain ⟨n, r, m⟩ := c
  -- the third question
  obtain ⟨s, e, hs, hs1, hs2⟩ : ∃ (s : Bool) (e : Int), strictF n r m = (s, e) ∧ (ClosP n r m → s = decide (2 * n - 1 ≤ m ∨ r = 1 ∧ n ≤ m) ∧ e = 0 ∧ Fits .i64 (2 * n) ∧ Fits .i64 (2 * n - 1)) ∧ (¬ ClosP n r m → s = false ∧ e = 1) := by
    unfold strictF
    by_cases h : ClosP n r m
    · rw [if_pos h]
      have h' := h
      unfold ClosP at h'
      exact ⟨_, _, rfl, fun _ => ⟨rfl, rfl, fits_i64 (by omega) (by omega), fits_i64 (by omega) (by omega)⟩, fun h2 => absurd h h2⟩
    · rw [if_neg h]
      exact ⟨_, _, rfl, fun h2 => absurd h2 h, fun _ => ⟨rfl, rfl⟩⟩
  obtain ⟨w2, e2, hw, hw1, hw2⟩ : ∃ w2 e2 : Int, waksF k = (w2, e2) ∧ (1 ≤ k ∧ k ≤ 20 → w2 = k * 2 ^ k.toNat - 1 * 2 ^ k.toNat + 1 ∧ e2 = 0) ∧ (¬ (1 ≤ k ∧ k ≤ 20) → w2 = 0 ∧ e2 = 1) := by
    unfold waksF
    by_cases h : 1 ≤ k ∧ k ≤ 20
    · rw [if_pos h]
      exact ⟨_, _, rfl, fun _ => ⟨waks_eq k, rfl⟩, fun h2 => absurd h h2⟩
    · rw [if_neg h]
      exact ⟨_, _, rfl, fun h2 => absurd h2 h, fun _ => ⟨rfl, rfl⟩⟩
  simp only [hs, hw]
  by_cases hc : ClosP n r m
  · obtain ⟨rfl, rfl, g1, g2⟩ := hs1 hc
    have dc := decide_eq_true hc
    by_cases h12 : 1 ≤ k ∧ k ≤ 2
    · have hk20 : 1 ≤ k ∧ k ≤ 20 := by omega
      obtain ⟨rfl, rfl⟩ := hw1 hk20
      have ff := waks_fits2 hk20.1 hk20.2
      simp only [Int.one_mul] at ff
      obtain ⟨f1, f2, f3, f4⟩ := ff
      have pw := pow_small h12
      simp only [Int.one_mul] at pw
      obtain ⟨pw1, pw2⟩ := pw
      have b0 : 0 ≤ k := by omega
      have b64 : k < 64 := by omega
      have d12 := decide_eq_true h12
      have d20 := decide_eq_true hk20
      by_cases hp : PermP q (1 * 2 ^ k.toNat)
      · have dp := decide_eq_true hp
        rw [Int.one_mul] at dp
        have hv : waysF k q = (((waysTo k.toNat q (2 ^ swN k.toNat) : Nat) : Int), 0) := by
          unfold waysF; rw [if_pos h12, if_pos (by rw [Int.one_mul] at hp; exact hp)]
        by_cases a1 : 2 * n - 1 ≤ m <;> by_cases a2 : r = 1 <;> by_cases a3 : n ≤ m <;> (simp only [hv, d12, d20, dp, dc, Int.one_mul]; simp [f1, f2, f3, f4, pw1, pw2, hl, b0, b64, g1, g2, a1, a2, a3, h12.1, h12.2])
      · have dp := decide_eq_false hp
        rw [Int.one_mul] at dp
        have hv : waysF k q = (0, 2) := by
          unfold waysF; rw [if_pos h12, if_neg (by rw [Int.one_mul] at hp; exact hp)]
        by_cases a1 : 2 * n - 1 ≤ m <;> by_cases a2 : r = 1 <;> by_cases a3 : n ≤ m <;> (simp only [hv, d12, d20, dp, dc, Int.one_mul]; simp [f1, f2, f3, f4, pw1, pw2, hl, b0, b64, g1, g2, a1, a2, a3, h12.1, h12.2])
    · have hv : waysF k q = (0, 1) := by unfold waysF; rw [if_neg h12]
      have d12 := decide_eq_false h12
      by_cases hk20 : 1 ≤ k ∧ k ≤ 20
      · obtain ⟨rfl, rfl⟩ := hw1 hk20
        have ff := waks_fits2 hk20.1 hk20.2
        simp only [Int.one_mul] at ff
        obtain ⟨f1, f2, f3, f4⟩ := ff
        have b0 : 0 ≤ k := by omega
        have b64 : k < 64 := by omega
        have d20 := decide_eq_true hk20
        by_cases a1 : 2 * n - 1 ≤ m <;> by_cases a2 : r = 1 <;> by_cases a3 : n ≤ m <;> (simp only [hv, d12, d20, dc, Int.one_mul]; simp [f1, f2, f3, f4, hl, b0, b64, g1, g2, a1, a2, a3])
      · obtain ⟨rfl, rfl⟩ := hw2 hk20
        have d20 := decide_eq_false hk20
        by_cases a1 : 2 * n - 1 ≤ m <;> by_cases a2 : r = 1 <;> by_cases a3 : n ≤ m <;> (simp only [hv, d12, d20, dc, Int.one_mul]; simp [hl, g1, g2, a1, a2, a3])
  · obtain ⟨rfl, rfl⟩ := hs2 hc
    have dc := decide_eq_false hc
    by_cases h12 : 1 ≤ k ∧ k ≤ 2
    · have hk20 : 1 ≤ k ∧ k ≤ 20 := by omega
      obtain ⟨rfl, rfl⟩ := hw1 hk20
      have ff := waks_fits2 hk20.1 hk20.2
      simp only [Int.one_mul] at ff
      obtain ⟨f1, f2, f3, f4⟩ := ff
      have pw := pow_small h12
      simp only [Int.one_mul] at pw
      obtain ⟨pw1, pw2⟩ := pw
      have b0 : 0 ≤ k := by omega
      have b64 : k < 64 := by omega
      have d12 := decide_eq_true h12
      have d20 := decide_eq_true hk20
      by_cases hp : PermP q (1 * 2 ^ k.toNat)
      · have dp := decide_eq_true hp
        rw [Int.one_mul] at dp
        have hv : waysF k q = (((waysTo k.toNat q (2 ^ swN k.toNat) : Nat) : Int), 0) := by
          unfold waysF; rw [if_pos h12, if_pos (by rw [Int.one_mul] at hp; exact hp)]
        (simp only [hv, d12, d20, dp, dc, Int.one_mul]; simp [f1, f2, f3, f4, pw1, pw2, hl, b0, b64, h12.1, h12.2])
      · have dp := decide_eq_false hp
        rw [Int.one_mul] at dp
        have hv : waysF k q = (0, 2) := by
          unfold waysF; rw [if_pos h12, if_neg (by rw [Int.one_mul] at hp; exact hp)]
        (simp only [hv, d12, d20, dp, dc, Int.one_mul]; simp [f1, f2, f3, f4, pw1, pw2, hl, b0, b64, h12.1, h12.2])
    · have hv : waysF k q = (0, 1) := by unfold waysF; rw [if_neg h12]
      have d12 := decide_eq_false h12
      by_cases hk20 : 1 ≤ k ∧ k ≤ 20
      · obtain ⟨rfl, rfl⟩ := hw1 hk20
        have ff := waks_fits2 hk20.1 hk20.2
        simp only [Int.one_mul] at ff
        obtain ⟨f1, f2, f3, f4⟩ := ff
        have b0 : 0 ≤ k := by omega
        have b64 : k < 64 := by omega
        have d20 := decide_eq_true hk20
        (simp only [hv, d12, d20, dc, Int.one_mul]; simp [f1, f2, f3, f4, hl, b0, b64])
      · obtain ⟨rfl, rfl⟩ := hw2 hk20
        have d20 := decide_eq_false hk20
        (simp only [hv, d12, d20, dc, Int.one_mul]; simp [hl])
end Go.SX.Pa
