/- Chapter 06, part 7: the contracts of what all laws call. -/
import Derived.Test.YtfbgbdiajghnbaaDoorPa7E
namespace Go.SX.Pa
open Go Go.Proofs

def zeros6 : ByteArray := ByteArray.mk #[48, 48, 48, 48, 48, 48]
theorem live1 : routeF 2 2 2 [2, 0, 1, 3] = ([0, 1, 0, 1], 0) := by decide +kernel
theorem live2 : strictF 2 2 2 = (false, 0) := by decide +kernel
theorem live3 : applyP 2 (ByteArray.mk #[48, 48, 48, 48, 48, 48]) = ([0, 1, 2, 3], 0) := by decide +kernel
theorem live4 : waysF 2 [0, 1, 2, 3] = (4, 0) := by decide +kernel
theorem live5 : waksF 3 = (17, 0) := by decide +kernel
theorem live6 : colorsF 2 2 [(0, 0), (0, 0), (1, 1)] = ([0, 1, 0], 0) := by decide +kernel

theorem ok25 : p25.OK Tryd.prog := p25.ok (fun _ => cx [p38.ci, p20.ci, p45.ci, p18.ci, p19.ci, p26.ci, p28.ci] []) (fun _ => cx_ok (cs := [p38.ci, p20.ci, p45.ci, p18.ci, p19.ci, p26.ci, p28.ci]) ⟨PC.OK.ci ok38, PC.OK.ci ok20, PC.OK.ci ok45, PC.OK.ci ok18, PC.OK.ci ok19, PC.OK.ci ok26, PC.OK.ci ok28, trivial⟩ _) (fn := Tryd.f25) rfl (by decide +kernel) rfl fun x _ => by
  obtain ⟨⟩ := x
  refine g25_eq.mpr ?_
  simp only [live1, live2, live3, live4, live5, live6, pp1, eq_self, and_true, true_and, and_self, decide_true, forall_const, List.length_cons, List.length_nil]
  simp
  try decide

theorem ok17 : p17.OK Tryd.prog := p17.ok (fun _ => cx [] []) (fun _ => cx0) (fn := Tryd.f17) rfl (by decide +kernel) rfl fun (l : List Int) _ => by
  refine (g17_eq l).mpr ?_
  simp only [pp1, eq_self, and_true, true_and, and_self, Int.toNat_natCast, List.drop_zero]
  have e : (min (l.length : Int) 13).toNat = min l.length 13 := by omega
  rw [e]
  refine ⟨by omega, by unfold Small; rw [List.length_take]; omega, ?_⟩
  rcases Nat.le_total l.length 13 with h | h
  · rw [Nat.min_eq_left h, List.take_of_length_le (Nat.le_refl _), List.take_of_length_le h]
  · rw [Nat.min_eq_right h]

theorem ok21 : p21.OK Tryd.prog := p21.ok (fun _ => cx [] []) (fun _ => cx0) (fn := Tryd.f21) rfl (by decide +kernel) rfl fun (p : Int × Int × Int) _ => by
  obtain ⟨a, b, c⟩ := p
  refine (g21_eq a b c).mpr ?_
  simp only [pp1, eq_self, and_true, true_and, and_self]
  exact ⟨fun h => decide_eq_decide.2 (by omega), fun h => (decide_eq_false (by omega)).symm⟩

theorem ok24 : p24.OK Tryd.prog := p24.ok (fun _ => cx [p21.ci] []) (fun _ => cx1 (PC.OK.ci ok21)) (fn := Tryd.f24) rfl (by decide +kernel) rfl fun (p : Int × Int × Int) _ => by
  obtain ⟨n, r, m⟩ := p
  refine (g24_eq n r m).mpr ?_
  simp only [pp1, eq_self, and_true, true_and, and_self]
  refine ⟨fun h1 => ⟨fun h2 => ?_, fun h2 => ?_⟩, fun h1 => ?_⟩
  · have h1 := of_decide_eq_true h1
    have h2 := of_decide_eq_true h2
    refine ⟨mul_fits (by omega) (by omega) (by omega) (by omega), fun h3 => decide_eq_decide.2 ?_, fun h3 => (decide_eq_false fun h => h3 h.2.2.1).symm⟩
    unfold ClosP
    omega
  · have h2 := of_decide_eq_false h2
    exact (decide_eq_false fun h => h2 h.2.1).symm
  · have h1 := of_decide_eq_false h1
    exact (decide_eq_false fun h => h1 h.1).symm

theorem ok34 : p34.OK Tryd.prog := p34.ok C34 (fun _ => cx0) (fn := Tryd.f34) rfl (by decide +kernel) rfl fun (p : List Int × Int) hp => by
  obtain ⟨l, x⟩ := p
  refine (g34_eq l x).mpr ?_
  have hp : l.length ≤ 1000 := hp
  simp only [pp1, eq_self, and_true, true_and, and_self, Int.toNat_natCast]
  refine ⟨⟨0, ⟨by omega, by simp⟩, rfl⟩, fun k ⟨hk, hno⟩ => ⟨fun h1 => ?_, fun h1 => ?_⟩⟩
  · have hk' : k < l.length := by omega
    refine ⟨by omega, fun h2 => (decide_eq_true ?_).symm, fun h2 => ⟨fits_nat (by omega), k + 1, ⟨by omega, fun h3 => ?_⟩, by omega, by simp⟩⟩
    · rw [← h2]; exact getD_mem l 0 hk'
    · rcases (take_mem l 0 x k hk').1 h3 with h4 | h4
      · exact hno h4
      · exact h2 h4.symm
  · have : l.take k = l := List.take_of_length_le (by omega)
    rw [this] at hno
    exact (decide_eq_false hno).symm

theorem ok22 : p22.OK Tryd.prog := p22.ok C22 (fun _ => cx2 (PC.OK.ci ok21) (PC.OK.ci ok34)) (fn := Tryd.f22) rfl (by decide +kernel) rfl fun (p : Int × List Int) hp => by
  obtain ⟨n, l⟩ := p
  refine (g22_eq n l).mpr ?_
  obtain ⟨q1, q2, q3⟩ := hp
  have q1 : l.length ≤ 1000 := q1
  have q2 : (0 : Int) ≤ n := q2
  have q3 : n ≤ (1000000 : Int) := q3
  simp only [pp1, eq_self, and_true, true_and, and_self, Int.toNat_natCast, List.drop_zero]
  refine ⟨⟨0, ⟨by omega, by simp, by simp⟩, rfl⟩, fun k ⟨hk, hr, hn⟩ => ⟨fun h1 => ?_, fun h1 => ?_⟩⟩
  · have hk' : k < l.length := by omega
    have hm : l.getD k 0 ∈ l := getD_mem l 0 hk'
    refine ⟨by omega, fits_i64 (by omega) (by omega), fun h2 => ?_, fun h2 => ⟨by omega, by omega, by rw [List.length_take]; omega, fun h3 => ?_, fun h3 => ⟨fits_nat (by omega), k + 1, ⟨by omega, fun x hx => ?_, ?_⟩, by omega, by simp⟩⟩⟩
    · rw [Bool.not_eq_true'] at h2
      have h2 := of_decide_eq_false h2
      exact (decide_eq_false fun h => h2 (by have := h.2.1 _ hm; omega)).symm
    · have h3 := of_decide_eq_true h3
      refine (decide_eq_false fun h => ?_).symm
      have h7 : (l.take (k + 1)).Nodup := h.2.2.sublist (List.take_sublist _ _)
      rw [take_snoc l 0 k hk', List.nodup_append] at h7
      exact h7.2.2 _ h3 _ (by simp) rfl
    · rcases (take_mem l 0 x k hk').1 hx with h4 | h4
      · exact hr x h4
      · subst h4
        rw [Bool.not_eq_false'] at h2
        have h2 := of_decide_eq_true h2
        omega
    · rw [take_snoc l 0 k hk']; exact nodup_snoc hn (of_decide_eq_false h3)
  · have : l.take k = l := List.take_of_length_le (by omega)
    rw [this] at hr hn
    apply decide_eq_decide.2
    exact ⟨fun h => ⟨h, hr, hn⟩, fun h => h.1⟩

theorem ok32 : p32.OK Tryd.prog := p32.rec_ok (fn := Tryd.f32) (fun k : Int => k.toNat) C32 (fun _ h => cx1 (PC.OK.ci h)) rfl (by decide +kernel) rfl fun (k : Int) hk => by
  refine (g32_eq k).mpr ?_
  have hk : 1 ≤ k ∧ k ≤ 3 := hk
  have h3 : k = 1 ∨ k = 2 ∨ k = 3 := by omega
  simp only [pp1, eq_self, and_true, true_and, and_self]
  rcases h3 with rfl | rfl | rfl
  · exact ⟨fun _ => by decide, fun h => absurd rfl h⟩
  · exact ⟨fun h => absurd h (by decide), fun _ => ⟨by decide, fits_i64 (by decide) (by decide), fits_i64 (by decide) (by decide), by decide, fits_i64 (by decide) (by decide), fits_i64 (by decide) (by decide), by decide⟩⟩
  · exact ⟨fun h => absurd h (by decide), fun _ => ⟨by decide, fits_i64 (by decide) (by decide), fits_i64 (by decide) (by decide), by decide, fits_i64 (by decide) (by decide), fits_i64 (by decide) (by decide), by decide⟩⟩

theorem letter_eq1 {x i : Nat} (h : x < 64) : bitsF .and .i64 ((x : Int) / 2 ^ i) 1 = (((x >>> i) % 2 : Nat) : Int) := by
  have e : (x : Int) / 2 ^ i = ((x / 2 ^ i : Nat) : Int) := by simp
  have hle : x / 2 ^ i ≤ x := Nat.div_le_self _ _
  rw [e, Nat.shiftRight_eq_div_pow]
  generalize x / 2 ^ i = d at hle ⊢
  rw [and_one (by omega)]
  omega
theorem strOf_append (a b : List Int) : strOf a ++ strOf b = strOf (a ++ b) := by
  unfold strOf
  rw [List.map_append]
  apply ByteArray.ext
  simp
theorem writ_succ (x n : Nat) : writ x n ++ strOf [((48 + (x >>> n) % 2 : Nat) : Int)] = writ x (n + 1) := by
  unfold writ
  rw [strOf_append]
  simp [letters, List.range_succ]

theorem ok55 : p55.OK Tryd.prog := p55.ok C55 (fun _ => cx0) (fn := Tryd.f55) rfl (by decide +kernel) rfl fun (p : Int × Int) hp => by
  obtain ⟨x, n⟩ := p
  refine (g55_eq x n).mpr ?_
  obtain ⟨q1, q2, q3, q4⟩ := hp
  have q1 : (0 : Int) ≤ x := q1
  have q2 : x < (64 : Int) := q2
  have q3 : (0 : Int) ≤ n := q3
  have q4 : n ≤ (6 : Int) := q4
  obtain ⟨X, rfl⟩ : ∃ X : Nat, x = (X : Nat) := ⟨x.toNat, by omega⟩
  simp only [pp1, eq_self, and_true, true_and, and_self, Int.toNat_natCast]
  refine ⟨⟨0, by omega, rfl, rfl⟩, fun k hk => ⟨fun h1 => ?_, fun h1 => ?_⟩⟩
  · rw [letter_eq1 (by omega)]
    have ew : IntKind.u8.wrap (48 + ((X >>> k % 2 : Nat) : Int)) = ((48 + (X >>> k) % 2 : Nat) : Int) := by
      rw [wrap_small (by omega)]; omega
    rw [ew, writ_succ, writ_size]
    refine ⟨by omega, fits_i64 (by omega) (by omega), ?_, fits_nat (by omega), k + 1, by omega, by omega, by simp, rfl⟩
    have : (strOf [((48 + (X >>> k) % 2 : Nat) : Int)]).size = 1 := rfl
    rw [this]; unfold Small; omega
  · have : k = n.toNat := by omega
    rw [this]
end Go.SX.Pa
