/- Chapter 06, part 8: the contract of the reference's Apply. -/
import Derived.Test.YtfbgbdiajghnbaaDoorPa8E
namespace Go.SX.Pa
open Go Go.Proofs

theorem one_letter {s : ByteArray} (h : s.size = 1) (hb : bt s 0 = 49) : s = ByteArray.mk #[49] := by
  have h' : s.data.size = 1 := h
  apply ByteArray.ext
  apply Array.ext
  · simpa using h'
  · intro i h1 h2
    have hi : i = 0 := by omega
    subst hi
    unfold bt at hb
    rw [Array.getElem?_eq_getElem h1] at hb
    simp only [Option.getD_some] at hb
    have : s.data[0] = 49 := UInt8.toNat_inj.1 (by have : (49 : UInt8).toNat = 49 := rfl; omega)
    rw [this]; rfl

theorem ok48 : p48.OK Tryd.prog := p48.rec_ok (fn := Tryd.f48) m53 C48 (fun _ h => cx2 (PC.OK.ci ok32) (PC.OK.ci h)) rfl (by decide +kernel) rfl fun (p : Int × ByteArray) hp => by
  obtain ⟨k, s⟩ := p
  refine (g48_eq k s).mpr ?_
  obtain ⟨⟨h1, h2⟩, h3, h4⟩ := hp
  have h1 : (1 : Int) ≤ k := h1
  have h2 : k ≤ (3 : Int) := h2
  have h3 : s.size = swN k.toNat := h3
  have hb : Bits s := h4
  simp only [pp1, eq_self, and_true, true_and, and_self, Int.toNat_natCast, List.drop_zero]
  refine ⟨fun h => ?_, fun h => ?_⟩
  · subst h
    have e : (1 : Int).toNat = 1 := rfl
    rw [e, swN_one] at h3
    have b := hb 0 (by omega)
    rw [e, applyF_one]
    refine ⟨fun h => by subst h; decide, fun h => ?_⟩
    rcases b with b | b
    · rw [b]; decide
    · exact absurd (one_letter h3 b) h
  · obtain ⟨K, hK⟩ : ∃ K : Nat, k = (K : Nat) := ⟨k.toNat, by omega⟩
    subst hK
    have hK : K = 2 ∨ K = 3 := by omega
    rw [Int.toNat_natCast] at h3
    have eK : ((K : Int) - 1).toNat = K - 1 := by omega
    have eH : (1 : Int) * 2 ^ (K - 1) = (hN K : Nat) := by rcases hK with rfl | rfl <;> decide
    have eS : switchesF ((K : Int) - 1) = (swN (K - 1) : Nat) := by rcases hK with rfl | rfl <;> decide
    have z : s.size = 2 * hN K + 2 * swN (K - 1) ∧ hN K ≤ 4 ∧ hN K = 2 * hN (K - 1) ∧ swN (K - 1) ≤ 6 := by
      rw [h3]
      rcases hK with rfl | rfl <;> decide
    obtain ⟨z1, z2, z3, z4⟩ := z
    simp only [eK, eH, eS, Int.toNat_natCast]
    have aEl : applyEl K s = elF (hN K) (swN (K - 1)) s (applyF (K - 1) (s.extract (hN K) (hN K + swN (K - 1)))) (applyF (K - 1) (s.extract (hN K + swN (K - 1)) (hN K + 2 * swN (K - 1)))) := rfl
    have hdone : (List.range (2 * hN K)).map (applyEl K s) = applyF K s := by rw [applyF_next K (by omega)]
    generalize hh : hN K = h at *
    generalize hn : swN (K - 1) = n at *
    have t1 : ((h : Int) + (n : Int)).toNat = h + n := by omega
    have t2 : ((h : Int) + 2 * (n : Int)).toNat = h + 2 * n := by omega
    have t3 : ((s.size : Int) - (h : Int)).toNat = h + 2 * n := by omega
    simp only [t1, t2, t3]
    have s0 : (s.extract h (h + n)).size = n := by rw [size_extract (by omega) (by omega)]; omega
    have s1 : (s.extract (h + n) (h + 2 * n)).size = n := by rw [size_extract (by omega) (by omega)]; omega
    have sl : (s.extract (h + 2 * n) s.size).size = h := by rw [size_extract (by omega) (by omega)]; omega
    have sf : (s.extract 0 h).size = h := by rw [size_extract (by omega) (by omega)]; omega
    have B0 : Bits (s.extract h (h + n)) := hb.extract (by omega) (by omega)
    have B1 : Bits (s.extract (h + n) (h + 2 * n)) := hb.extract (by omega) (by omega)
    have Bl : Bits (s.extract (h + 2 * n) s.size) := hb.extract (by omega) (by omega)
    have Bf : Bits (s.extract 0 h) := hb.extract (by omega) (by omega)
    obtain ⟨l0, r0⟩ := applyF_good (K - 1) (by omega) (by omega) _ (by rw [s0, hn]) B0
    obtain ⟨l1, r1⟩ := applyF_good (K - 1) (by omega) (by omega) _ (by rw [s1, hn]) B1
    rw [← z3] at l0 l1 r0 r1
    rw [s0, s1, sl, sf]
    generalize applyF (K - 1) (s.extract h (h + n)) = p0 at *
    generalize applyF (K - 1) (s.extract (h + n) (h + 2 * n)) = p1 at *
    have F := fun {a : Int} (q1 : -100 ≤ a) (q2 : a ≤ 100) => (fits_i64 (n := a) (by omega) (by omega))
    refine ⟨F (by omega) (by omega), by omega, F (by omega) (by omega), F (by omega) (by omega), by omega, by omega, F (by omega) (by omega), by omega, F (by omega) (by omega), F (by omega) (by omega), by omega, F (by omega) (by omega), F (by omega) (by omega), F (by omega) (by omega), F (by omega) (by omega), by omega,
      ⟨⟨by omega, by omega, fun i hi => B0 i (by omega)⟩, ?_⟩, ⟨⟨by omega, by omega, fun i hi => B1 i (by omega)⟩, ?_⟩, ⟨0, by omega, rfl, rfl⟩, fun x hx => ⟨F (by omega) (by omega), fun h5 => ?_, fun h5 => ?_⟩⟩
    · show K - 1 < (K : Int).toNat
      omega
    · show K - 1 < (K : Int).toNat
      omega
    · have hx' : x < 2 * h := by omega
      have tx : ((x : Int) / 2).toNat = x / 2 := by omega
      have b1 := Bf (x / 2) (by omega)
      simp only [tx, w8 b1, and_one (y := (x : Int)) (by omega)]
      have hx2 : (x : Int) % 2 = 0 ∨ (x : Int) % 2 = 1 := by omega
      have q1 := xr01 hx2 (show bt (s.extract 0 h) (x / 2) - 48 = 0 ∨ bt (s.extract 0 h) (x / 2) - 48 = 1 by omega)
      have hel : applyEl K s x = elF h n s p0 p1 x := by rw [aEl]
      unfold elF xr at hel
      simp only at hel
      have hsucc : (List.range (x + 1)).map (applyEl K s) = (List.range x).map (applyEl K s) ++ [applyEl K s x] := by simp [List.range_succ]
      rw [hel] at hsucc
      generalize bitsF .xor .i64 ((x : Int) % 2) (bt (s.extract 0 h) (x / 2) - 48) = p at q1 hsucc ⊢
      have a0 := r0 _ (getD_mem p0 0 (k := x / 2) (by omega))
      have a1 := r1 _ (getD_mem p1 0 (k := x / 2) (by omega))
      have hsz : ∀ (q : List Int), q.length = h → (0 : Int) ≤ (x : Int) / 2 ∧ (x : Int) / 2 < (q.length : Int) := fun q hq => by omega
      have hlm : ((List.range x).map (applyEl K s)).length = x := by simp
      rcases q1 with rfl | rfl
      · rw [if_pos rfl] at hsucc
        have e0 : [p0, p1].getD (Int.toNat 0) [] = p0 := rfl
        simp only [e0]
        have hz := hsz p0 l0
        generalize p0.getD (x / 2) 0 = y at a0 hsucc ⊢
        have b2 := Bl y.toNat (by omega)
        rw [w8 b2]
        have q2 := xr01 (a := 0) (.inl rfl) (show bt (s.extract (h + 2 * n) s.size) y.toNat - 48 = 0 ∨ bt (s.extract (h + 2 * n) s.size) y.toNat - 48 = 1 by omega)
        rw [xr_two (by omega) (.inl rfl) (by omega)] at hsucc
        exact ⟨by omega, F (by omega) (by omega), by omega, F (by omega) (by omega), by decide, by omega, F (by omega) (by omega), hz, F (by omega) (by omega), by omega, F (by omega) (by omega), F (by omega) (by omega), by rw [hlm]; unfold Small; omega, fits_nat (by omega), x + 1, by omega, by omega, hsucc.symm, by simp⟩
      · rw [if_neg (by decide)] at hsucc
        have e0 : [p0, p1].getD (Int.toNat 1) [] = p1 := rfl
        simp only [e0]
        have hz := hsz p1 l1
        generalize p1.getD (x / 2) 0 = y at a1 hsucc ⊢
        have b2 := Bl y.toNat (by omega)
        rw [w8 b2]
        have q2 := xr01 (a := 1) (.inr rfl) (show bt (s.extract (h + 2 * n) s.size) y.toNat - 48 = 0 ∨ bt (s.extract (h + 2 * n) s.size) y.toNat - 48 = 1 by omega)
        rw [xr_two (by omega) (.inr rfl) (by omega)] at hsucc
        exact ⟨by omega, F (by omega) (by omega), by omega, F (by omega) (by omega), by decide, by omega, F (by omega) (by omega), hz, F (by omega) (by omega), by omega, F (by omega) (by omega), F (by omega) (by omega), by rw [hlm]; unfold Small; omega, fits_nat (by omega), x + 1, by omega, by omega, hsucc.symm, by simp⟩
    · have : x = 2 * h := by omega
      subst this
      exact hdone

theorem ok23 : p23.OK Tryd.prog := p23.ok C23 (fun _ => cx_ok (cs := [p32.ci, p55.ci, p48.ci, p28.ci]) ⟨PC.OK.ci ok32, PC.OK.ci ok55, PC.OK.ci ok48, PC.OK.ci ok28, trivial⟩ _) (fn := Tryd.f23) rfl (by decide +kernel) rfl fun (p : Int × List Int) hp => by
  obtain ⟨k, l⟩ := p
  refine (g23_eq k l).mpr ?_
  obtain ⟨q1, q2, q3⟩ := hp
  have q1 : (1 : Int) ≤ k := q1
  have q2 : k ≤ (2 : Int) := q2
  have q3 : l.length ≤ 1000 := q3
  simp only [pp1, eq_self, and_true, true_and, and_self, Int.toNat_natCast, List.drop_zero]
  obtain ⟨K, hK⟩ : ∃ K : Nat, k = (K : Nat) := ⟨k.toNat, by omega⟩
  subst hK
  have hK : K = 1 ∨ K = 2 := by omega
  have eS : switchesF (K : Int) = (swN K : Nat) := by rcases hK with rfl | rfl <;> decide
  have z : swN K ≤ 6 ∧ 2 ^ swN K ≤ 64 ∧ hN K ≤ 4 := by rcases hK with rfl | rfl <;> decide
  obtain ⟨z1, z2, z3⟩ := z
  simp only [eS, Int.toNat_natCast, Int.one_mul]
  have e3 : ((2 : Int) ^ swN K) = ((2 ^ swN K : Nat) : Int) := by simp
  rw [e3]
  generalize hW : (2 : Nat) ^ swN K = W at *
  refine ⟨by omega, ⟨0, by omega, rfl, by simp [waysTo]⟩, fun x hx => ⟨by omega, fits_i64 (by omega) (by omega), fun h1 => ?_, fun h1 => ?_⟩⟩
  · have hg := applyF_good K (by omega) (by omega) (writ x (swN K)) (writ_size _ _) (writ_bits _ _)
    have hw := waysTo_succ K l x
    have hwl := waysTo_le K l x
    refine ⟨by omega, ⟨by omega, writ_size _ _, writ_bits _ _⟩, ⟨by rw [hg.1]; omega, q3⟩, fun h2 => ⟨fits_nat (by omega), fits_nat (by omega), x + 1, by omega, by omega, by simp, ?_⟩, fun h2 => ⟨fits_nat (by omega), x + 1, by omega, by omega, by simp, ?_⟩⟩
    · rw [hw, if_pos (of_decide_eq_true h2)]; simp
    · rw [hw, if_neg (of_decide_eq_false h2)]; simp
  · have : x = W := by omega
    rw [this]
end Go.SX.Pa
