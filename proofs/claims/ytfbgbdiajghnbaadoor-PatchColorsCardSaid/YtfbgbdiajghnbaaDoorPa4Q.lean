/- Chapter 06, part 4: apply, which calls itself: its contract. -/
import Derived.Test.YtfbgbdiajghnbaaDoorPa4E
namespace Go.SX.Pa
open Go Go.Proofs

theorem w8 {b : Int} (h : b = 48 ∨ b = 49) : IntKind.u8.wrap (b - 48) = b - 48 := by
  rcases h with rfl | rfl <;> decide
theorem xr01 {a b : Int} (ha : a = 0 ∨ a = 1) (hb : b = 0 ∨ b = 1) : bitsF .xor .i64 a b = 0 ∨ bitsF .xor .i64 a b = 1 := by
  rcases ha with rfl | rfl <;> rcases hb with rfl | rfl <;> decide
theorem xr_two {a p b : Int} (h : 0 ≤ a ∧ a < 4) (hp : p = 0 ∨ p = 1) (hb : b = 0 ∨ b = 1) : bitsF .xor .i64 (2 * a + p) b = 2 * a + bitsF .xor .i64 p b := by
  have : a = 0 ∨ a = 1 ∨ a = 2 ∨ a = 3 := by omega
  rcases this with rfl | rfl | rfl | rfl <;> rcases hp with rfl | rfl <;> rcases hb with rfl | rfl <;> decide
theorem bt_extract {s : ByteArray} {a b i : Nat} (h : a + i < b) (hb : b ≤ s.size) : bt (s.extract a b) i = bt s (a + i) := by
  unfold bt
  have e : (s.extract a b).data = s.data.extract a b := by simp
  have hb' : b ≤ s.data.size := hb
  rw [e, Array.getElem?_extract, if_pos (by omega)]
theorem size_extract {s : ByteArray} {a b : Nat} (_h : a ≤ b) (hb : b ≤ s.size) : (s.extract a b).size = b - a := by
  have : b ≤ s.data.size := hb
  simp
  omega
theorem Bits.extract {s : ByteArray} (h : Bits s) {a b : Nat} (hab : a ≤ b) (hb : b ≤ s.size) : Bits (s.extract a b) := fun i hi => by
  rw [size_extract hab hb] at hi
  rw [bt_extract (by omega) hb]
  exact h _ (by omega)

theorem swN_one : swN 1 = 1 := by decide
theorem swN_two : swN 2 = 6 := by decide
theorem swN_three : swN 3 = 20 := by decide

/-- An element lies below the number of inputs. -/
theorem elF_bound {h n : Nat} {s : ByteArray} {p0 p1 : List Int} {x : Nat} (hb : Bits s) (hs : s.size = 2 * h + 2 * n) (h4 : h ≤ 4) (hx : x < 2 * h) (l0 : p0.length = h) (l1 : p1.length = h) (r0 : ∀ y ∈ p0, 0 ≤ y ∧ y < h) (r1 : ∀ y ∈ p1, 0 ≤ y ∧ y < h) :
    0 ≤ elF h n s p0 p1 x ∧ elF h n s p0 p1 x < 2 * h := by
  unfold elF
  simp only
  have b1 := hb.extract (a := 0) (b := h) (by omega) (by omega) (x / 2) (by rw [size_extract (by omega) (by omega)]; omega)
  have hx2 : (x : Int) % 2 = 0 ∨ (x : Int) % 2 = 1 := by omega
  have q1 := xr01 hx2 (show bt (s.extract 0 h) (x / 2) - 48 = 0 ∨ bt (s.extract 0 h) (x / 2) - 48 = 1 by omega)
  change bitsF .xor .i64 _ _ = 0 ∨ _ at q1
  unfold xr
  generalize bitsF .xor .i64 ((x : Int) % 2) (bt (s.extract 0 h) (x / 2) - 48) = p at q1 ⊢
  have hat : 0 ≤ (if p = 0 then p0 else p1).getD (x / 2) 0 ∧ (if p = 0 then p0 else p1).getD (x / 2) 0 < h := by
    split
    · exact r0 _ (getD_mem p0 0 (by omega))
    · exact r1 _ (getD_mem p1 0 (by omega))
  generalize (if p = 0 then p0 else p1).getD (x / 2) 0 = at_ at hat ⊢
  have b2 := hb.extract (a := h + 2 * n) (b := s.size) (by omega) (by omega) at_.toNat (by rw [size_extract (by omega) (by omega)]; omega)
  have hb2 : bt (s.extract (h + 2 * n) s.size) at_.toNat - 48 = 0 ∨ bt (s.extract (h + 2 * n) s.size) at_.toNat - 48 = 1 := by omega
  rw [xr_two (by omega) q1 hb2]
  have := xr01 q1 hb2
  omega

theorem applyF_one (s : ByteArray) : applyF 1 s = [bt s 0 - 48, 1 - (bt s 0 - 48)] := rfl
theorem applyF_next (K : Nat) (h : 2 ≤ K) (s : ByteArray) : applyF K s = (List.range (2 * hN K)).map (applyEl K s) := by
  obtain ⟨k, rfl⟩ : ∃ k, K = k + 2 := ⟨K - 2, by omega⟩
  rfl
theorem applyF_good : (K : Nat) → 1 ≤ K → K ≤ 3 → (s : ByteArray) → s.size = swN K → Bits s → (applyF K s).length = 2 * hN K ∧ ∀ y ∈ applyF K s, 0 ≤ y ∧ y < (2 * hN K : Nat)
  | 0, h, _, _, _, _ => absurd h (by decide)
  | 1, _, _, s, hs, hb => by
    rw [applyF_one]
    have := hb 0 (by rw [hs, swN_one]; omega)
    have e : hN 1 = 1 := by decide
    rw [e]
    refine ⟨rfl, fun y hy => ?_⟩
    simp at hy
    omega
  | k + 2, _, h3, s, hs, hb => by
    have hsz : s.size = 2 * hN (k + 2) + 2 * swN (k + 1) ∧ hN (k + 2) ≤ 4 ∧ hN (k + 2) = 2 * hN (k + 1) := by
      have : k = 0 ∨ k = 1 := by omega
      rcases this with rfl | rfl
      · rw [hs]; decide
      · rw [hs]; decide
    obtain ⟨z1, z2, z3⟩ := hsz
    obtain ⟨l0, r0⟩ := applyF_good (k + 1) (by omega) (by omega) (s.extract (hN (k + 2)) (hN (k + 2) + swN (k + 1))) (by rw [size_extract (by omega) (by omega)]; omega) (hb.extract (by omega) (by omega))
    obtain ⟨l1, r1⟩ := applyF_good (k + 1) (by omega) (by omega) (s.extract (hN (k + 2) + swN (k + 1)) (hN (k + 2) + 2 * swN (k + 1))) (by rw [size_extract (by omega) (by omega)]; omega) (hb.extract (by omega) (by omega))
    rw [applyF_next (k + 2) (by omega)]
    refine ⟨by simp, fun y hy => ?_⟩
    obtain ⟨x, hx, rfl⟩ := List.mem_map.1 hy
    have := elF_bound hb z1 z2 (List.mem_range.1 hx) (by rw [l0, ← z3]) (by rw [l1, ← z3]) (fun y hy => by rw [z3]; exact r0 y hy) (fun y hy => by rw [z3]; exact r1 y hy)
    exact_mod_cast this

theorem applyTo_length (K : Nat) (s : ByteArray) (x : Nat) (h : x ≤ 2 * hN K) : (applyTo K s x).length = 2 * hN K := by simp [applyTo]; omega
theorem applyTo_set (K : Nat) (s : ByteArray) (x : Nat) (h : x < 2 * hN K) : (applyTo K s x).set x (applyEl K s x) = applyTo K s (x + 1) := by
  unfold applyTo
  rw [List.set_append, if_neg (by simp)]
  obtain ⟨m, hm⟩ : ∃ m, 2 * hN K - x = m + 1 := ⟨2 * hN K - x - 1, by omega⟩
  rw [hm, show 2 * hN K - (x + 1) = m by omega]
  simp [List.range_succ, List.replicate_succ]

theorem ok53 : p53.OK Tryd.prog := p53.rec_ok (fn := Tryd.f53) m53 C53 (fun _ h => cx2 (PC.OK.ci ok52) (PC.OK.ci h)) rfl (by decide +kernel) rfl fun (p : Int × ByteArray) hp => by
  obtain ⟨k, s⟩ := p
  refine (g53_eq k s).mpr ?_
  obtain ⟨⟨h1, h2⟩, h3, h4⟩ := hp
  have h1 : (1 : Int) ≤ k := h1
  have h2 : k ≤ (3 : Int) := h2
  have h3 : s.size = swN k.toNat := h3
  have hb : Bits s := h4
  simp only [pp1, eq_self, and_true, true_and, and_self, Int.toNat_natCast, List.drop_zero]
  refine ⟨fun h => ?_, fun h => ?_⟩
  · subst h
    have e : (1 : Int).toNat = 1 := rfl
    rw [e, swN_one] at h3
    have b := hb 0 (by omega)
    have e0 : Int.toNat 0 = 0 := rfl
    rw [e0, w8 b, e, applyF_one]
    exact ⟨by omega, fits_i64 (by omega) (by omega), fits_i64 (by omega) (by omega), rfl⟩
  · obtain ⟨K, hK⟩ : ∃ K : Nat, k = (K : Nat) := ⟨k.toNat, by omega⟩
    subst hK
    have hK : K = 2 ∨ K = 3 := by omega
    rw [Int.toNat_natCast] at h3
    have eK : ((K : Int) - 1).toNat = K - 1 := by omega
    have eH : (1 : Int) * 2 ^ (K - 1) = (hN K : Nat) := by rcases hK with rfl | rfl <;> decide
    have eS : switchesF ((K : Int) - 1) = (swN (K - 1) : Nat) := by rcases hK with rfl | rfl <;> decide
    have z : s.size = 2 * hN K + 2 * swN (K - 1) ∧ hN K ≤ 4 ∧ hN K = 2 * hN (K - 1) ∧ swN (K - 1) ≤ 6 := by
      rw [h3]
      rcases hK with rfl | rfl <;> decide
    obtain ⟨z1, z2, z3, z4⟩ := z
    simp only [eK, eH, eS, Int.toNat_natCast]
    have aEl : applyEl K s = elF (hN K) (swN (K - 1)) s (applyF (K - 1) (s.extract (hN K) (hN K + swN (K - 1)))) (applyF (K - 1) (s.extract (hN K + swN (K - 1)) (hN K + 2 * swN (K - 1)))) := rfl
    have hset := applyTo_set K s
    have hlen := applyTo_length K s
    have hdone : applyTo K s (2 * hN K) = applyF K s := by rw [applyF_next K (by omega)]; simp [applyTo]
    have hzero : applyTo K s 0 = List.replicate (2 * hN K) 0 := by simp [applyTo]
    generalize hh : hN K = h at *
    generalize hn : swN (K - 1) = n at *
    have t1 : ((h : Int) + (n : Int)).toNat = h + n := by omega
    have t2 : ((h : Int) + 2 * (n : Int)).toNat = h + 2 * n := by omega
    have t3 : (2 * (h : Int)).toNat = 2 * h := by omega
    simp only [t1, t2, t3, List.length_replicate]
    have s0 : (s.extract h (h + n)).size = n := by rw [size_extract (by omega) (by omega)]; omega
    have s1 : (s.extract (h + n) (h + 2 * n)).size = n := by rw [size_extract (by omega) (by omega)]; omega
    have sl : (s.extract (h + 2 * n) s.size).size = h := by rw [size_extract (by omega) (by omega)]; omega
    have sf : (s.extract 0 h).size = h := by rw [size_extract (by omega) (by omega)]; omega
    have B0 : Bits (s.extract h (h + n)) := hb.extract (by omega) (by omega)
    have B1 : Bits (s.extract (h + n) (h + 2 * n)) := hb.extract (by omega) (by omega)
    have Bl : Bits (s.extract (h + 2 * n) s.size) := hb.extract (by omega) (by omega)
    have Bf : Bits (s.extract 0 h) := hb.extract (by omega) (by omega)
    obtain ⟨l0, r0⟩ := applyF_good (K - 1) (by omega) (by omega) _ (by rw [s0, hn]) B0
    obtain ⟨l1, r1⟩ := applyF_good (K - 1) (by omega) (by omega) _ (by rw [s1, hn]) B1
    rw [← z3] at l0 l1 r0 r1
    rw [s0, s1, sl, sf]
    generalize applyF (K - 1) (s.extract h (h + n)) = p0 at *
    generalize applyF (K - 1) (s.extract (h + n) (h + 2 * n)) = p1 at *
    have F := fun {a : Int} (q1 : -100 ≤ a) (q2 : a ≤ 100) => (fits_i64 (n := a) (by omega) (by omega))
    refine ⟨F (by omega) (by omega), by omega, F (by omega) (by omega), F (by omega) (by omega), by omega, by omega, F (by omega) (by omega), F (by omega) (by omega), by omega, F (by omega) (by omega), F (by omega) (by omega), by omega, F (by omega) (by omega), F (by omega) (by omega), F (by omega) (by omega), F (by omega) (by omega), by omega,
      ⟨⟨by omega, by omega, fun i hi => B0 i (by omega)⟩, ?_⟩, ⟨⟨by omega, by omega, fun i hi => B1 i (by omega)⟩, ?_⟩, F (by omega) (by omega), ⟨by omega, by omega, by unfold Small; omega⟩, ⟨0, by omega, hzero.symm, rfl⟩, fun x hx => ⟨fun h5 => ?_, fun h5 => ?_⟩⟩
    · show K - 1 < (K : Int).toNat
      omega
    · show K - 1 < (K : Int).toNat
      omega
    · have hx' : x < 2 * h := by omega
      have tx : ((x : Int) / 2).toNat = x / 2 := by omega
      rw [tx]
      have b1 := Bf (x / 2) (by omega)
      rw [w8 b1]
      have hx2 : (x : Int) % 2 = 0 ∨ (x : Int) % 2 = 1 := by omega
      have q1 := xr01 hx2 (show bt (s.extract 0 h) (x / 2) - 48 = 0 ∨ bt (s.extract 0 h) (x / 2) - 48 = 1 by omega)
      have hel : applyEl K s x = elF h n s p0 p1 x := by rw [aEl]
      have hset := hset x hx'
      rw [hel] at hset
      unfold elF xr at hset
      simp only at hset
      have hlx := hlen x hx
      generalize bitsF .xor .i64 ((x : Int) % 2) (bt (s.extract 0 h) (x / 2) - 48) = p at q1 hset ⊢
      have a0 := r0 _ (getD_mem p0 0 (k := x / 2) (by omega))
      have a1 := r1 _ (getD_mem p1 0 (k := x / 2) (by omega))
      refine ⟨by omega, by omega, F (by omega) (by omega), by omega, F (by omega) (by omega), by omega, fun e => ?_, fun e => ?_⟩
      · rw [if_pos (by omega)] at hset
        generalize p0.getD (x / 2) 0 = y at a0 hset ⊢
        have b2 := Bl y.toNat (by omega)
        rw [w8 b2]
        exact ⟨by omega, F (by omega) (by omega), by omega, F (by omega) (by omega), F (by omega) (by omega), by omega, F (by omega) (by omega), by omega, fits_nat (by omega), x + 1, by omega, by omega, hset, by simp⟩
      · rw [if_neg (by omega)] at hset
        generalize p1.getD (x / 2) 0 = y at a1 hset ⊢
        have b2 := Bl y.toNat (by omega)
        rw [w8 b2]
        exact ⟨by omega, F (by omega) (by omega), by omega, F (by omega) (by omega), F (by omega) (by omega), by omega, F (by omega) (by omega), by omega, fits_nat (by omega), x + 1, by omega, by omega, hset, by simp⟩
    · have : x = 2 * h := by omega
      subst this
      exact hdone
end Go.SX.Pa
