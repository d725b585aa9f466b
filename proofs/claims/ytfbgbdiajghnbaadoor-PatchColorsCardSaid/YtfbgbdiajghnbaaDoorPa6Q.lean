/- Chapter 06, part 6: the contract of Ways. -/
import Derived.Test.YtfbgbdiajghnbaaDoorPa6E
namespace Go.SX.Pa
open Go Go.Proofs

theorem and_one {y : Int} (h : 0 ≤ y ∧ y < 64) : bitsF .and .i64 y 1 = y % 2 := by
  have key : ∀ z : Fin 64, bitsF .and .i64 ((z : Nat) : Int) 1 = ((z : Nat) : Int) % 2 := by decide +kernel
  have := key ⟨y.toNat, by omega⟩
  simpa [Int.toNat_of_nonneg h.1] using this
theorem wrap_small {y : Int} (h : 0 ≤ y ∧ y < 64) : IntKind.u8.wrap y = y := by
  have key : ∀ z : Fin 64, IntKind.u8.wrap ((z : Nat) : Int) = ((z : Nat) : Int) := by decide +kernel
  have := key ⟨y.toNat, by omega⟩
  simpa [Int.toNat_of_nonneg h.1] using this
theorem letter_eq {x i : Nat} (h : x < 64) : IntKind.u8.wrap (48 + IntKind.u8.wrap (bitsF .and .i64 ((x : Int) / 2 ^ i) 1)) = ((48 + (x >>> i) % 2 : Nat) : Int) := by
  have e : (x : Int) / 2 ^ i = ((x / 2 ^ i : Nat) : Int) := by simp
  have hle : x / 2 ^ i ≤ x := Nat.div_le_self _ _
  rw [e, Nat.shiftRight_eq_div_pow]
  generalize x / 2 ^ i = d at hle ⊢
  rw [and_one (by omega), wrap_small (y := (d : Int) % 2) (by omega), wrap_small (by omega)]
  omega
theorem letters_length (x n : Nat) : (letters x n).length = n := by simp [letters]
theorem letTo_length (x n i : Nat) (h : i ≤ n) : (letTo x n i).length = n := by simp [letTo, letters_length]; omega
theorem letTo_all (x n : Nat) : letTo x n n = letters x n := by
  unfold letTo
  rw [List.take_of_length_le (by rw [letters_length]; exact Nat.le_refl _)]
  simp
theorem letTo_set (x n i : Nat) (h : i < n) : (letTo x n i).set i ((48 + (x >>> i) % 2 : Nat) : Int) = letTo x n (i + 1) := by
  unfold letTo
  have hl : ((letters x n).take i).length = i := by rw [List.length_take, letters_length]; omega
  rw [List.set_append, if_neg (by omega), hl, Nat.sub_self]
  obtain ⟨m, hm⟩ : ∃ m, n - i = m + 1 := ⟨n - i - 1, by omega⟩
  rw [hm, show n - (i + 1) = m by omega, List.replicate_succ, List.set_cons_zero, take_snoc (letters x n) 0 i (by rw [letters_length]; exact h)]
  have : (letters x n).getD i 0 = ((48 + (x >>> i) % 2 : Nat) : Int) := by simp [letters, List.getD, h]
  rw [this, List.append_assoc]
  rfl
theorem cmpTo_succ (a b : List Int) (i : Nat) : cmpTo a b (i + 1) = (cmpTo a b i && decide (a.getD i 0 = b.getD i 0)) := by
  simp [cmpTo, List.range_succ]
theorem cmpTo_all {a b : List Int} (h : a.length = b.length) : cmpTo a b a.length = decide (a = b) := by
  unfold cmpTo
  apply Bool.eq_iff_iff.2
  rw [List.all_eq_true, decide_eq_true_iff]
  constructor
  · intro h1
    apply List.ext_getElem h
    intro i h2 h3
    have := h1 i (List.mem_range.2 h2)
    rw [decide_eq_true_iff] at this
    simpa [List.getD, List.getElem?_eq_getElem h2, List.getElem?_eq_getElem h3] using this
  · rintro rfl i _
    simp
theorem writ_size (x n : Nat) : (writ x n).size = n := by
  show (strOf (letters x n)).size = n
  simp [strOf, letters_length, ByteArray.size]
theorem writ_bt (x n i : Nat) (h : i < n) : bt (writ x n) i = ((48 + (x >>> i) % 2 : Nat) : Int) := by
  unfold writ bt strOf
  have : i < (letters x n).length := by rw [letters_length]; exact h
  have e : (letters x n)[i]'this = ((48 + (x >>> i) % 2 : Nat) : Int) := by simp [letters]
  simp [List.getElem?_eq_getElem this, e]
  omega
theorem writ_bits (x n : Nat) : Bits (writ x n) := fun i hi => by
  rw [writ_size] at hi
  rw [writ_bt x n i hi]
  omega
theorem waysTo_succ (k : Nat) (l : List Int) (x : Nat) : waysTo k l (x + 1) = waysTo k l x + if applyF k (writ x (swN k)) = l then 1 else 0 := by
  unfold waysTo
  rw [List.range_succ, List.countP_append]
  simp [List.countP_cons]
theorem waysTo_le (k : Nat) (l : List Int) (x : Nat) : waysTo k l x ≤ x := by
  have := List.countP_le_length (p := fun y => decide (applyF k (writ y (swN k)) = l)) (l := List.range x)
  simpa [waysTo] using this

theorem ok18 : p18.OK Tryd.prog := p18.ok C18 (fun _ => cx3 (PC.OK.ci ok51) (PC.OK.ci ok52) (PC.OK.ci ok53)) (fn := Tryd.f18) rfl (by decide +kernel) rfl fun (p : Int × List Int) hp => by
  obtain ⟨k, l⟩ := p
  refine (g18_eq k l).mpr ?_
  have hp : l.length ≤ 1000 := hp
  simp only [pp1, eq_self, and_true, true_and, and_self, Int.toNat_natCast, List.drop_zero]
  unfold waysF
  refine ⟨fun h => by rw [if_neg (by omega)], fun h => ⟨fun h1 => by rw [if_neg (by omega)], fun h1 => ?_⟩⟩
  rw [if_pos (by omega)]
  obtain ⟨K, hK⟩ : ∃ K : Nat, k = (K : Nat) := ⟨k.toNat, by omega⟩
  subst hK
  have hK : K = 1 ∨ K = 2 := by omega
  have eS : switchesF (K : Int) = (swN K : Nat) := by rcases hK with rfl | rfl <;> decide
  have z : swN K ≤ 6 ∧ 2 ^ swN K ≤ 64 ∧ (2 : Nat) ^ K ≤ 4 ∧ 2 ^ K = 2 * hN K := by rcases hK with rfl | rfl <;> decide
  obtain ⟨z1, z2, z3, z4⟩ := z
  simp only [eS, Int.toNat_natCast, Int.one_mul]
  have e2 : ((2 : Int) ^ K) = ((2 ^ K : Nat) : Int) := by simp
  have e3 : ((2 : Int) ^ swN K) = ((2 ^ swN K : Nat) : Int) := by simp
  rw [e2, e3]
  generalize hW : (2 : Nat) ^ swN K = W at *
  generalize hV : (2 : Nat) ^ K = V at *
  refine ⟨by omega, fits_i64 (by omega) (by omega), hp, fun h2 => ?_, fun h2 => ?_⟩
  · rw [Bool.not_eq_true'] at h2
    rw [if_neg (of_decide_eq_false h2)]
  · have h2 : PermP l (V : Int) := by simpa using h2
    rw [if_pos h2]
    have hl : l.length = V := by have := h2.1; omega
    refine ⟨by omega, by omega, fits_i64 (by omega) (by omega), ⟨0, by omega, rfl, by simp [waysTo]⟩, fun x hx => ⟨fun h3 => ⟨by omega, ⟨by omega, by omega, by unfold Small; omega⟩, ⟨0, by omega, by simp [letTo], rfl⟩, fun i hi => ⟨fun h4 => ?_, fun h4 => ?_⟩⟩, fun h3 => ?_⟩⟩
    · rw [List.length_replicate] at h4
      rw [letter_eq (by omega), letTo_set x _ i (by omega), letTo_length x _ i hi]
      exact ⟨by omega, by omega, fits_nat (by omega), i + 1, by omega, by omega, rfl, by simp⟩
    · rw [List.length_replicate] at h4
      have : i = swN K := by omega
      subst this
      simp only [letTo_all x (swN K), show strOf (letters x (swN K)) = writ x (swN K) from rfl]
      have hg := applyF_good K (by omega) (by omega) (writ x (swN K)) (writ_size _ _) (writ_bits _ _)
      have hal : (applyF K (writ x (swN K))).length = l.length := by rw [hg.1, hl, z4]
      have hw := waysTo_succ K l x
      have hwl := waysTo_le K l x
      have hall := cmpTo_all hal
      have hsu := cmpTo_succ (applyF K (writ x (swN K))) l
      refine ⟨⟨by omega, writ_size _ _, writ_bits _ _⟩, ⟨0, by omega, rfl, by simp [cmpTo]⟩, fun j hj => ⟨fun h5 => ⟨by omega, fun h6 => ⟨by omega, fits_nat (by omega), j + 1, by omega, by omega, by simp, ?_⟩, fun h6 => ⟨fits_nat (by omega), j + 1, by omega, by omega, by simp, ?_⟩⟩, fun h5 => ?_⟩⟩
      · rw [hsu, h6, Bool.true_and]
      · rw [hsu, h6, Bool.false_and]
      · have : j = (applyF K (writ x (swN K))).length := by omega
        subst this
        rw [hall]
        refine ⟨fun h6 => ⟨fits_nat (by omega), fits_nat (by omega), x + 1, by omega, by omega, by simp, ?_⟩, fun h6 => ⟨fits_nat (by omega), x + 1, by omega, by omega, by simp, ?_⟩⟩
        · rw [hw, if_pos (of_decide_eq_true h6)]; simp
        · rw [hw, if_neg (of_decide_eq_false h6)]; simp
    · have : x = W := by omega
      rw [this]
end Go.SX.Pa
