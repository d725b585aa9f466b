/- Parts of the proof, one after the other: PaLx PaLw Pa17. -/
import Derived.Test.YtfbgbdiajghnbaaDoorM3
import Derived.Test.YtfbgbdiajghnbaaDoorM5
import Derived.Test.YtfbgbdiajghnbaaDoorM6
/- Chapter 06 in plain words, part Lx: the permutations of eight that an omega network passes, counted by the kernel. -/
namespace Go.SX.Pa
def insN (n c : Nat) (l : List Nat) : List Nat := l.take c ++ n :: l.drop c
def sumN (f : Nat → Nat) : Nat → Nat
  | 0 => 0
  | p + 1 => sumN f p + f p
def treeC : Nat → (List Nat → Nat) → Nat
  | 0, f => f []
  | n + 1, f => treeC n fun l => sumN (fun c => f (insN n c l)) (n + 1)
def nb (a b m : Nat) : Bool := !(Nat.beq (a / m) (b / m))
def chk : List Nat → Bool
  | [a, b, c, d, e, f, g, h] => nb a e 4 && (nb b f 4 && (nb c g 4 && (nb d h 4 && (nb a c 2 && (nb a e 2 && (nb a g 2 && (nb c e 2 && (nb c g 2 && (nb e g 2 && (nb b d 2 && (nb b f 2 && (nb b h 2 && (nb d f 2 && (nb d h 2 && nb f h 2))))))))))))))
  | _ => false
theorem tree_eight : treeC 8 (fun l => bif chk l then 1 else 0) = 4096 := by decide +kernel

end Go.SX.Pa

/- Chapter 06 in plain words, part Lw: the permutations that the omega networks pass are counted (Lawrie). -/
namespace Go.SX.Pa
/-! ### The tree counts all permutations by number -/
theorem sumN_congr {f g : Nat → Nat} : (n : Nat) → (∀ p, p < n → f p = g p) → sumN f n = sumN g n
  | 0, _ => rfl
  | n + 1, h => by
    unfold sumN
    rw [sumN_congr n fun p hp => h p (by omega), h n (by omega)]
theorem sumN_add (f g : Nat → Nat) : (n : Nat) → sumN (fun p => f p + g p) n = sumN f n + sumN g n
  | 0 => rfl
  | n + 1 => by
    unfold sumN
    rw [sumN_add f g n]; omega
theorem sumN_zero : (n : Nat) → sumN (fun _ => 0) n = 0
  | 0 => rfl
  | n + 1 => by unfold sumN; rw [sumN_zero n]
theorem sumN_app (f : Nat → Nat) (m : Nat) : (k : Nat) → sumN f (m + k) = sumN f m + sumN (fun q => f (m + q)) k
  | 0 => rfl
  | k + 1 => by
    show sumN f (m + k) + f (m + k) = sumN f m + (sumN (fun q => f (m + q)) k + f (m + k))
    rw [sumN_app f m k]; omega
theorem sumN_split (f : Nat → Nat) (m : Nat) : (k : Nat) → sumN f (m * k) = sumN (fun q => sumN (fun c => f (q + m * c)) k) m
  | 0 => by
    rw [Nat.mul_zero]
    exact (sumN_zero m).symm
  | k + 1 => by
    rw [Nat.mul_succ, sumN_app, sumN_split f m k]
    show _ = sumN (fun q => sumN (fun c => f (q + m * c)) k + f (q + m * k)) m
    rw [sumN_add]
    congr 1
    exact sumN_congr m fun q _ => by rw [Nat.add_comm]

def permD (p : Nat) : Nat → List Nat
  | 0 => []
  | i + 1 => insN i (p / facN i % (i + 1)) (permD p i)
theorem facN_pos : (i : Nat) → 0 < facN i
  | 0 => by decide
  | i + 1 => Nat.mul_pos (by omega) (facN_pos i)
theorem facN_dvd (i : Nat) : (n : Nat) → i ≤ n → ∃ z, facN n = facN i * z
  | 0, h => ⟨1, by rw [Nat.le_zero.1 h]; rfl⟩
  | n + 1, h => by
    by_cases e : i = n + 1
    · exact ⟨1, by rw [e, Nat.mul_one]⟩
    · obtain ⟨z, hz⟩ := facN_dvd i n (by omega)
      exact ⟨(n + 1) * z, by
        show (n + 1) * facN n = _
        rw [hz]
        ac_rfl⟩
theorem permD_mod (q c n : Nat) : (i : Nat) → i ≤ n → permD (q + facN n * c) i = permD q i
  | 0, _ => rfl
  | i + 1, h => by
    unfold permD
    rw [permD_mod q c n i (by omega)]
    congr 1
    obtain ⟨z, hz⟩ := facN_dvd (i + 1) n h
    have e : facN n * c = facN i * ((i + 1) * (z * c)) := by
      rw [hz]
      show (i + 1) * facN i * z * c = _
      ac_rfl
    rw [e, Nat.add_mul_div_left _ _ (facN_pos i), Nat.add_mul_mod_self_left]
theorem permD_top {q c n : Nat} (hq : q < facN n) (hc : c < n + 1) : permD (q + facN n * c) (n + 1) = insN n c (permD q n) := by
  show insN n ((q + facN n * c) / facN n % (n + 1)) (permD (q + facN n * c) n) = _
  rw [permD_mod q c n n (Nat.le_refl _), Nat.add_mul_div_left _ _ (facN_pos n), Nat.div_eq_of_lt hq, Nat.zero_add, Nat.mod_eq_of_lt hc]
theorem tree_sum : (n : Nat) → (f : List Nat → Nat) → treeC n f = sumN (fun p => f (permD p n)) (facN n)
  | 0, f => by simp [treeC, sumN, facN, permD]
  | n + 1, f => by
    unfold treeC
    rw [tree_sum n]
    show _ = sumN _ ((n + 1) * facN n)
    rw [Nat.mul_comm, sumN_split]
    exact sumN_congr _ fun q hq => sumN_congr _ fun c hc => by rw [permD_top hq hc]

/-! ### They are the permutations of the laws -/
theorem code_rest (p : Nat) : (i : Nat) → (codeTo p i).2 = p / facN i
  | 0 => by simp [codeTo, facN]
  | i + 1 => by
    show (codeTo p i).2 / (i + 1) = p / ((i + 1) * facN i)
    rw [code_rest p i, Nat.div_div_eq_div_mul, Nat.mul_comm]
theorem code_get (p : Nat) {i : Nat} : (n : Nat) → i < n → (codeTo p n).1.getD i 0 = ((p / facN i % (i + 1) : Nat) : Int)
  | 0, h => absurd h (Nat.not_lt_zero _)
  | n + 1, h => by
    have hl := codeTo_length p n
    show ((codeTo p n).1 ++ [(((codeTo p n).2 % (n + 1) : Nat) : Int)]).getD i 0 = _
    by_cases e : i = n
    · subst e
      rw [List.getD_eq_getElem?_getD, List.getElem?_append_right (by omega), hl, Nat.sub_self, code_rest]
      rfl
    · rw [List.getD_eq_getElem?_getD, List.getElem?_append_left (by omega), ← List.getD_eq_getElem?_getD]
      exact code_get p n (by omega)
theorem nthAt_code (p : Nat) {i n : Nat} (h : i < n) : nthAt (codeTo p n).1 i = p / facN i % (i + 1) := by
  unfold nthAt
  rw [if_pos (by rw [codeTo_length]; exact h), code_get p n h, Int.toNat_natCast, Nat.mod_mod]
theorem nthTo_permD (p n : Nat) : (i : Nat) → i ≤ n → nthTo (codeTo p n).1 i = (permD p i).map fun x : Nat => (x : Int)
  | 0, _ => rfl
  | i + 1, h => by
    rw [nthTo_succ, nthTo_permD p n i (by omega), nthAt_code p (by omega)]
    show _ = (insN i (p / facN i % (i + 1)) (permD p i)).map _
    unfold insN
    simp [List.map_take, List.map_drop]
theorem permD_length (p : Nat) : (i : Nat) → (permD p i).length = i
  | 0 => rfl
  | i + 1 => by
    have := permD_length p i
    have hm : p / facN i % (i + 1) < i + 1 := Nat.mod_lt _ (by omega)
    unfold permD insN
    simp [this]; omega

theorem nb_iff {a b m : Nat} : nb a b m = true ↔ a / m ≠ b / m := by
  unfold nb
  rw [Bool.not_eq_true']
  constructor
  · intro h e
    rw [e, Nat.beq_refl] at h
    cases h
  · intro h
    cases hb : Nat.beq (a / m) (b / m) with
    | false => rfl
    | true => exact absurd (Nat.eq_of_beq_eq_true hb) h
/-- Eight numbers: the network's condition. -/
theorem chk_omega {a b c d e f g h : Nat} (hb : ∀ x ∈ [a, b, c, d, e, f, g, h], x < 8) (hn : [a, b, c, d, e, f, g, h].Nodup) : omegaB 3 ([a, b, c, d, e, f, g, h].map fun x : Nat => (x : Int)) = chk [a, b, c, d, e, f, g, h] := by
  have l1 : linesI 3 1 ([a, b, c, d, e, f, g, h].map fun x : Nat => (x : Int)) 8 = [((0 + a / 4 : Nat) : Int), ((2 + b / 4 : Nat) : Int), ((4 + c / 4 : Nat) : Int), ((6 + d / 4 : Nat) : Int), ((0 + e / 4 : Nat) : Int), ((2 + f / 4 : Nat) : Int), ((4 + g / 4 : Nat) : Int), ((6 + h / 4 : Nat) : Int)] := rfl
  have l2 : linesI 3 2 ([a, b, c, d, e, f, g, h].map fun x : Nat => (x : Int)) 8 = [((0 + a / 2 : Nat) : Int), ((4 + b / 2 : Nat) : Int), ((0 + c / 2 : Nat) : Int), ((4 + d / 2 : Nat) : Int), ((0 + e / 2 : Nat) : Int), ((4 + f / 2 : Nat) : Int), ((0 + g / 2 : Nat) : Int), ((4 + h / 2 : Nat) : Int)] := rfl
  have l3 : linesI 3 3 ([a, b, c, d, e, f, g, h].map fun x : Nat => (x : Int)) 8 = [a, b, c, d, e, f, g, h].map fun x : Nat => ((0 + x / 1 : Nat) : Int) := rfl
  have n3 : (linesI 3 3 ([a, b, c, d, e, f, g, h].map fun x : Nat => (x : Int)) 8).Nodup := by
    rw [l3]
    refine List.pairwise_map.2 (List.Pairwise.imp ?_ hn)
    intro x y hxy he
    exact hxy (by rw [Nat.div_one, Nat.div_one] at he; omega)
  have ho : omegaB 3 ([a, b, c, d, e, f, g, h].map fun x : Nat => (x : Int)) = true ↔ (linesI 3 1 ([a, b, c, d, e, f, g, h].map fun x : Nat => (x : Int)) 8).Nodup ∧ (linesI 3 2 ([a, b, c, d, e, f, g, h].map fun x : Nat => (x : Int)) 8).Nodup := by
    unfold omegaB
    constructor
    · intro q
      have q := List.all_eq_true.1 q
      exact ⟨of_decide_eq_true (q 0 (by simp)), of_decide_eq_true (q 1 (by simp))⟩
    · rintro ⟨q1, q2⟩
      rw [List.all_eq_true]
      intro j hj
      have hj := List.mem_range.1 hj
      match j, hj with
      | 0, _ => exact decide_eq_true q1
      | 1, _ => exact decide_eq_true q2
      | 2, _ => exact decide_eq_true n3
  apply Bool.eq_iff_iff.2
  rw [ho, l1, l2]
  simp only [List.mem_cons, List.not_mem_nil, or_false, forall_eq_or_imp, forall_eq] at hb
  obtain ⟨ha, hb, hc, hd, he, hf, hg, hh⟩ := hb
  clear hn l1 l2 l3 n3 ho
  unfold chk
  simp only [Bool.and_eq_true, nb_iff, List.nodup_cons, List.mem_cons, List.not_mem_nil, or_false, not_or, List.nodup_nil, and_true, not_false_eq_true]
  constructor
  · rintro ⟨⟨⟨_, _, _, ae4, _, _, _⟩, ⟨_, _, _, bf4, _, _⟩, ⟨_, _, _, cg4, _⟩, ⟨_, _, _, dh4⟩, _⟩, ⟨_, ac, _, ae, _, ag, _⟩, ⟨_, bd, _, bf, _, bh⟩, ⟨_, ce, _, cg, _⟩, ⟨_, df, _, dh⟩, ⟨_, eg, _⟩, ⟨_, fh⟩, _⟩
    exact ⟨fun q => ae4 (by rw [q]), fun q => bf4 (by rw [q]), fun q => cg4 (by rw [q]), fun q => dh4 (by rw [q]), fun q => ac (by rw [q]), fun q => ae (by rw [q]), fun q => ag (by rw [q]), fun q => ce (by rw [q]), fun q => cg (by rw [q]), fun q => eg (by rw [q]), fun q => bd (by rw [q]), fun q => bf (by rw [q]), fun q => bh (by rw [q]), fun q => df (by rw [q]), fun q => dh (by rw [q]), fun q => fh (by rw [q])⟩
  · rintro ⟨ae4, bf4, cg4, dh4, ac, ae, ag, ce, cg, eg, bd, bf, bh, df, dh, fh⟩
    refine ⟨?_, ?_⟩
    · and_intros <;> intro q <;> replace q := Int.ofNat.inj q <;> first | (exact absurd (Nat.add_left_cancel q) ae4) | (exact absurd (Nat.add_left_cancel q) bf4) | (exact absurd (Nat.add_left_cancel q) cg4) | (exact absurd (Nat.add_left_cancel q) dh4) | (clear ae4 bf4 cg4 dh4 ac ae ag ce cg eg bd bf bh df dh fh; omega)
    · and_intros <;> intro q <;> replace q := Int.ofNat.inj q <;> first | (exact absurd (Nat.add_left_cancel q) ac) | (exact absurd (Nat.add_left_cancel q) ae) | (exact absurd (Nat.add_left_cancel q) ag) | (exact absurd (Nat.add_left_cancel q) ce) | (exact absurd (Nat.add_left_cancel q) cg) | (exact absurd (Nat.add_left_cancel q) eg) | (exact absurd (Nat.add_left_cancel q) bd) | (exact absurd (Nat.add_left_cancel q) bf) | (exact absurd (Nat.add_left_cancel q) bh) | (exact absurd (Nat.add_left_cancel q) df) | (exact absurd (Nat.add_left_cancel q) dh) | (exact absurd (Nat.add_left_cancel q) fh) | (clear ae4 bf4 cg4 dh4 ac ae ag ce cg eg bd bf bh df dh fh; omega)

theorem list8 {α : Type} : (l : List α) → l.length = 8 → ∃ a b c d e f g h, l = [a, b, c, d, e, f, g, h]
  | [a, b, c, d, e, f, g, h], _ => ⟨a, b, c, d, e, f, g, h, rfl⟩
theorem perm_chk (p : Nat) : omegaB 3 (permAt 3 p) = chk (permD p 8) := by
  have e1 : permAt 3 p = (permD p 8).map fun x : Nat => (x : Int) := nthTo_permD p 8 8 (Nat.le_refl _)
  have hp := nth_perm (codeTo p (2 ^ 3)).1 8
  have hl := permD_length p 8
  have e2 : nthTo (codeTo p (2 ^ 3)).1 8 = (permD p 8).map fun x : Nat => (x : Int) := e1
  rw [e2] at hp
  rw [e1]
  obtain ⟨_, h2, h3⟩ := hp
  obtain ⟨a, b, c, d, e, f, g, h, hE⟩ := list8 _ hl
  rw [hE] at h2 h3 ⊢
  exact chk_omega (fun x hx => by have := h2 (x : Int) (List.mem_map.2 ⟨x, hx, rfl⟩); omega) ((List.pairwise_map.1 h3).imp fun h e => h (by rw [e]))
theorem pass_sum (K : Nat) : (n : Nat) → passTo K n = sumN (fun p => if omegaB K (permAt K p) = true then 1 else 0) n
  | 0 => rfl
  | n + 1 => by unfold passTo sumN; rw [pass_sum K n]
theorem pass_three : passTo 3 (facN 8) = 4096 := by
  rw [pass_sum, ← tree_eight, tree_sum]
  refine sumN_congr _ fun p _ => ?_
  rw [perm_chk]
  cases chk (permD p 8) <;> rfl
theorem pass_one : passTo 1 (facN 2) = 2 := by decide +kernel
theorem pass_two : passTo 2 (facN 4) = 16 := by decide +kernel
end Go.SX.Pa

/- Chapter 06, part 17: PatchLawrie: its contract. -/
namespace Go.SX.Pa
open Go Go.Proofs

theorem kOf3_cases {x : Int} : x % 3 + 1 = (kOf3 x : Nat) ∧ (kOf3 x = 1 ∨ kOf3 x = 2 ∨ kOf3 x = 3) := by
  have h1 : 0 ≤ x % 3 := Int.emod_nonneg _ (by omega)
  have h2 : x % 3 < 3 := Int.emod_lt_of_pos _ (by omega)
  unfold kOf3
  omega
theorem omega_perm {K : Nat} (hK : 1 ≤ K ∧ K ≤ 3) {l : List Int} (h : PermP l (2 ^ K)) : omegaF (K : Int) l = (omegaB K l, 0) := by
  unfold omegaF
  rw [if_pos (by omega), Int.toNat_natCast, if_pos h]
theorem permAt_perm (K p : Nat) : PermP (permAt K p) (2 ^ K) := by
  have := nth_perm (codeTo p (2 ^ K)).1 (2 ^ K)
  simpa [permAt] using this
theorem sameTo_succ (i : Nat) : sameTo (i + 1) = sameTo i ++ [(i : Int)] := by unfold sameTo; rw [List.range_succ, List.map_append]; rfl
theorem sameTo_length (i : Nat) : (sameTo i).length = i := by simp [sameTo]
theorem passTo_succ (K p : Nat) : passTo K (p + 1) = passTo K p + if omegaB K (permAt K p) = true then 1 else 0 := rfl
theorem passTo_le (K : Nat) : (p : Nat) → passTo K p ≤ p
  | 0 => Nat.le_refl _
  | p + 1 => by
    have := passTo_le K p
    unfold passTo
    split <;> omega
theorem facN_le8 : ∀ i, i ≤ 9 → facN i ≤ 362880 := by decide

theorem ok9 : p9.OK Tryd.prog := p9.ok C9 (fun _ => cx_ok (cs := [p31.ci, p39.ci, p25.ci]) ⟨PC.OK.ci ok31, PC.OK.ci ok39, PC.OK.ci ok25, trivial⟩ _) (fn := Tryd.f9) rfl (by decide +kernel) rfl fun (x : Int) hx => by
  refine (g9_eq x).mpr ?_
  have hx : 0 ≤ x ∧ x ≤ 255 := hx
  obtain ⟨e1, hK⟩ := kOf3_cases (x := x)
  simp only [pp1, eq_self, and_true, true_and, and_self, Int.toNat_natCast, List.drop_zero, peta, Int.one_mul]
  generalize kOf3 x = K at e1 hK ⊢
  have hN : 2 ^ K = 2 ∨ 2 ^ K = 4 ∨ 2 ^ K = 8 := by rcases hK with rfl | rfl | rfl <;> simp
  have hNi : (2 : Int) ^ K = ((2 ^ K : Nat) : Int) := by simp
  have hF : facN (2 ^ K) ≤ 40320 := by rcases hK with rfl | rfl | rfl <;> decide
  have hW : passTo K (facN (2 ^ K)) = 2 ^ (K * 2 ^ (K - 1)) := by
    rcases hK with rfl | rfl | rfl
    · exact pass_one
    · exact pass_two
    · exact pass_three
  have hex : ((K : Int) * 2 ^ ((K : Int) - 1).toNat) = ((K * 2 ^ (K - 1) : Nat) : Int) ∧ K * 2 ^ (K - 1) ≤ 12 ∧ 2 ^ (K * 2 ^ (K - 1)) ≤ 4096 := by rcases hK with rfl | rfl | rfl <;> decide
  have hI : omegaF (K : Int) (sameTo (2 ^ K)) = (true, 0) := by rcases hK with rfl | rfl | rfl <;> decide +kernel
  rw [hNi]
  refine ⟨fits_i64 (by omega) (by omega), by omega, fits_i64 (by omega) (by omega), ⟨2, by omega, e1, rfl, by decide⟩, fun i hi => ⟨by omega, fits_i64 (by omega) (by omega), fun q1 => ?_, fun q1 => ?_⟩⟩
  · have hf := facN_le8 (i - 1) (by omega)
    have hst := facN_step (i := i) (by omega)
    have hf2 := facN_le8 (i + 1 - 1) (by omega)
    have hst' : (facN (i - 1) : Int) * (i : Int) = (facN (i + 1 - 1) : Nat) := by rw [← hst]; simp
    refine ⟨by rw [hst']; exact fits_i64 (by omega) (by omega), fits_nat (by omega), i + 1, by omega, by omega, by omega, hst'⟩
  · have hi' : i - 1 = 2 ^ K := by omega
    rw [hi']
    refine ⟨⟨0, by omega, rfl, rfl, rfl⟩, fun p hp => ⟨fun q2 => ⟨⟨0, by omega, rfl, rfl, rfl⟩, fun j hj => ⟨by omega, fits_i64 (by omega) (by omega), fun q3 => ?_, fun q3 => ?_⟩⟩, fun q2 => ?_⟩⟩
    · have hr := codeTo_rest p j
      have hl := codeTo_length p j
      have hm : (codeTo p j).2 % (j + 1) < j + 1 := Nat.mod_lt _ (by omega)
      have em : ((codeTo p j).2 : Int) % ((j : Int) + 1) = ((codeTo p j).2 % (j + 1) : Nat) := by simp
      have ed : ((codeTo p j).2 : Int) / ((j : Int) + 1) = ((codeTo p j).2 / (j + 1) : Nat) := by simp
      have hd : (codeTo p j).2 / (j + 1) ≤ (codeTo p j).2 := Nat.div_le_self _ _
      have hfd : Fits .i64 (((codeTo p j).2 / (j + 1) : Nat) : Int) := by
        generalize (codeTo p j).2 / (j + 1) = q at hd
        exact fits_i64 (by omega) (by omega)
      rw [em, ed, wrap_small (by omega)]
      refine ⟨fits_nat (by omega), by omega, by unfold Small; omega, fits_nat (by omega), by omega, hfd, fits_nat (by omega), j + 1, by omega, by omega, rfl, by omega, rfl⟩
    · have hj' : j = 2 ^ K := by omega
      subst hj'
      rw [show nthTo (codeTo p (2 ^ K)).1 (((2 ^ K : Nat) : Int)).toNat = permAt K p by rw [Int.toNat_natCast]; rfl, omega_perm (by omega) (permAt_perm K p)]
      have hl := codeTo_length p (2 ^ K)
      have hpl : (permAt K p).length = 2 ^ K := nthTo_length _ _
      have h3 := passTo_le K p
      refine ⟨by omega, fits_i64 (by omega) (by omega), ⟨by omega, by rw [hl]; exact Nat.le_trans (show 2 ^ K ≤ 8 by omega) (by decide), codeTo_in p _ (by omega)⟩, by omega, no (fun h => h rfl) ⟨fun h => ⟨fits_nat (by omega), fits_nat (by omega), p + 1, by omega, by omega, by omega, ?_⟩, fun h => ⟨fits_nat (by omega), p + 1, by omega, by omega, by omega, ?_⟩⟩⟩
      · have h : omegaB K (permAt K p) = true := h
        rw [passTo_succ, if_pos h]; omega
      · have h : omegaB K (permAt K p) = false := h
        rw [passTo_succ, if_neg (by rw [h]; decide)]; omega
    · have hp' : p = facN (2 ^ K) := by omega
      rw [hp', hW, hex.1]
      have hsub : Fits .i64 ((K : Int) - 1) := fits_i64 (by omega) (by omega)
      refine ⟨⟨0, by omega, rfl, rfl⟩, fun j hj => ⟨by omega, fits_i64 (by omega) (by omega), fun q3 => ⟨by rw [sameTo_length]; unfold Small; omega, fits_nat (by omega), j + 1, by omega, by omega, (sameTo_succ j).symm, by omega⟩, fun q3 => ?_⟩⟩
      have hj' : j = 2 ^ K := by omega
      subst hj'
      rw [hI, sameTo_length, Int.toNat_natCast]
      have e2 : (2 : Int) ^ (K * 2 ^ (K - 1)) = ((2 ^ (K * 2 ^ (K - 1)) : Nat) : Int) := by simp
      rw [e2]
      obtain ⟨_, x1, x2⟩ := hex
      generalize K * 2 ^ (K - 1) = E at x1 x2 ⊢
      generalize 2 ^ E = P at x2 ⊢
      refine ⟨by omega, hsub, by omega, fits_i64 (by omega) (by omega), by omega, fits_i64 (by omega) (by omega), yes rfl (yesB rfl ⟨fun h => h, fun h => absurd rfl h⟩)⟩
end Go.SX.Pa
