/- Parts of the proof, one after the other: WeB Wz8 Wz8E Wz8Q. -/
import Derived.Test.YtgbnkmhabhgigaaGreatM7
import Derived.Test.YtgbnkmhabhgigaaGreatM11
/- Chapter 08: lists before one another in plain words. -/
namespace Go.SX.We
def beforeF : List Int → List Int → Bool
  | _, [] => false
  | [], _ :: _ => true
  | x :: a, y :: b => if x = y then beforeF a b else decide (x < y)
theorem beforeF_nil_left (b : List Int) : beforeF [] b = decide (0 < b.length) := by cases b <;> simp [beforeF]
theorem beforeF_nil_right (a : List Int) : beforeF a [] = false := by cases a <;> rfl
theorem before_same : (a b : List Int) → (!(beforeF a b) && !(beforeF b a)) = decide (a = b)
  | [], [] => rfl
  | [], _ :: _ => rfl
  | _ :: _, [] => rfl
  | x :: a, y :: b => by
    have ih := before_same a b
    unfold beforeF
    by_cases h : x = y
    · subst h
      simp only [if_true, ih, List.cons.injEq, true_and]
    · have h' : ¬ y = x := fun e => h e.symm
      simp only [if_neg h', List.cons.injEq, h, false_and, decide_false]
      rcases Int.lt_or_gt_of_ne h with h1 | h1
      · simp [h1]
      · simp [h1]
theorem compF_all {l : List Int} : (compF l).length = l.length ↔ ∀ j, 0 < j → j < l.length → ¬ l.getD j 0 = l.getD (j - 1) 0 := by
  have e : compF l = ((List.range l.length).filter (Lib.keeps l.toArray)).map (l.toArray[·]!) := rfl
  have hg : ∀ j, j < l.length → l.toArray[j]! = l.getD j 0 := fun j hj => by simp [hj, List.getD]
  rw [e, List.length_map]
  constructor
  · intro h j h0 hj he
    have hall := List.length_filter_eq_length_iff.1 (h.trans (List.length_range (n := l.length)).symm)
    have := hall j (List.mem_range.2 hj)
    unfold Lib.keeps at this
    rw [hg j hj, hg (j - 1) (by omega)] at this
    rw [he] at this
    simp at this
    omega
  · intro h
    rw [List.length_filter_eq_length_iff.2, List.length_range]
    intro j hj
    rw [List.mem_range] at hj
    unfold Lib.keeps
    rw [hg j hj, hg (j - 1) (by omega)]
    rcases Nat.eq_zero_or_pos j with rfl | h0
    · simp
    · have := h j h0 hj
      exact decide_eq_true (.inr this)
theorem sortF_perm (l : List Int) : (sortF l).Perm l := List.mergeSort_perm l _
theorem sortF_sorted (l : List Int) : (sortF l).Pairwise (· ≤ ·) := by
  have := List.pairwise_mergeSort (le := fun x y : Int => decide (x ≤ y)) (fun a b c h1 h2 => by simp at *; omega) (fun a b => by simp; omega) l
  refine this.imp ?_
  intro a b h
  simpa using h
theorem distF_iff (w : List Int) : distF w = true ↔ (sumsF w).Nodup := by
  unfold distF
  rw [decide_eq_true_eq, ← (sortF_perm (sumsF w)).nodup_iff, ← (sortF_perm (sumsF w)).length_eq, compF_all]
  have hs := sortF_sorted (sumsF w)
  generalize sortF (sumsF w) = s at hs
  have hD : ∀ k (hk : k < s.length), s.getD k 0 = s[k] := fun k hk => by simp [List.getD, List.getElem?_eq_getElem hk]
  rw [List.pairwise_iff_getElem] at hs
  constructor
  · intro h
    unfold List.Nodup
    rw [List.pairwise_iff_getElem]
    intro i j hi hj hij e
    have h1 := h j (by omega) hj
    rw [hD j hj, hD (j - 1) (by omega)] at h1
    have h2 := hs (j - 1) j (by omega) hj (by omega)
    rcases Nat.eq_or_lt_of_le (show i ≤ j - 1 by omega) with h3 | h3
    · subst h3; exact h1 e.symm
    · have := hs i (j - 1) hi (by omega) h3
      omega
  · intro h j h0 hj e
    unfold List.Nodup at h
    rw [List.pairwise_iff_getElem] at h
    rw [hD j hj, hD (j - 1) (by omega)] at e
    exact h (j - 1) j (by omega) hj (by omega) e.symm
end Go.SX.We

/- Chapter 08: the reference's small functions, and the examples. -/
namespace Go.SX.We
open Go Go.Proofs
noncomputable section
def i29 : CI := inl 24 Tryz.f24 (cx [] [])
@[reducible] def p35 : PC := ⟨67, [aIs, aIs], [aB], fun p => p.1.length ≤ 1000 ∧ p.2.length ≤ 1000, fun p => beforeF p.1 p.2⟩
@[reducible] def C35 (p : List Int × List Int) : Ctx := cx [] [(0, fun _ => upTo p.1.length 5 [0, 1] fun k => k ≤ p.2.length ∧ beforeF (p.1.drop k) (p.2.drop k) = beforeF p.1 p.2)]
def g35 (a b : List Int) : Prop := p35.VC (C35 (a, b)) Tryz.f67 (a, b)
@[reducible] def p21 : PC := ⟨31, [aIs, aIs], [aB], fun p => p.1.length ≤ 1000 ∧ p.2.length ≤ 1000, fun p => decide (p.1 = p.2)⟩
def g21 (a b : List Int) : Prop := p21.VC (cx [p35.ci] []) Tryz.f31 (a, b)
@[reducible] def p18 : PC := ⟨7, [aIs], [aI], fun w => w.length ≤ 1000, fun w => checkF w 12⟩
@[reducible] def C18 (w : List Int) : Ctx := cx [i29] [(0, fun _ => upTo w.length 3 [0] fun k => ∀ j, j < k → 1 ≤ w.getD j 0 ∧ w.getD j 0 ≤ 100000 ∧ (0 < j → w.getD (j - 1) 0 < w.getD j 0))]
def g18 (w : List Int) : Prop := p18.VC (C18 w) Tryz.f7 w
@[reducible] def p19 : PC := ⟨8, [], [aB], fun _ => True, fun _ => true⟩
def g19 : Prop := p19.VC (cx [p16.ci, p28.ci, p27.ci, p17.ci, p23.ci, p22.ci, p25.ci, Nm.p6r.ci, p21.ci] []) Tryz.f8 ()
end
end Go.SX.We

/- Printed by VC.lean: what the executor asks. -/
namespace Go.SX.We
open Go Go.Proofs IntKind List
theorem g35_eq (a : List Int) (b : List Int) : g35 a b = ((∃ (x0 : Nat), (x0 ≤ a.length ∧ x0 ≤ b.length ∧ beforeF (drop x0 a) (drop x0 b) = beforeF a b) ∧ True ∧ 0 = (x0 : Int) ∧ a = a ∧ b = b ∧ True) ∧ ∀ (x : Nat), x ≤ a.length ∧ x ≤ b.length ∧ beforeF (drop x a) (drop x b) = beforeF a b → ((x : Int) < (a.length : Int) → (x : Int) < (a.length : Int) ∧ (x : Int) < (a.length : Int) ∧ ((x : Int) < (b.length : Int) → (x : Int) < (b.length : Int) ∧ (x : Int) < (b.length : Int) ∧ (0 ≤ (x : Int) ∧ (x : Int) < (a.length : Int)) ∧ (0 ≤ (x : Int) ∧ (x : Int) < (b.length : Int)) ∧ (¬a.getD (x : Int).toNat 0 = b.getD (x : Int).toNat 0 → ¬a.getD (x : Int).toNat 0 = b.getD (x : Int).toNat 0 ∧ (0 ≤ (x : Int) ∧ (x : Int) < (a.length : Int)) ∧ (0 ≤ (x : Int) ∧ (x : Int) < (b.length : Int)) ∧ decide (a.getD (x : Int).toNat 0 < b.getD (x : Int).toNat 0) = beforeF a b) ∧ (¬¬a.getD (x : Int).toNat 0 = b.getD (x : Int).toNat 0 → ¬¬a.getD (x : Int).toNat 0 = b.getD (x : Int).toNat 0 ∧ Fits .i64 ((x : Int) + 1) ∧ ∃ (x' : Nat), (x' ≤ a.length ∧ x' ≤ b.length ∧ beforeF (drop x' a) (drop x' b) = beforeF a b) ∧ a.length - x' < a.length - x ∧ True ∧ (x : Int) + 1 = (x' : Int) ∧ a = a ∧ b = b ∧ True)) ∧ (¬(x : Int) < (b.length : Int) → ¬(x : Int) < (b.length : Int) ∧ ¬(x : Int) < (b.length : Int) ∧ decide ((a.length : Int) < (b.length : Int)) = beforeF a b)) ∧ (¬(x : Int) < (a.length : Int) → ¬(x : Int) < (a.length : Int) ∧ ¬(x : Int) < (a.length : Int) ∧ decide ((a.length : Int) < (b.length : Int)) = beforeF a b)) := by kernel_rfl
theorem g21_eq (a : List Int) (b : List Int) : g21 a b = ((a.length ≤ 1000 ∧ b.length ≤ 1000) ∧ ((!beforeF a b) = true → (!beforeF a b) = true ∧ (!beforeF a b) = true ∧ (b.length ≤ 1000 ∧ a.length ≤ 1000) ∧ (!beforeF b a) = decide (a = b)) ∧ ((!beforeF a b) = false → (!beforeF a b) = false ∧ (!beforeF a b) = false ∧ false = decide (a = b))) := by kernel_rfl
theorem g18_eq (w : List Int) : g18 w = ((12 < (w.length : Int) → 12 < (w.length : Int) ∧ 3 = checkF w 12) ∧ (¬12 < (w.length : Int) → ¬12 < (w.length : Int) ∧ (∃ (x0 : Nat), (x0 ≤ w.length ∧ ∀ (j : Nat), j < x0 → 1 ≤ w.getD j 0 ∧ w.getD j (0 : Int) ≤ 100000 ∧ ((0 : Nat) < j → w.getD (j - 1) 0 < w.getD j 0)) ∧ True ∧ 0 = (x0 : Int) ∧ w = w ∧ True) ∧ ∀ (x : Nat), (x ≤ w.length ∧ ∀ (j : Nat), j < x → 1 ≤ w.getD j 0 ∧ w.getD j (0 : Int) ≤ 100000 ∧ ((0 : Nat) < j → w.getD (j - 1) 0 < w.getD j 0)) → ((x : Int) < (w.length : Int) → (x : Int) < (w.length : Int) ∧ (0 ≤ (x : Int) ∧ (x : Int) < (w.length : Int)) ∧ (1 ≤ w.getD (x : Int).toNat 0 → 1 ≤ w.getD (x : Int).toNat 0 ∧ 1 ≤ w.getD (x : Int).toNat 0 ∧ (¬w.getD (x : Int).toNat (0 : Int) ≤ 100000 → ¬w.getD (x : Int).toNat (0 : Int) ≤ 100000 ∧ ¬w.getD (x : Int).toNat (0 : Int) ≤ 100000 ∧ 2 = checkF w 12) ∧ (¬¬w.getD (x : Int).toNat (0 : Int) ≤ 100000 → ¬¬w.getD (x : Int).toNat (0 : Int) ≤ 100000 ∧ ¬¬w.getD (x : Int).toNat (0 : Int) ≤ 100000 ∧ (0 < (x : Int) → 0 < (x : Int) ∧ 0 < (x : Int) ∧ (0 ≤ (x : Int) ∧ (x : Int) < (w.length : Int)) ∧ Fits .i64 ((x : Int) - 1) ∧ (0 ≤ (x : Int) - 1 ∧ (x : Int) - 1 < (w.length : Int)) ∧ (w.getD (x : Int).toNat 0 ≤ w.getD ((x : Int) - 1).toNat 0 → w.getD (x : Int).toNat 0 ≤ w.getD ((x : Int) - 1).toNat 0 ∧ w.getD (x : Int).toNat 0 ≤ w.getD ((x : Int) - 1).toNat 0 ∧ w.getD (x : Int).toNat 0 ≤ w.getD ((x : Int) - 1).toNat 0 ∧ 2 = checkF w 12) ∧ (¬w.getD (x : Int).toNat 0 ≤ w.getD ((x : Int) - 1).toNat 0 → ¬w.getD (x : Int).toNat 0 ≤ w.getD ((x : Int) - 1).toNat 0 ∧ ¬w.getD (x : Int).toNat 0 ≤ w.getD ((x : Int) - 1).toNat 0 ∧ ¬w.getD (x : Int).toNat 0 ≤ w.getD ((x : Int) - 1).toNat 0 ∧ Fits .i64 ((x : Int) + 1) ∧ ∃ (x' : Nat), (x' ≤ w.length ∧ ∀ (j : Nat), j < x' → 1 ≤ w.getD j 0 ∧ w.getD j (0 : Int) ≤ 100000 ∧ ((0 : Nat) < j → w.getD (j - 1) 0 < w.getD j 0)) ∧ w.length - x' < w.length - x ∧ True ∧ (x : Int) + 1 = (x' : Int) ∧ w = w ∧ True)) ∧ (¬0 < (x : Int) → ¬0 < (x : Int) ∧ ¬0 < (x : Int) ∧ Fits .i64 ((x : Int) + 1) ∧ ∃ (x' : Nat), (x' ≤ w.length ∧ ∀ (j : Nat), j < x' → 1 ≤ w.getD j 0 ∧ w.getD j (0 : Int) ≤ 100000 ∧ ((0 : Nat) < j → w.getD (j - 1) 0 < w.getD j 0)) ∧ w.length - x' < w.length - x ∧ True ∧ (x : Int) + 1 = (x' : Int) ∧ w = w ∧ True))) ∧ (¬1 ≤ w.getD (x : Int).toNat 0 → ¬1 ≤ w.getD (x : Int).toNat 0 ∧ ¬1 ≤ w.getD (x : Int).toNat 0 ∧ 2 = checkF w 12)) ∧ (¬(x : Int) < (w.length : Int) → ¬(x : Int) < (w.length : Int) ∧ ((w.length : Int) = 0 → (w.length : Int) = 0 ∧ 2 = checkF w 12) ∧ (¬(w.length : Int) = 0 → ¬(w.length : Int) = 0 ∧ 0 = checkF w 12)))) := by kernel_rfl
theorem g19_eq  : g19  = ((4 : Nat) ≤ 1000 ∧ True ∧ True ∧ (3 : Nat) ≤ 1000 ∧ (3 : Nat) ≤ 1000 ∧ (3 : Nat) ≤ 1000 ∧ ((3 : Nat) ≤ 1000 ∧ Fits .i64 5) ∧ (3 : Nat) ≤ 1000 ∧ ((p16.F [3, 5, 6, 7]).fst = true → (p16.F [3, 5, 6, 7]).fst = true ∧ (p16.F [3, 5, 6, 7]).fst = true ∧ (p16.F [3, 5, 6, 7]).fst = true ∧ (p16.F [3, 5, 6, 7]).fst = true ∧ ((0 : Int) = 0 → (0 : Int) = 0 ∧ (0 : Int) = 0 ∧ (0 : Int) = 0 ∧ ((4 : Nat) ≤ 1000 ∧ (4 : Nat) ≤ 1000) ∧ (true = true → true = true ∧ true = true ∧ true = true ∧ ((0 : Int) = 0 → (0 : Int) = 0 ∧ (0 : Int) = 0 ∧ (0 : Int) = 0 ∧ ((24 : Int) = 24 → (24 : Int) = 24 ∧ (24 : Int) = 24 ∧ (24 : Int) = 24 ∧ ((0 : Int) = 0 → (0 : Int) = 0 ∧ (0 : Int) = 0 ∧ (0 : Int) = 0 ∧ ((2 : Nat) ≤ 1000 ∧ (2 : Nat) ≤ 1000) ∧ (true = true → true = true ∧ true = true ∧ true = true ∧ ((1 : Nat) ≤ 1000 ∧ (1 : Nat) ≤ 1000) ∧ (true = true → true = true ∧ true = true ∧ true = true ∧ ((0 : Int) = 0 → (0 : Int) = 0 ∧ (0 : Int) = 0 ∧ (0 : Int) = 0 ∧ ((2 : Int) = 2 → (2 : Int) = 2 ∧ (2 : Int) = 2 ∧ (2 : Int) = 2 ∧ ((0 : Int) = 0 → (0 : Int) = 0 ∧ (0 : Int) = 0 ∧ (0 : Int) = 0 ∧ ((2 : Nat) ≤ 1000 ∧ (2 : Nat) ≤ 1000) ∧ (true = true → true = true ∧ true = true ∧ true = true ∧ ((0 : Int) = 0 → (0 : Int) = 0 ∧ (0 : Int) = 0 ∧ (0 : Int) = 0 ∧ ((3 : Nat) ≤ (1000 : Nat) ∧ (3 : Nat) ≤ (1000 : Nat)) ∧ (true = true → true = true ∧ true = true ∧ true = true ∧ (0 = (0 : Int) → (0 : Int) = (0 : Int) ∧ (0 : Int) = (0 : Int) ∧ (0 : Int) = (0 : Int) ∧ ((Nm.p6r.F [(1 : Int), (2 : Int), (4 : Int)]).fst = ByteArray.mk #[(55 : UInt8), (47 : UInt8), (52 : UInt8)] → (Nm.p6r.F [(1 : Int), (2 : Int), (4 : Int)]).fst = ByteArray.mk #[(55 : UInt8), (47 : UInt8), (52 : UInt8)] ∧ (Nm.p6r.F [(1 : Int), (2 : Int), (4 : Int)]).fst = ByteArray.mk #[(55 : UInt8), (47 : UInt8), (52 : UInt8)] ∧ (Nm.p6r.F [(1 : Int), (2 : Int), (4 : Int)]).fst = ByteArray.mk #[(55 : UInt8), (47 : UInt8), (52 : UInt8)] ∧ true = true) ∧ (¬(Nm.p6r.F [(1 : Int), (2 : Int), (4 : Int)]).fst = ByteArray.mk #[(55 : UInt8), (47 : UInt8), (52 : UInt8)] → ¬(Nm.p6r.F [(1 : Int), (2 : Int), (4 : Int)]).fst = ByteArray.mk #[(55 : UInt8), (47 : UInt8), (52 : UInt8)] ∧ ¬(Nm.p6r.F [(1 : Int), (2 : Int), (4 : Int)]).fst = ByteArray.mk #[(55 : UInt8), (47 : UInt8), (52 : UInt8)] ∧ ¬(Nm.p6r.F [(1 : Int), (2 : Int), (4 : Int)]).fst = ByteArray.mk #[(55 : UInt8), (47 : UInt8), (52 : UInt8)] ∧ false = true)) ∧ (¬(0 : Int) = (0 : Int) → ¬(0 : Int) = (0 : Int) ∧ ¬(0 : Int) = (0 : Int) ∧ ¬(0 : Int) = (0 : Int) ∧ false = true)) ∧ (true = false → true = false ∧ true = false ∧ true = false ∧ false = true)) ∧ (¬(0 : Int) = 0 → ¬(0 : Int) = 0 ∧ ¬(0 : Int) = 0 ∧ ¬(0 : Int) = 0 ∧ false = true)) ∧ (true = false → true = false ∧ true = false ∧ true = false ∧ false = true)) ∧ (¬(0 : Int) = 0 → ¬(0 : Int) = 0 ∧ ¬(0 : Int) = 0 ∧ ¬(0 : Int) = 0 ∧ false = true)) ∧ (¬(2 : Int) = 2 → ¬(2 : Int) = 2 ∧ ¬(2 : Int) = 2 ∧ ¬(2 : Int) = 2 ∧ false = true)) ∧ (¬(0 : Int) = 0 → ¬(0 : Int) = 0 ∧ ¬(0 : Int) = 0 ∧ ¬(0 : Int) = 0 ∧ false = true)) ∧ (true = false → true = false ∧ true = false ∧ true = false ∧ false = true)) ∧ (true = false → true = false ∧ true = false ∧ true = false ∧ false = true)) ∧ (¬(0 : Int) = 0 → ¬(0 : Int) = 0 ∧ ¬(0 : Int) = 0 ∧ ¬(0 : Int) = 0 ∧ false = true)) ∧ (¬(24 : Int) = 24 → ¬(24 : Int) = 24 ∧ ¬(24 : Int) = 24 ∧ ¬(24 : Int) = 24 ∧ false = true)) ∧ (¬(0 : Int) = 0 → ¬(0 : Int) = 0 ∧ ¬(0 : Int) = 0 ∧ ¬(0 : Int) = 0 ∧ false = true)) ∧ (true = false → true = false ∧ true = false ∧ true = false ∧ false = true)) ∧ (¬(0 : Int) = 0 → ¬(0 : Int) = 0 ∧ ¬(0 : Int) = 0 ∧ ¬(0 : Int) = 0 ∧ false = true)) ∧ ((p16.F [3, 5, 6, 7]).fst = false → (p16.F [3, 5, 6, 7]).fst = false ∧ (p16.F [3, 5, 6, 7]).fst = false ∧ (p16.F [3, 5, 6, 7]).fst = false ∧ (p16.F [3, 5, 6, 7]).fst = false ∧ false = true)) := by kernel_rfl
end Go.SX.We

/- Chapter 08: the reference's small functions, and the examples, proved. -/
namespace Go.SX.We
open Go Go.Proofs
theorem i29_ok : i29.OK Tryz.prog := inl_ok cx0' (by kernel_rfl) (by kernel_rfl) (by kernel_rfl)
theorem ok35 : p35.OK Tryz.prog := p35.ok (fn := Tryz.f67) C35 (fun _ => cx0') (by kernel_rfl) (by kernel_rfl) (by kernel_rfl) fun p hp => by
  have key : ∀ a b : List Int, a.length ≤ 1000 → b.length ≤ 1000 → g35 a b := fun a b ha hb => by
    refine (g35_eq a b).mpr ?_
    simp only [pp1, eq_self, and_true, true_and, Int.toNat_natCast]
    have step : ∀ k : Nat, k < a.length → k < b.length → beforeF (a.drop k) (b.drop k) = if a.getD k 0 = b.getD k 0 then beforeF (a.drop (k + 1)) (b.drop (k + 1)) else decide (a.getD k 0 < b.getD k 0) := fun k h1 h2 => by
      rw [drop_getD a 0 h1, drop_getD b 0 h2]; rfl
    refine ⟨⟨0, ⟨by omega, by omega, rfl⟩, rfl⟩, fun k ⟨hk1, hk2, hok⟩ => ⟨fun h1 => ⟨fun h2 => ⟨by omega, by omega, fun h3 => ⟨by omega, by omega, ?_⟩, fun h3 => ⟨fi (by omega) (by omega), k + 1, ⟨by omega, by omega, ?_⟩, by omega, by omega⟩⟩, fun h2 => ?_⟩, fun h1 => ?_⟩⟩
    · rw [← hok, step k (by omega) (by omega), if_neg h3]
    · rw [← hok, step k (by omega) (by omega), if_pos (Classical.not_not.1 h3)]
    · have e : b.drop k = [] := List.drop_eq_nil_of_le (by omega)
      rw [← hok, e, beforeF_nil_right]
      exact decide_eq_false (by omega)
    · have e : a.drop k = [] := List.drop_eq_nil_of_le (by omega)
      rw [← hok, e, beforeF_nil_left, List.length_drop]
      exact decide_eq_decide.2 (by omega)
  exact key p.1 p.2 hp.1 hp.2
theorem ok21 : p21.OK Tryz.prog := p21.ok (fn := Tryz.f31) (fun _ => cx [p35.ci] []) (fun _ => cx_ok (cs := [p35.ci]) ⟨PC.OK.ci ok35, trivial⟩ _) (by kernel_rfl) (by kernel_rfl) (by kernel_rfl) fun p hp => by
  have key : ∀ a b : List Int, a.length ≤ 1000 → b.length ≤ 1000 → g21 a b := fun a b ha hb => by
    refine (g21_eq a b).mpr ?_
    have hs := before_same a b
    simp only [pp1]
    refine ⟨⟨ha, hb⟩, fun h => ⟨⟨hb, ha⟩, ?_⟩, fun h => ?_⟩
    · rw [← hs, h]; simp
    · rw [← hs, h]; rfl
  exact key p.1 p.2 hp.1 hp.2
theorem wts_iff {w : List Int} : Wts w ↔ w.length ≤ 12 ∧ 0 < w.length ∧ ∀ j, j < w.length → 1 ≤ w.getD j 0 ∧ w.getD j 0 ≤ 100000 ∧ (0 < j → w.getD (j - 1) 0 < w.getD j 0) := by
  constructor
  · intro h
    exact ⟨h.len, h.pos, fun j hj => ⟨h.lo _ (getD_mem w 0 hj), h.hi _ (getD_mem w 0 hj), fun h0 => (upF_iff w).1 (pairwise_upF h.up) j h0 hj⟩⟩
  · rintro ⟨h1, h2, h3⟩
    refine ⟨h1, h2, fun v hv => ?_, fun v hv => ?_, upF_pairwise ((upF_iff w).2 fun j h0 hj => (h3 j hj).2.2 h0)⟩
    · obtain ⟨k, k1, rfl⟩ := mem_getD 0 hv; exact (h3 k k1).1
    · obtain ⟨k, k1, rfl⟩ := mem_getD 0 hv; exact (h3 k k1).2.1
theorem check_not {w : List Int} (hl : ¬ (12 : Int) < w.length) (h : ¬ Wts w) : checkF w 12 = 2 := by
  have h0 := mt check_ok.1 h
  unfold checkF at h0 ⊢
  rw [decide_eq_false hl] at h0 ⊢
  simp only [cond_false] at h0 ⊢
  generalize (decide (w.length = 0) || decide (w.getD 0 0 < 1) || decide (100000 < w.getD (w.length - 1) 0)) = b at h0 ⊢
  generalize upF w = u at h0 ⊢
  cases b <;> cases u <;> simp_all
theorem ok18 : p18.OK Tryz.prog := p18.ok (fn := Tryz.f7) C18 (fun _ => cx_ok (cs := [i29]) ⟨i29_ok, trivial⟩ _) (by kernel_rfl) (by kernel_rfl) (by kernel_rfl) fun w hw => by
  have key : ∀ w : List Int, w.length ≤ 1000 → g18 w := fun w hw => by
    refine (g18_eq w).mpr ?_
    simp only [pp1, eq_self, and_true, true_and, Int.toNat_natCast]
    refine ⟨fun h => by unfold checkF; rw [decide_eq_true h]; rfl, fun h => ⟨⟨0, ⟨by omega, fun j hj => by omega⟩, rfl⟩, fun k ⟨hk1, hk2⟩ => ⟨fun h1 => ?_, fun h1 => ⟨fun h2 => ?_, fun h2 => ?_⟩⟩⟩⟩
    · have e1 : ((k : Int) - 1).toNat = k - 1 := by omega
      have bad : ¬ (1 ≤ w.getD k 0 ∧ w.getD k 0 ≤ 100000 ∧ (0 < k → w.getD (k - 1) 0 < w.getD k 0)) → checkF w 12 = 2 := fun hn => check_not h fun hW => hn ((wts_iff.1 hW).2.2 k (by omega))
      have good : (1 ≤ w.getD k 0 ∧ w.getD k 0 ≤ 100000 ∧ (0 < k → w.getD (k - 1) 0 < w.getD k 0)) → ∀ j, j < k + 1 → 1 ≤ w.getD j 0 ∧ w.getD j 0 ≤ 100000 ∧ (0 < j → w.getD (j - 1) 0 < w.getD j 0) := fun hg j hj => by
        rcases Nat.lt_succ_iff_lt_or_eq.1 hj with h5 | h5
        · exact hk2 j h5
        · subst h5; exact hg
      rw [e1]
      refine ⟨by omega, fun h2 => ⟨fun h3 => (bad fun hn => h3 hn.2.1).symm, fun h3 => ⟨fun h4 => ⟨by omega, fi (by omega) (by omega), by omega, fun h5 => (bad fun hn => by have := hn.2.2 (by omega); omega).symm, fun h5 => ⟨fi (by omega) (by omega), k + 1, ⟨by omega, good ⟨h2, Classical.not_not.1 h3, fun _ => by omega⟩⟩, by omega, by omega⟩⟩,
        fun h4 => ⟨fi (by omega) (by omega), k + 1, ⟨by omega, good ⟨h2, Classical.not_not.1 h3, fun h0 => by omega⟩⟩, by omega, by omega⟩⟩⟩, fun h2 => (bad fun hn => h2 hn.1).symm⟩
    · exact (check_not h fun hW => by have := hW.pos; omega).symm
    · exact (check_ok.2 (wts_iff.2 ⟨by omega, by omega, fun j hj => hk2 j (by omega)⟩)).symm
  exact key w hw
theorem d3567 : distinctF [3, 5, 6, 7] = (true, 0) := by
  have h : distF [3, 5, 6, 7] = true := (distF_iff _).2 (by decide +kernel)
  unfold distinctF
  rw [h]; rfl
theorem ok19 : p19.OK Tryz.prog := p19.ok (fn := Tryz.f8) (fun _ => cx [p16.ci, p28.ci, p27.ci, p17.ci, p23.ci, p22.ci, p25.ci, Nm.p6r.ci, p21.ci] [])
    (fun _ => cx_ok (cs := [p16.ci, p28.ci, p27.ci, p17.ci, p23.ci, p22.ci, p25.ci, Nm.p6r.ci, p21.ci]) ⟨PC.OK.ci ok16, PC.OK.ci ok28, PC.OK.ci ok27, PC.OK.ci ok17, PC.OK.ci ok23, PC.OK.ci ok22, PC.OK.ci ok25, PC.OK.ci Nm.ok6r, PC.OK.ci ok21, trivial⟩ _) (by kernel_rfl) (by kernel_rfl) (by kernel_rfl) fun _ _ => by
  refine g19_eq.mpr ?_
  have e1 : p16.F [(3 : Int), (5 : Int), (6 : Int), (7 : Int)] = (true, 0) := d3567
  rw [e1]
  simp only [pp1, eq_self, and_true, true_and, true_implies, false_implies, not_true_eq_false, reduceCtorEq]
  have e2 : Nm.recF [1, 2, 4] = (ByteArray.mk #[55, 47, 52], 0) := by kernel_rfl
  exact ⟨by decide, by decide, by decide, by decide, ⟨by decide, by decide +kernel⟩, by decide, ⟨by decide, by decide⟩, ⟨by decide, by decide⟩, ⟨by decide, by decide⟩, ⟨by decide, by decide⟩, ⟨by decide, by decide⟩, fun h => h, fun h => h (congrArg Prod.fst e2)⟩
end Go.SX.We
