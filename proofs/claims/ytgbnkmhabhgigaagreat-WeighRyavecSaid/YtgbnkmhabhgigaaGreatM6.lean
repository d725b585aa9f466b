/- Parts of the proof, one after the other: WeU Wz4 Wz4E Wz4Q WeG Wz5 Wz5E Wz5Q. -/
import Derived.Test.YtgbnkmhabhgigaaGreatM5
/- Chapter 08: what well-formed weights are. -/
namespace Go.SX.We
theorem upF_cons {a : Int} : (r : List Int) → upF (a :: r) = true → (∀ x ∈ r, a < x) ∧ upF r = true
  | [], _ => ⟨fun x h => by simp at h, rfl⟩
  | b :: r, h => by
    simp only [upF, Bool.and_eq_true, decide_eq_true_eq] at h
    obtain ⟨h1, _⟩ := upF_cons r h.2
    refine ⟨fun x hx => ?_, h.2⟩
    rcases List.mem_cons.1 hx with rfl | hx
    · exact h.1
    · have := h1 x hx; omega
theorem upF_pairwise : {l : List Int} → upF l = true → l.Pairwise (· < ·)
  | [], _ => .nil
  | a :: r, h => .cons (upF_cons r h).1 (upF_pairwise (upF_cons r h).2)
theorem pairwise_upF : {l : List Int} → l.Pairwise (· < ·) → upF l = true
  | [], _ => rfl
  | [_], _ => rfl
  | a :: b :: r, h => by
    simp only [upF, Bool.and_eq_true, decide_eq_true_eq]
    cases h with
    | cons h1 h2 => exact ⟨h1 b (by simp), pairwise_upF h2⟩
theorem upF_iff (l : List Int) : upF l = true ↔ ∀ i, 0 < i → i < l.length → l.getD (i - 1) 0 < l.getD i 0 := by
  constructor
  · intro h i h0 hi
    have hp := List.pairwise_iff_getElem.1 (upF_pairwise h) (i - 1) i (by omega) hi (by omega)
    simpa [List.getD, List.getElem?_eq_getElem hi, List.getElem?_eq_getElem (show i - 1 < l.length by omega)] using hp
  · induction l with
    | nil => intro _; rfl
    | cons a r ih =>
      intro h
      cases r with
      | nil => rfl
      | cons b r =>
        simp only [upF, Bool.and_eq_true, decide_eq_true_eq]
        refine ⟨by have := h 1 (by omega) (by simp); simpa using this, ih fun i h0 hi => ?_⟩
        have := h (i + 1) (by omega) (by simp at hi ⊢; omega)
        obtain ⟨j, rfl⟩ : ∃ j, i = j + 1 := ⟨i - 1, by omega⟩
        simpa using this
structure Wts (w : List Int) : Prop where
  len : w.length ≤ 12
  pos : 0 < w.length
  lo : ∀ v ∈ w, 1 ≤ v
  hi : ∀ v ∈ w, v ≤ 100000
  up : w.Pairwise (· < ·)
theorem getD_mem {α : Type} (l : List α) (d : α) {k : Nat} (h : k < l.length) : l.getD k d ∈ l := by
  simp [List.getD, List.getElem?_eq_getElem h]
theorem mem_getD {α : Type} {l : List α} (d : α) {x : α} (h : x ∈ l) : ∃ k, k < l.length ∧ l.getD k d = x := by
  obtain ⟨k, h1, h2⟩ := List.mem_iff_getElem.1 h
  exact ⟨k, h1, by simp [List.getD, List.getElem?_eq_getElem h1, h2]⟩
theorem check_ok {w : List Int} : checkF w 12 = 0 ↔ Wts w := by
  constructor
  · intro h
    unfold checkF at h
    cases h1 : decide ((12 : Int) < (w.length : Int)) with
    | true => rw [h1] at h; exact absurd h (by simp)
    | false =>
    rw [h1] at h
    simp only [cond_false] at h
    cases h2 : (decide (w.length = 0) || decide (w.getD 0 0 < 1) || decide (100000 < w.getD (w.length - 1) 0)) with
    | true => rw [h2] at h; exact absurd h (by simp)
    | false =>
    rw [h2] at h
    simp only [cond_false] at h
    cases h3 : upF w with
    | false => rw [h3] at h; exact absurd h (by simp)
    | true =>
    simp only [Bool.or_eq_false_iff, decide_eq_false_iff_not] at h1 h2
    have hp := List.pairwise_iff_getElem.1 (upF_pairwise h3)
    have hpos : 0 < w.length := by omega
    have hD : ∀ k (hk : k < w.length), w.getD k 0 = w[k] := fun k hk => by simp [List.getD, List.getElem?_eq_getElem hk]
    refine ⟨by omega, hpos, fun v hv => ?_, fun v hv => ?_, upF_pairwise h3⟩
    · obtain ⟨k, k1, rfl⟩ := List.mem_iff_getElem.1 hv
      have := h2.1.2
      rw [hD 0 hpos] at this
      rcases Nat.eq_zero_or_pos k with rfl | hk
      · omega
      · have := hp 0 k hpos k1 hk; omega
    · obtain ⟨k, k1, rfl⟩ := List.mem_iff_getElem.1 hv
      have := h2.2
      rw [hD _ (by omega)] at this
      rcases Nat.lt_or_ge k (w.length - 1) with hk | hk
      · have := hp k (w.length - 1) k1 (by omega) hk; omega
      · have e : k = w.length - 1 := by omega
        subst e; omega
  · intro h
    unfold checkF
    have h1 : decide ((12 : Int) < (w.length : Int)) = false := by have := h.len; simp; omega
    have hl := h.lo _ (getD_mem w 0 h.pos)
    have hh := h.hi _ (getD_mem w 0 (show w.length - 1 < w.length by have := h.pos; omega))
    have h2 : (decide (w.length = 0) || decide (w.getD 0 0 < 1) || decide (100000 < w.getD (w.length - 1) 0)) = false := by
      simp only [Bool.or_eq_false_iff, decide_eq_false_iff_not]
      have := h.pos
      omega
    rw [h1, h2, pairwise_upF h.up]; rfl
theorem Wts.small {w : List Int} (h : Wts w) : ∀ v ∈ w, -1000000 ≤ v ∧ v ≤ 1000000 := fun v hv => by
  have := h.lo v hv
  have := h.hi v hv
  omega
theorem total_ok {w : List Int} {s : Int} : totalF w 12 s = 0 ↔ Wts w ∧ 0 ≤ s := by
  unfold totalF
  cases h : (decide ((w.length : Int) ≤ 12) && decide (s < 0)) with
  | true =>
    simp only [Bool.and_eq_true, decide_eq_true_eq] at h
    exact ⟨fun e => absurd e (by simp), fun ⟨_, e⟩ => by omega⟩
  | false =>
    simp only [cond_false]
    rw [check_ok]
    simp only [Bool.and_eq_false_iff, decide_eq_false_iff_not] at h
    exact ⟨fun hw => ⟨hw, by have := hw.len; omega⟩, fun hw => hw.1⟩
end Go.SX.We

/- Chapter 08: Distinct, Ways, Subset, what is asked of each. -/
namespace Go.SX.We
open Go Go.Proofs
noncomputable section
@[reducible] def upToS (n : Nat) (slot : Nat) (keep : List Nat) (ok : Nat → Prop) (more : Nat → List (Nat × SV)) : Ann where
  τ := Nat
  pre := []
  preC := []
  keep := keep
  slots k := (slot, .c (.int .i64 k)) :: more k
  ents _ := []
  ok k := k ≤ n ∧ ok k
  m k := n - k
@[reducible] def upTo (n : Nat) (slot : Nat) (keep : List Nat) (ok : Nat → Prop) : Ann := upToS n slot keep ok fun _ => []
@[reducible] def p40 : PC := ⟨19, [aIs, aI], [aI], fun p => p.1.length ≤ 1000 ∧ p.2 ≤ 1000, fun p => checkF p.1 p.2⟩
@[reducible] def C40 (p : List Int × Int) : Ctx := cx [] [(0, fun _ => upTo p.1.length 5 [0] fun k => 1 ≤ k ∧ upF (p.1.drop (k - 1)) = upF p.1)]
def g40 (w : List Int) (m : Int) : Prop := p40.VC (C40 (w, m)) Tryz.f19 (w, m)
@[reducible] def p55 : PC := ⟨61, [aIs, aI, aI], [aI], fun p => p.1.length ≤ 1000 ∧ p.2.1 ≤ 1000, fun p => totalF p.1 p.2.1 p.2.2⟩
def g55 (w : List Int) (m s : Int) : Prop := p55.VC (cx [p40.ci] []) Tryz.f61 (w, m, s)
@[reducible] def p16 : PC := ⟨13, [aIs], [aB, aI], fun w => w.length ≤ 1000, distinctF⟩
def g16 (w : List Int) : Prop := p16.VC (cx [p40.ci, p41.ci] []) Tryz.f13 w
@[reducible] def R23 (w : List Int) (s : Int) : RAnn where
  a := true
  T := tSub
  go := goT
  gen := subsF w
  preC := []
  ents pre := [(1, .blk 3 [.int .i64 (countF s pre)])]
  fin _ := []
  ex := .ret
  place := 0
@[reducible] def p23 : PC := ⟨28, [aIs, aI], [aI, aI], fun p => p.1.length ≤ 1000, fun p => waysF p.1 p.2⟩
def g23 (M : MM) (w : List Int) (s : Int) : Prop := p23.VC (cr M [p55.ci, i42, (c66 M).ci pick66] [] [(0, fun _ => R23 w s)]) Tryz.f28 (w, s)
def i56 : CI := inl 62 Tryz.f62 (cx [] [])
@[reducible] def R48 (w : List Int) (s : Int) : RAnn where
  a := true
  T := tSub
  go := goN (hasSum s)
  gen := subsF w
  preC := []
  ents _ := []
  fin pre := [(3, .blk 92 [.ro (.int .i64) (lastS pre).1, .int .i64 (lastS pre).2]), (4, .blk 4 [.kb true])]
  ex := .ret
  place := 2
@[reducible] def p22 : PC := ⟨29, [aIs, aI], [aIs, aI], fun p => p.1.length ≤ 1000, fun p => subsetF p.1 p.2⟩
@[reducible] def C48 (M : MM) (w : List Int) (s : Int) : Ctx := cr M [i56, (c66 M).ci pick66] [] [(0, fun _ => R48 w s)]
def g22 (M : MM) (w : List Int) (s : Int) : Prop := p22.VC (cx [p55.ci, i42, inl 57 Tryz.f57 (C48 M w s)] []) Tryz.f29 (w, s)
end
end Go.SX.We

/- Printed by VC.lean: what the executor asks. -/
namespace Go.SX.We
open Go Go.Proofs IntKind List
theorem g40_eq (w : List Int) (m : Int) : g40 w m = ((m < (w.length : Int) → m < (w.length : Int) ∧ m < (w.length : Int) ∧ 3 = checkF w m) ∧ (¬m < (w.length : Int) → ¬m < (w.length : Int) ∧ ¬m < (w.length : Int) ∧ ((w.length : Int) = 0 → (w.length : Int) = 0 ∧ (w.length : Int) = 0 ∧ 2 = checkF w m) ∧ (¬(w.length : Int) = 0 → ¬(w.length : Int) = 0 ∧ ¬(w.length : Int) = 0 ∧ ((0 : Int) ≤ 0 ∧ 0 < (w.length : Int)) ∧ (w.getD (Int.toNat 0) (0 : Int) < 1 → w.getD (Int.toNat 0) (0 : Int) < 1 ∧ w.getD (Int.toNat 0) (0 : Int) < 1 ∧ w.getD (Int.toNat 0) (0 : Int) < 1 ∧ 2 = checkF w m) ∧ (¬w.getD (Int.toNat 0) (0 : Int) < 1 → ¬w.getD (Int.toNat 0) (0 : Int) < 1 ∧ ¬w.getD (Int.toNat 0) (0 : Int) < 1 ∧ ¬w.getD (Int.toNat 0) (0 : Int) < 1 ∧ Fits .i64 ((w.length : Int) - 1) ∧ (0 ≤ (w.length : Int) - 1 ∧ (w.length : Int) - 1 < (w.length : Int)) ∧ (100000 < w.getD ((w.length : Int) - 1).toNat 0 → 100000 < w.getD ((w.length : Int) - 1).toNat 0 ∧ 100000 < w.getD ((w.length : Int) - 1).toNat 0 ∧ 100000 < w.getD ((w.length : Int) - 1).toNat 0 ∧ 2 = checkF w m) ∧ (¬100000 < w.getD ((w.length : Int) - 1).toNat 0 → ¬100000 < w.getD ((w.length : Int) - 1).toNat 0 ∧ ¬100000 < w.getD ((w.length : Int) - 1).toNat 0 ∧ ¬100000 < w.getD ((w.length : Int) - 1).toNat 0 ∧ (∃ (x0 : Nat), (x0 ≤ w.length ∧ (1 : Nat) ≤ x0 ∧ upF (drop (x0 - 1) w) = upF w) ∧ True ∧ 1 = (x0 : Int) ∧ w = w ∧ True) ∧ ∀ (x : Nat), x ≤ w.length ∧ (1 : Nat) ≤ x ∧ upF (drop (x - 1) w) = upF w → ((x : Int) < (w.length : Int) → (x : Int) < (w.length : Int) ∧ (0 ≤ (x : Int) ∧ (x : Int) < (w.length : Int)) ∧ Fits .i64 ((x : Int) - 1) ∧ (0 ≤ (x : Int) - 1 ∧ (x : Int) - 1 < (w.length : Int)) ∧ (w.getD (x : Int).toNat 0 ≤ w.getD ((x : Int) - 1).toNat 0 → w.getD (x : Int).toNat 0 ≤ w.getD ((x : Int) - 1).toNat 0 ∧ 2 = checkF w m) ∧ (¬w.getD (x : Int).toNat 0 ≤ w.getD ((x : Int) - 1).toNat 0 → ¬w.getD (x : Int).toNat 0 ≤ w.getD ((x : Int) - 1).toNat 0 ∧ Fits .i64 ((x : Int) + 1) ∧ ∃ (x' : Nat), (x' ≤ w.length ∧ (1 : Nat) ≤ x' ∧ upF (drop (x' - 1) w) = upF w) ∧ w.length - x' < w.length - x ∧ True ∧ (x : Int) + 1 = (x' : Int) ∧ w = w ∧ True)) ∧ (¬(x : Int) < (w.length : Int) → ¬(x : Int) < (w.length : Int) ∧ 0 = checkF w m)))))) := by kernel_rfl
theorem g55_eq (w : List Int) (m : Int) (s : Int) : g55 w m s = (((w.length : Int) ≤ m → (w.length : Int) ≤ m ∧ (w.length : Int) ≤ m ∧ (s < 0 → s < 0 ∧ s < 0 ∧ 1 = totalF w m s) ∧ (¬s < 0 → ¬s < 0 ∧ ¬s < 0 ∧ (w.length ≤ 1000 ∧ m ≤ 1000) ∧ checkF w m = totalF w m s)) ∧ (¬(w.length : Int) ≤ m → ¬(w.length : Int) ≤ m ∧ ¬(w.length : Int) ≤ m ∧ (w.length ≤ 1000 ∧ m ≤ 1000) ∧ checkF w m = totalF w m s)) := by kernel_rfl
theorem g16_eq (w : List Int) : g16 w = ((w.length ≤ 1000 ∧ (12 : Int) ≤ 1000) ∧ (¬checkF w (12 : Int) = 0 → ¬checkF w (12 : Int) = 0 ∧ (false, checkF w 12) = distinctF w) ∧ (¬¬checkF w (12 : Int) = 0 → ¬¬checkF w (12 : Int) = 0 ∧ (w.length ≤ 13 ∧ ∀ (v : Int), v ∈ w → (-1000000) ≤ v ∧ v ≤ 1000000) ∧ (distF w, (0 : Int)) = distinctF w)) := by kernel_rfl
theorem g23_eq (M : MM) (w : List Int) (s : Int) : g23 M w s = ((w.length ≤ 1000 ∧ (12 : Int) ≤ 1000) ∧ (¬totalF w 12 s = 0 → ¬totalF w 12 s = 0 ∧ true = true ∧ (0, totalF w 12 s) = waysF w s) ∧ (¬¬totalF w 12 s = 0 → ¬¬totalF w 12 s = 0 ∧ True ∧ (some (Ent.blk (22 : Nat) [SC.ro (Ty.int IntKind.i64) w]) = some (Ent.blk (22 : Nat) [SC.ro (Ty.int IntKind.i64) w]) ∧ True) ∧ ((s = s ∧ True) ∧ (0 = countF s (nilT (List Int × Int)) ∧ True) ∧ (w = w ∧ True) ∧ True) ∧ (∀ (pre : List (List Int × Int)) (x : List Int × Int) (r : List (List Int × Int)), subsF w = pre ++ x :: r → true = true ∧ (x.snd = s → x.snd = s ∧ Fits .i64 (countF s pre + 1) ∧ (true = true ∧ true = true) ∧ (s = s ∧ True) ∧ (countF s pre + 1 = countF s (pre ++ [x]) ∧ True) ∧ True ∧ True) ∧ (¬x.snd = s → ¬x.snd = s ∧ (true = true ∧ true = true) ∧ (s = s ∧ True) ∧ (countF s pre = countF s (pre ++ [x]) ∧ True) ∧ True ∧ True)) ∧ (∀ (E : Ext true tSub), E.go = goT → (∀ (pre : List (List Int × Int)) (x : List Int × Int) (r : List (List Int × Int)), subsF w = pre ++ x :: r → E.may pre x) → M true tSub E → True ∧ ((w = w ∧ True) ∧ Ent.ext true tSub E true (nilT (List Int × Int)) = Ent.ext true tSub E true (nilT (List Int × Int)) ∧ True) ∧ (E.yv = E.yv ∧ True ∧ True) ∧ P67 M (X66.mk E [] w).to ∧ (3 : Nat) = (3 : Nat) ∧ some (Ent.ext true tSub E (feed E.go (nilT (List Int × Int)) (subsF w)).fst (feed E.go (nilT (List Int × Int)) (subsF w)).snd) = some (Ent.ext true tSub E (feed goT (nilT (List Int × Int)) (subsF w)).fst (feed goT (nilT (List Int × Int)) (subsF w)).snd) ∧ some (Ent.blk (22 : TypeId) [SC.ro (Ty.int IntKind.i64) w]) = some (Ent.blk (22 : Nat) [SC.ro (Ty.int IntKind.i64) w]) ∧ True) ∧ ((feed goT (nilT (List Int × Int)) (subsF w)).fst = true → true = true ∧ (countF s (feed goT (nilT (List Int × Int)) (subsF w)).snd, (0 : Int)) = waysF w s) ∧ ((feed goT (nilT (List Int × Int)) (subsF w)).fst = false → true = true ∧ (0, (0 : Int)) = waysF w s))) := by kernel_rfl
theorem g22_eq (M : MM) (w : List Int) (s : Int) : g22 M w s = ((w.length ≤ 1000 ∧ (12 : Int) ≤ 1000) ∧ (¬totalF w 12 s = 0 → ¬totalF w 12 s = 0 ∧ (nilT Int, totalF w 12 s) = subsetF w s) ∧ (¬¬totalF w 12 s = 0 → ¬¬totalF w 12 s = 0 ∧ True ∧ (some (Ent.blk (22 : Nat) [SC.ro (Ty.int IntKind.i64) w]) = some (Ent.blk (22 : Nat) [SC.ro (Ty.int IntKind.i64) w]) ∧ True) ∧ ((s = s ∧ True) ∧ (w = w ∧ True) ∧ (True ∧ True) ∧ (Value.slice none (0 : Nat) (0 : Nat) = Value.slice none (0 : Nat) (0 : Nat) ∧ (0 : Int) = 0 ∧ True) ∧ (True ∧ True) ∧ True) ∧ (∀ (pre : List (List Int × Int)) (x : List Int × Int) (r : List (List Int × Int)), subsF w = pre ++ x :: r → true = true ∧ (x.snd = s → x.snd = s ∧ (Ex.ret = Ex.ret ∧ goN (hasSum s) pre x = false ∧ true = true) ∧ (s = s ∧ True) ∧ True ∧ (True ∧ True) ∧ (x.fst = (lastS (pre ++ [x])).fst ∧ x.snd = (lastS (pre ++ [x])).snd ∧ True) ∧ (True ∧ True) ∧ True) ∧ (¬x.snd = s → ¬x.snd = s ∧ (goN (hasSum s) pre x = true ∧ true = true) ∧ (s = s ∧ True) ∧ True ∧ (True ∧ True) ∧ (Value.slice none (0 : Nat) (0 : Nat) = Value.slice none (0 : Nat) (0 : Nat) ∧ (0 : Int) = 0 ∧ True) ∧ (True ∧ True) ∧ True)) ∧ (∀ (E : Ext true tSub), E.go = goN (hasSum s) → (∀ (pre : List (List Int × Int)) (x : List Int × Int) (r : List (List Int × Int)), subsF w = pre ++ x :: r → E.may pre x) → M true tSub E → True ∧ ((w = w ∧ True) ∧ Ent.ext true tSub E true (nilT (List Int × Int)) = Ent.ext true tSub E true (nilT (List Int × Int)) ∧ True) ∧ (E.yv = E.yv ∧ True ∧ True) ∧ P67 M (X66.mk E [] w).to ∧ (5 : Nat) = (5 : Nat) ∧ some (Ent.ext true tSub E (feed E.go (nilT (List Int × Int)) (subsF w)).fst (feed E.go (nilT (List Int × Int)) (subsF w)).snd) = some (Ent.ext true tSub E (feed (goN (hasSum s)) (nilT (List Int × Int)) (subsF w)).fst (feed (goN (hasSum s)) (nilT (List Int × Int)) (subsF w)).snd) ∧ some (Ent.blk (22 : TypeId) [SC.ro (Ty.int IntKind.i64) w]) = some (Ent.blk (22 : Nat) [SC.ro (Ty.int IntKind.i64) w]) ∧ True) ∧ ((feed (goN (hasSum s)) (nilT (List Int × Int)) (subsF w)).fst = true → true = true ∧ (nilT Int, (5 : Int)) = subsetF w s) ∧ ((feed (goN (hasSum s)) (nilT (List Int × Int)) (subsF w)).fst = false → true = true ∧ ((lastS (feed (goN (hasSum s)) (nilT (List Int × Int)) (subsF w)).snd).fst, (0 : Int)) = subsetF w s))) := by kernel_rfl
end Go.SX.We

/- Chapter 08: Distinct, Ways, Subset, proved. -/
namespace Go.SX.We
open Go Go.Proofs
theorem no {p A B : Prop} (h : ¬ p) (a : B) : (p → A) ∧ (¬ p → B) := ⟨fun n => absurd n h, fun _ => a⟩
theorem fi {n : Int} (h1 : -1000000000000000 ≤ n) (h2 : n ≤ 1000000000000000) : Fits .i64 n := fits_i64 (by omega) (by omega)
theorem cx0' {an : List (Nat × (St → Ann))} : CtxOK Tryz.prog (cx [] an) := cx_ok (cs := []) trivial an
theorem ok40 : p40.OK Tryz.prog := p40.ok (fn := Tryz.f19) C40 (fun _ => cx0') (by kernel_rfl) (by kernel_rfl) (by kernel_rfl) fun p hp => by
  obtain ⟨w, m⟩ := p
  obtain ⟨hl, hm⟩ := hp
  have hl : w.length ≤ 1000 := hl
  refine (g40_eq w m).mpr ?_
  simp only [pp1, eq_self, and_true, true_and, and_self]
  have e0 : (0 : Int).toNat = 0 := rfl
  have e1 : ((w.length : Int) - 1).toNat = w.length - 1 := by omega
  rw [e0, e1]
  refine ⟨fun h => ?_, fun h => ⟨fun h2 => ?_, fun h2 => ⟨by omega, fun h3 => ?_, fun h3 => ⟨fi (by omega) (by omega), by omega, fun h4 => ?_, fun h4 => ⟨⟨1, ⟨by omega, by omega, by simp⟩, rfl⟩, fun x hx => ⟨fun h5 => ?_, fun h5 => ?_⟩⟩⟩⟩⟩⟩
  · simp [checkF, h]
  · have h2' : w.length = 0 := by omega
    unfold checkF
    rw [decide_eq_false h, decide_eq_true h2']; rfl
  · have h3' : (decide (w.getD 0 0 < 1)) = true := by simpa using h3
    unfold checkF
    rw [h3', decide_eq_false h]; simp
  · have h4' : (decide (100000 < w.getD (w.length - 1) 0)) = true := by simpa using h4
    unfold checkF
    rw [h4', decide_eq_false h]; simp
  · obtain ⟨hx1, hx2, hx3⟩ := hx
    have a1 : (x : Int).toNat = x := by omega
    have a2 : ((x : Int) - 1).toNat = x - 1 := by omega
    rw [a1, a2]
    have hd : w.drop (x - 1) = w.getD (x - 1) 0 :: w.getD x 0 :: w.drop (x + 1) := by
      have b1 : x - 1 < w.length := by omega
      have b2 : x < w.length := by omega
      rw [List.drop_eq_getElem_cons b1, show x - 1 + 1 = x by omega, List.drop_eq_getElem_cons b2]
      simp [List.getD, List.getElem?_eq_getElem b1, List.getElem?_eq_getElem b2]
    refine ⟨⟨by omega, by omega⟩, fi (by omega) (by omega), by omega, fun h6 => ?_, fun h6 => ⟨fi (by omega) (by omega), x + 1, ⟨by omega, by omega, ?_⟩, by omega, by omega⟩⟩
    · have : upF w = false := by
        rw [← hx3, hd]
        simp only [upF, Bool.and_eq_false_iff, decide_eq_false_iff_not]
        exact .inl (by omega)
      unfold checkF
      rw [this, decide_eq_false h]
      cases (decide (w.length = 0) || decide (w.getD 0 0 < 1) || decide (100000 < w.getD (w.length - 1) 0)) <;> rfl
    · have e3 : x + 1 - 1 = x := by omega
      rw [e3, ← hx3, hd]
      have b2 : x < w.length := by omega
      have e4 : w.drop x = w.getD x 0 :: w.drop (x + 1) := by
        rw [List.drop_eq_getElem_cons b2]; simp [List.getD, List.getElem?_eq_getElem b2]
      rw [e4]
      simp only [upF]
      rw [decide_eq_true (by omega), Bool.true_and]
  · obtain ⟨hx1, hx2, hx3⟩ := hx
    have ex : x = w.length := by omega
    subst ex
    have b1 : w.length - 1 < w.length := by omega
    have hu : upF w = true := by
      rw [← hx3, List.drop_eq_getElem_cons b1, show w.length - 1 + 1 = w.length by omega, List.drop_length]; rfl
    have h2' : decide (w.length = 0) = false := decide_eq_false (by omega)
    have h3' : (decide (w.getD 0 0 < 1)) = false := by simpa using h3
    have h4' : (decide (100000 < w.getD (w.length - 1) 0)) = false := by simpa using h4
    unfold checkF
    rw [h2', h3', h4', decide_eq_false h, hu]; rfl
theorem ok55 : p55.OK Tryz.prog := p55.ok (fn := Tryz.f61) (fun _ => cx [p40.ci] []) (fun _ => cx_ok (cs := [p40.ci]) ⟨PC.OK.ci ok40, trivial⟩ _) (by kernel_rfl) (by kernel_rfl) (by kernel_rfl) fun p hp => by
  obtain ⟨w, m, s⟩ := p
  have hl : w.length ≤ 1000 := hp.1
  have hm : m ≤ 1000 := hp.2
  refine (g55_eq w m s).mpr ?_
  simp only [pp1, eq_self, and_true, true_and, and_self]
  refine ⟨fun h => ⟨fun h2 => ?_, fun h2 => ⟨⟨hl, hm⟩, ?_⟩⟩, fun h => ⟨⟨hl, hm⟩, ?_⟩⟩
  · simp [totalF, h, h2]
  · simp [totalF, h2]
  · simp [totalF, h]
theorem ok16 : p16.OK Tryz.prog := p16.ok (fn := Tryz.f13) (fun _ => cx [p40.ci, p41.ci] []) (fun _ => cx_ok (cs := [p40.ci, p41.ci]) ⟨PC.OK.ci ok40, PC.OK.ci c41_ok, trivial⟩ _) (by kernel_rfl) (by kernel_rfl) (by kernel_rfl) fun w hw => by
  refine (g16_eq w).mpr ?_
  have hw : w.length ≤ 1000 := hw
  simp only [pp1, eq_self, and_true, true_and, and_self]
  refine ⟨⟨hw, by decide⟩, fun h => ?_, fun h => ?_⟩
  · simp [distinctF, h]
  · have h : checkF w 12 = 0 := Classical.not_not.1 h
    have k := check_ok.1 h
    exact ⟨⟨by have := k.len; omega, k.small⟩, by simp [distinctF, h]⟩
theorem countF_snoc (s : Int) (l : List (List Int × Int)) (x : List Int × Int) : countF s (l ++ [x]) = countF s l + (if x.2 = s then 1 else 0) := by
  unfold countF hasSum
  by_cases h : x.2 = s
  · simp [h]
  · simp [h]
theorem countF_le (s : Int) (l : List (List Int × Int)) : 0 ≤ countF s l ∧ countF s l ≤ l.length := by
  unfold countF
  have := List.length_filter_le (hasSum s) l
  omega
theorem ok23 : p23.OK Tryz.prog := p23.ok (fn := Tryz.f28) (fun p => cr (callM Tryz.prog) [p55.ci, i42, (c66 (callM Tryz.prog)).ci pick66] [] [(0, fun _ => R23 p.1 p.2)]) (fun _ => cr_ok (cs := [p55.ci, i42, (c66 (callM Tryz.prog)).ci pick66]) ⟨PC.OK.ci ok55, i42_ok, i66_ok, trivial⟩ _ _) (by kernel_rfl) (by kernel_rfl) (by kernel_rfl) fun p hp => by
  obtain ⟨w, s⟩ := p
  have hl : w.length ≤ 1000 := hp
  refine (g23_eq _ w s).mpr ?_
  simp only [pp1, eq_self, and_true, true_and, and_self, feed_goT, List.nil_append]
  refine ⟨⟨hl, by decide⟩, fun h => by simp [waysF, h], fun h => ?_⟩
  have h : totalF w 12 s = 0 := Classical.not_not.1 h
  have k := (total_ok.1 h).1
  have hs := subsF_short (w := w) (by have := k.len; omega)
  refine ⟨rfl, fun pre x r hr => ?_, fun E hg he hM => ⟨P66_mk hM he (by have := k.len; omega) k.small, by rw [hg, feed_goT]; rfl⟩, fun _ => by simp [waysF, h], fun h => by cases h⟩
  have h1 : pre.length < (subsF w).length := by rw [hr]; simp
  have h2 := countF_le s pre
  rw [countF_snoc]
  exact ⟨fun hx => ⟨fi (by omega) (by omega), by rw [if_pos hx]⟩, fun hx => by rw [if_neg hx]; simp⟩
theorem i56_ok : i56.OK Tryz.prog := inl_ok cx0' (by kernel_rfl) (by kernel_rfl) (by kernel_rfl)
theorem ok22 : p22.OK Tryz.prog := p22.ok (fn := Tryz.f29) (fun p => cx [p55.ci, i42, inl 57 Tryz.f57 (C48 (callM Tryz.prog) p.1 p.2)] []) (fun p => cx_ok (cs := [p55.ci, i42, inl 57 Tryz.f57 (C48 (callM Tryz.prog) p.1 p.2)]) ⟨PC.OK.ci ok55, i42_ok, inl_ok (cr_ok (cs := [i56, (c66 (callM Tryz.prog)).ci pick66]) ⟨i56_ok, i66_ok, trivial⟩ _ _) (by kernel_rfl) (by kernel_rfl) (by kernel_rfl), trivial⟩ _) (by kernel_rfl) (by kernel_rfl) (by kernel_rfl) fun p hp => by
  obtain ⟨w, s⟩ := p
  have hl : w.length ≤ 1000 := hp
  refine (g22_eq _ w s).mpr ?_
  simp only [pp1, eq_self, and_true, true_and, and_self]
  refine ⟨⟨hl, by decide⟩, fun h => by simp [subsetF, h], fun h => ?_⟩
  have h : totalF w 12 s = 0 := Classical.not_not.1 h
  have k := (total_ok.1 h).1
  refine ⟨fun pre x r hr => ⟨fun hx => ?_, fun hx => ?_⟩, fun E hg he hM => ⟨P66_mk hM he (by have := k.len; omega) k.small, by rw [hg]⟩, fun hf => ?_, fun hf => ?_⟩
  · simp [goN, hasSum, hx, lastS_snoc]
  · simp [goN, hasSum, hx]
  · cases hfi : (subsF w).find? (hasSum s) with
    | none => simp [subsetF, h, hfi]
    | some y =>
      obtain ⟨q, h1, _⟩ := feed_some _ hfi []
      rw [h1] at hf; cases hf
  · cases hfi : (subsF w).find? (hasSum s) with
    | none => rw [feed_none _ hfi] at hf; cases hf
    | some y =>
      obtain ⟨q, h1, _⟩ := feed_some _ hfi []
      rw [h1]
      simp only [lastS_snoc]
      simp [subsetF, h, hfi]
end Go.SX.We

/- Chapter 08: Conway and Guy's sequence in plain words. -/
namespace Go.SX.We
def rS : Nat → Nat → Nat → Nat
  | 0, r, _ => r
  | f + 1, r, k => bif decide ((2 * r + 1) * (2 * r + 1) < 8 * k) then rS f (r + 1) k else r
def rF (k : Nat) : Nat := rS 40 0 k
def uL : Nat → List Int
  | 0 => [0, 1]
  | m + 1 => uL m ++ [2 * (uL m).getD (m + 1) 0 - (uL m).getD (m + 1 - rF (m + 1)) 0]
def guyF (n : Nat) : Int := (uL (n - 1)).getD n 0
def setF (n : Nat) : List Int := (List.range n).map fun j => guyF n - guyF (n - 1 - j)
def GuyF (n : Int) : Int × Int := bif decide (n < 0) || decide (60 < n) then (0, 1) else (guyF n.toNat, 0)
def SetF (n : Int) : List Int × Int := bif decide (n < 1) || decide (12 < n) then ([], 1) else (setF n.toNat, 0)
theorem setF_length (n : Nat) : (setF n).length = n := by simp [setF]
theorem uL_length : ∀ m, (uL m).length = m + 2
  | 0 => rfl
  | m + 1 => by simp [uL, uL_length m]
theorem uL_more (m i : Nat) (hi : i < m + 2) : ∀ d, (uL (m + d)).getD i 0 = (uL m).getD i 0
  | 0 => rfl
  | d + 1 => by
    rw [← uL_more m i hi d, ← Nat.add_assoc, uL]
    have : i < (uL (m + d)).length := by rw [uL_length]; omega
    simp [List.getD, List.getElem?_append_left this]
theorem uL_get {m i : Nat} (hi : i < m + 2) : (uL m).getD i 0 = guyF i := by
  unfold guyF
  rcases Nat.le_total (i - 1) m with h | h
  · have := uL_more (i - 1) i (by omega) (m - (i - 1))
    rwa [show i - 1 + (m - (i - 1)) = m by omega] at this
  · have e : i - 1 = m ∨ i - 1 = m + 0 := by omega
    have : i - 1 = m := by omega
    rw [this]
theorem rF_is : ∀ k, k < 61 → rF k ≤ k ∧ rF k ≤ 12 ∧ (∀ r, r < rF k → (2 * r + 1) * (2 * r + 1) < 8 * k) ∧ ¬ (2 * rF k + 1) * (2 * rF k + 1) < 8 * k := by decide +kernel
theorem guys_small : ∀ x ∈ uL 59, 0 ≤ x ∧ x ≤ 1152921504606846976 := by decide +kernel
theorem guy_small {n : Nat} (h : n ≤ 60) : 0 ≤ guyF n ∧ guyF n ≤ 1152921504606846976 := by
  rw [← uL_get (m := 59) (i := n) (by omega)]
  exact guys_small _ (getD_mem _ 0 (by rw [uL_length]; omega))
end Go.SX.We

/- Chapter 08: Guy, Set, and the reference's, what is asked of each. -/
namespace Go.SX.We
open Go Go.Proofs
noncomputable section
@[reducible] def p61 : PC := ⟨50, [aI], [aI], fun n => 0 ≤ n ∧ n ≤ 60, fun n => guyF n.toNat⟩
@[reducible] def A61 (n : Nat) : Ann where
  τ := Nat
  pre := []
  preC := []
  keep := [0]
  slots x := [(3, .c (.own 0 1))]
  ents x := [(0, .row 3 (.int .i64) 0 (uL x))]
  ok x := x ≤ n - 1
  m x := n - x
@[reducible] def A61b (k : Nat) : Ann := upTo (rF k) 5 [0, 3, 4] fun _ => True
@[reducible] def C61 (n : Int) : Ctx := cx [] [(0, fun _ => A61 n.toNat), (1, withI 4 fun k => A61b k.toNat)]
def g61 (n : Int) : Prop := p61.VC (C61 n) Tryz.f50 n
@[reducible] def p27 : PC := ⟨26, [aI], [aI, aI], fun _ => True, GuyF⟩
def g27 (n : Int) : Prop := p27.VC (cx [p61.ci] []) Tryz.f26 n
@[reducible] def p28 : PC := ⟨25, [aI], [aIs, aI], fun _ => True, SetF⟩
@[reducible] def A28 (n : Nat) : Ann where
  τ := Nat
  pre := [(4, 3, .int .i64)]
  preC := []
  keep := [0]
  slots x := [(4, .c (.own 0 1)), (5, .c (.int .i64 ((n : Int) - 1 - x)))]
  ents x := [(0, .row 3 (.int .i64) 0 ((List.range x).map fun j => guyF n - guyF (n - 1 - j)))]
  ok x := x ≤ n
  m x := n - x
@[reducible] def C28 (n : Int) : Ctx := cx [p61.ci] [(0, fun _ => A28 n.toNat)]
def g28 (n : Int) : Prop := p28.VC (C28 n) Tryz.f25 n
@[reducible] def p30 : PC := ⟨74, [aI], [aIs], fun n => n ≤ 60, fun n => uL (n.toNat - 1)⟩
@[reducible] def A30 (n : Nat) : Ann where
  τ := Nat
  pre := []
  preC := []
  keep := [0]
  slots x := [(3, .c (.own 0 1)), (4, .c (.int .i64 ((x : Int) + 1)))]
  ents x := [(0, .row 3 (.int .i64) 0 (uL x))]
  ok x := x ≤ n - 1
  m x := n - x
@[reducible] def C30 (n : Int) : Ctx := cx [] [(0, fun _ => A30 n.toNat), (1, withI 4 fun k => A61b k.toNat)]
def g30 (n : Int) : Prop := p30.VC (C30 n) Tryz.f74 n
@[reducible] def A31 (n : Nat) : Ann where
  τ := Nat
  pre := []
  preC := []
  keep := [0, 3]
  slots x := [(4, .c (.own 0 1)), (5, .c (.int .i64 ((n : Int) - 1 - x)))]
  ents x := [(0, .row 3 (.int .i64) 0 ((List.range x).map fun j => guyF n - guyF (n - 1 - j)))]
  ok x := x ≤ n
  m x := n - x
@[reducible] def C31 (n : Int) : Ctx := cx [p30.ci] [(0, fun _ => A31 n.toNat)]
end
end Go.SX.We

/- Printed by VC.lean: what the executor asks. -/
namespace Go.SX.We
open Go Go.Proofs IntKind List
theorem g61_eq (n : Int) : g61 n = ((∃ (x0 : Nat), x0 ≤ n.toNat - 1 ∧ ([0, 1] = uL x0 ∧ True) ∧ True ∧ n = n ∧ True) ∧ ∀ (x : Nat), x ≤ n.toNat - 1 → ((↑(uL x).length : Int) ≤ n → (↑(uL x).length : Int) ≤ n ∧ Fits .i64 ((↑(uL x).length : Int) - 1) ∧ (∃ (x0 : Nat), (x0 ≤ rF ((↑(uL x).length : Int) - 1).toNat ∧ True) ∧ (uL x = uL x ∧ True) ∧ 0 = (x0 : Int) ∧ (↑(uL x).length : Int) - 1 = (↑(uL x).length : Int) - 1 ∧ True ∧ n = n ∧ True) ∧ ∀ (x_1 : Nat), x_1 ≤ rF ((↑(uL x).length : Int) - 1).toNat ∧ True → Fits .i64 (2 * (x_1 : Int)) ∧ Fits .i64 (2 * (x_1 : Int) + 1) ∧ Fits .i64 (2 * (x_1 : Int)) ∧ Fits .i64 (2 * (x_1 : Int) + 1) ∧ Fits .i64 ((2 * (x_1 : Int) + 1) * (2 * (x_1 : Int) + 1)) ∧ Fits .i64 (8 * ((↑(uL x).length : Int) - 1)) ∧ ((2 * (x_1 : Int) + 1) * (2 * (x_1 : Int) + 1) < 8 * ((↑(uL x).length : Int) - 1) → (2 * (x_1 : Int) + 1) * (2 * (x_1 : Int) + 1) < 8 * ((↑(uL x).length : Int) - 1) ∧ Fits .i64 ((x_1 : Int) + 1) ∧ ∃ (x' : Nat), (x' ≤ rF ((↑(uL x).length : Int) - 1).toNat ∧ True) ∧ rF ((↑(uL x).length : Int) - 1).toNat - x' < rF ((↑(uL x).length : Int) - 1).toNat - x_1 ∧ (uL x = uL x ∧ True) ∧ (x_1 : Int) + 1 = (x' : Int) ∧ (↑(uL x).length : Int) - 1 = (↑(uL x).length : Int) - 1 ∧ True ∧ n = n ∧ True) ∧ (¬(2 * (x_1 : Int) + 1) * (2 * (x_1 : Int) + 1) < 8 * ((↑(uL x).length : Int) - 1) → ¬(2 * (x_1 : Int) + 1) * (2 * (x_1 : Int) + 1) < 8 * ((↑(uL x).length : Int) - 1) ∧ (0 ≤ (↑(uL x).length : Int) - 1 ∧ (↑(uL x).length : Int) - 1 < (↑(uL x).length : Int)) ∧ Fits .i64 (2 * (uL x).getD ((↑(uL x).length : Int) - 1).toNat 0) ∧ Fits .i64 ((↑(uL x).length : Int) - 1 - (x_1 : Int)) ∧ (0 ≤ (↑(uL x).length : Int) - 1 - (x_1 : Int) ∧ (↑(uL x).length : Int) - 1 - (x_1 : Int) < (↑(uL x).length : Int)) ∧ Fits .i64 (2 * (uL x).getD ((↑(uL x).length : Int) - 1).toNat 0 - (uL x).getD ((↑(uL x).length : Int) - 1 - (x_1 : Int)).toNat 0) ∧ Small ((uL x).length + ((0 : Nat) + 1)) ∧ ∃ (x' : Nat), x' ≤ n.toNat - 1 ∧ n.toNat - x' < n.toNat - x ∧ (uL x ++ [2 * (uL x).getD ((↑(uL x).length : Int) - 1).toNat 0 - (uL x).getD ((↑(uL x).length : Int) - 1 - (x_1 : Int)).toNat 0] = uL x' ∧ True) ∧ True ∧ n = n ∧ True)) ∧ (¬(↑(uL x).length : Int) ≤ n → ¬(↑(uL x).length : Int) ≤ n ∧ (0 ≤ n ∧ n < (↑(uL x).length : Int)) ∧ (uL x).getD n.toNat 0 = guyF n.toNat)) := by kernel_rfl
theorem g27_eq (n : Int) : g27 n = ((n < 0 → n < 0 ∧ n < 0 ∧ (0, (1 : Int)) = GuyF n) ∧ (¬n < 0 → ¬n < 0 ∧ ¬n < 0 ∧ (60 < n → 60 < n ∧ 60 < n ∧ (0, (1 : Int)) = GuyF n) ∧ (¬60 < n → ¬60 < n ∧ ¬60 < n ∧ (0 ≤ n ∧ n ≤ 60) ∧ (guyF n.toNat, (0 : Int)) = GuyF n))) := by kernel_rfl
theorem g28_eq (n : Int) : g28 n = ((n < 1 → n < 1 ∧ n < 1 ∧ (nilT Int, (1 : Int)) = SetF n) ∧ (¬n < 1 → ¬n < 1 ∧ ¬n < 1 ∧ (12 < n → 12 < n ∧ 12 < n ∧ (nilT Int, (1 : Int)) = SetF n) ∧ (¬12 < n → ¬12 < n ∧ ¬12 < n ∧ Fits .i64 (n - 1) ∧ (∃ (x0 : Nat), x0 ≤ n.toNat ∧ (nilT Int = List.map (fun (j : Nat) => guyF n.toNat - guyF (n.toNat - 1 - j)) (List.range x0) ∧ True) ∧ True ∧ n - 1 = (n.toNat : Int) - 1 - (x0 : Int) ∧ n = n ∧ True) ∧ ∀ (x : Nat), x ≤ n.toNat → (0 ≤ (n.toNat : Int) - 1 - (x : Int) → 0 ≤ (n.toNat : Int) - 1 - (x : Int) ∧ (0 ≤ n ∧ n ≤ 60) ∧ (0 ≤ (n.toNat : Int) - 1 - (x : Int) ∧ (n.toNat : Int) - 1 - (x : Int) ≤ 60) ∧ Fits .i64 (guyF n.toNat - guyF ((n.toNat : Int) - 1 - (x : Int)).toNat) ∧ Small ((List.map (fun (j : Nat) => guyF n.toNat - guyF (n.toNat - 1 - j)) (List.range x)).length + ((0 : Nat) + 1)) ∧ Fits .i64 ((n.toNat : Int) - 1 - (x : Int) - 1) ∧ ∃ (x' : Nat), x' ≤ n.toNat ∧ n.toNat - x' < n.toNat - x ∧ (List.map (fun (j : Nat) => guyF n.toNat - guyF (n.toNat - 1 - j)) (List.range x) ++ [guyF n.toNat - guyF ((n.toNat : Int) - 1 - (x : Int)).toNat] = List.map (fun (j : Nat) => guyF n.toNat - guyF (n.toNat - 1 - j)) (List.range x') ∧ True) ∧ True ∧ (n.toNat : Int) - 1 - (x : Int) - 1 = (n.toNat : Int) - 1 - (x' : Int) ∧ n = n ∧ True) ∧ (¬0 ≤ (n.toNat : Int) - 1 - (x : Int) → ¬0 ≤ (n.toNat : Int) - 1 - (x : Int) ∧ (List.map (fun (j : Nat) => guyF n.toNat - guyF (n.toNat - 1 - j)) (List.range x), (0 : Int)) = SetF n)))) := by kernel_rfl
theorem g30_eq (n : Int) : g30 n = ((∃ (x0 : Nat), x0 ≤ n.toNat - 1 ∧ ([0, 1] = uL x0 ∧ True) ∧ True ∧ 1 = (x0 : Int) + 1 ∧ n = n ∧ True) ∧ ∀ (x : Nat), x ≤ n.toNat - 1 → ((x : Int) + 1 < n → (x : Int) + 1 < n ∧ (∃ (x0 : Nat), (x0 ≤ rF ((x : Int) + 1).toNat ∧ True) ∧ (uL x = uL x ∧ True) ∧ 0 = (x0 : Int) ∧ True ∧ (x : Int) + 1 = (x : Int) + 1 ∧ n = n ∧ True) ∧ ∀ (x_1 : Nat), x_1 ≤ rF ((x : Int) + 1).toNat ∧ True → Fits .i64 (2 * (x_1 : Int)) ∧ Fits .i64 (2 * (x_1 : Int) + 1) ∧ Fits .i64 (2 * (x_1 : Int)) ∧ Fits .i64 (2 * (x_1 : Int) + 1) ∧ Fits .i64 ((2 * (x_1 : Int) + 1) * (2 * (x_1 : Int) + 1)) ∧ Fits .i64 (8 * ((x : Int) + 1)) ∧ ((2 * (x_1 : Int) + 1) * (2 * (x_1 : Int) + 1) ≤ 8 * ((x : Int) + 1) → (2 * (x_1 : Int) + 1) * (2 * (x_1 : Int) + 1) ≤ 8 * ((x : Int) + 1) ∧ Fits .i64 ((x_1 : Int) + 1) ∧ ∃ (x' : Nat), (x' ≤ rF ((x : Int) + 1).toNat ∧ True) ∧ rF ((x : Int) + 1).toNat - x' < rF ((x : Int) + 1).toNat - x_1 ∧ (uL x = uL x ∧ True) ∧ (x_1 : Int) + 1 = (x' : Int) ∧ True ∧ (x : Int) + 1 = (x : Int) + 1 ∧ n = n ∧ True) ∧ (¬(2 * (x_1 : Int) + 1) * (2 * (x_1 : Int) + 1) ≤ 8 * ((x : Int) + 1) → ¬(2 * (x_1 : Int) + 1) * (2 * (x_1 : Int) + 1) ≤ 8 * ((x : Int) + 1) ∧ (0 ≤ (x : Int) + 1 ∧ (x : Int) + 1 < (↑(uL x).length : Int)) ∧ Fits .i64 (2 * (uL x).getD ((x : Int) + 1).toNat 0) ∧ Fits .i64 ((x : Int) + 1 - (x_1 : Int)) ∧ (0 ≤ (x : Int) + 1 - (x_1 : Int) ∧ (x : Int) + 1 - (x_1 : Int) < (↑(uL x).length : Int)) ∧ Fits .i64 (2 * (uL x).getD ((x : Int) + 1).toNat 0 - (uL x).getD ((x : Int) + 1 - (x_1 : Int)).toNat 0) ∧ Small ((uL x).length + ((0 : Nat) + 1)) ∧ Fits .i64 ((x : Int) + 1 + 1) ∧ ∃ (x' : Nat), x' ≤ n.toNat - 1 ∧ n.toNat - x' < n.toNat - x ∧ (uL x ++ [2 * (uL x).getD ((x : Int) + 1).toNat 0 - (uL x).getD ((x : Int) + 1 - (x_1 : Int)).toNat 0] = uL x' ∧ True) ∧ True ∧ (x : Int) + 1 + 1 = (x' : Int) + 1 ∧ n = n ∧ True)) ∧ (¬(x : Int) + 1 < n → ¬(x : Int) + 1 < n ∧ uL x = uL (n.toNat - 1))) := by kernel_rfl
end Go.SX.We

/- Chapter 08: Guy, Set, and the reference's, proved. -/
namespace Go.SX.We
open Go Go.Proofs
theorem sq_iff (r k : Nat) : ((2 * (r : Int) + 1) * (2 * (r : Int) + 1) < 8 * (k : Int)) ↔ (2 * r + 1) * (2 * r + 1) < 8 * k := by
  constructor <;> intro h <;> exact_mod_cast h
theorem sq_ne (r k : Nat) : (2 * r + 1) * (2 * r + 1) ≠ 8 * k := by
  intro h
  have e : (2 * r + 1) * (2 * r + 1) = 2 * (2 * r * r + 2 * r) + 1 := by
    simp only [Nat.add_mul, Nat.mul_add, Nat.mul_one, Nat.one_mul, Nat.mul_assoc, Nat.mul_left_comm, Nat.mul_comm]
    omega
  omega
theorem rF_lt {r k : Nat} (hk : k < 61) (hr : r ≤ rF k) : (2 * r + 1) * (2 * r + 1) < 8 * k ↔ r < rF k := by
  obtain ⟨_, _, h1, h2⟩ := rF_is k hk
  constructor
  · intro h
    rcases Nat.lt_or_ge r (rF k) with h3 | h3
    · exact h3
    · have : r = rF k := by omega
      rw [this] at h; exact absurd h h2
  · exact h1 r
theorem sq_fits {r : Nat} (h : r ≤ 12) : Fits .i64 ((2 * (r : Int) + 1) * (2 * (r : Int) + 1)) := by
  have h1 : (2 * (r : Int) + 1) * (2 * (r : Int) + 1) ≤ 25 * 25 := Int.mul_le_mul (by omega) (by omega) (by omega) (by omega)
  have h2 : 0 ≤ (2 * (r : Int) + 1) * (2 * (r : Int) + 1) := Int.mul_nonneg (by omega) (by omega)
  exact fi (by omega) (by omega)
theorem guy_fits {a b : Nat} (ha : a ≤ 60) (hb : b ≤ 60) : Fits .i64 (2 * guyF a) ∧ Fits .i64 (2 * guyF a - guyF b) ∧ Fits .i64 (guyF a - guyF b) := by
  have h1 := guy_small ha
  have h2 := guy_small hb
  unfold Fits
  have e1 : IntKind.i64.min = -9223372036854775808 := by decide
  have e2 : IntKind.i64.max = 9223372036854775807 := by decide
  rw [e1, e2]
  omega
theorem ok61 : p61.OK Tryz.prog := p61.ok (fn := Tryz.f50) C61 (fun _ => cx0') (by kernel_rfl) (by kernel_rfl) (by kernel_rfl) fun n hn => by
  have key : ∀ n : Int, 0 ≤ n → n ≤ 60 → g61 n := fun n h0 h1 => by
    obtain ⟨N, rfl⟩ : ∃ N : Nat, n = (N : Int) := ⟨n.toNat, by omega⟩
    refine (g61_eq N).mpr ?_
    simp only [pp1, eq_self, and_true, true_and, and_self, Int.toNat_natCast, uL_length]
    refine ⟨⟨0, by omega, rfl⟩, fun x hx => ⟨fun h => ?_, fun h => ⟨by omega, ?_⟩⟩⟩
    · have ek : ((((x + 2 : Nat) : Int) - 1).toNat) = x + 1 := by omega
      have ek2 : (((x + 2 : Nat) : Int) - 1) = ((x + 1 : Nat) : Int) := by omega
      rw [ek, ek2]
      obtain ⟨q1, q2, _, _⟩ := rF_is (x + 1) (by omega)
      refine ⟨fi (by omega) (by omega), ⟨0, Nat.zero_le _, rfl⟩, fun r hr => ⟨fi (by omega) (by omega), fi (by omega) (by omega), fi (by omega) (by omega), fi (by omega) (by omega), sq_fits (by omega), fi (by omega) (by omega), fun h2 => ?_, fun h2 => ?_⟩⟩
      · have h3 := (rF_lt (by omega) hr).1 ((sq_iff r (x + 1)).1 h2)
        exact ⟨fi (by omega) (by omega), r + 1, by omega, by omega, by omega⟩
      · have h3 : r = rF (x + 1) := by
          have := mt (sq_iff r (x + 1)).2 h2
          have := mt (rF_lt (by omega) hr).2 this
          omega
        have e3 : (((x + 1 : Nat) : Int) - (r : Int)).toNat = x + 1 - r := by omega
        rw [e3]
        have e4 : (((x + 1 : Nat) : Int)).toNat = x + 1 := by omega
        have g1 := uL_get (m := x) (i := x + 1) (by omega)
        have g2 := uL_get (m := x) (i := x + 1 - r) (by omega)
        obtain ⟨f1, f2, _⟩ := guy_fits (a := x + 1) (b := x + 1 - r) (by omega) (by omega)
        rw [g1, g2]
        refine ⟨by omega, f1, fi (by omega) (by omega), by omega, f2, by unfold Small; omega, x + 1, by omega, by omega, ?_⟩
        rw [uL, ← h3, g1, g2]
    · have e : x = N - 1 := by omega
      rw [e]; rfl
  exact key n hn.1 hn.2
theorem ok27 : p27.OK Tryz.prog := p27.ok (fn := Tryz.f26) (fun _ => cx [p61.ci] []) (fun _ => cx_ok (cs := [p61.ci]) ⟨PC.OK.ci ok61, trivial⟩ _) (by kernel_rfl) (by kernel_rfl) (by kernel_rfl) fun n _ => by
  have key : ∀ n : Int, g27 n := fun n => by
    refine (g27_eq n).mpr ?_
    simp only [pp1, eq_self, and_true, true_and, and_self]
    exact ⟨fun h => by simp [GuyF, h], fun h => ⟨fun h2 => by simp [GuyF, h2], fun h2 => ⟨by omega, by simp [GuyF, h, h2]⟩⟩⟩
  exact key n
theorem ok28 : p28.OK Tryz.prog := p28.ok (fn := Tryz.f25) C28 (fun _ => cx_ok (cs := [p61.ci]) ⟨PC.OK.ci ok61, trivial⟩ _) (by kernel_rfl) (by kernel_rfl) (by kernel_rfl) fun n _ => by
  have key : ∀ n : Int, g28 n := fun n => by
    refine (g28_eq n).mpr ?_
    simp only [pp1, eq_self, and_true, true_and, and_self]
    refine ⟨fun h => by simp [SetF, h], fun h => ⟨fun h2 => by simp [SetF, h2], fun h2 => ?_⟩⟩
    obtain ⟨N, rfl⟩ : ∃ N : Nat, n = (N : Int) := ⟨n.toNat, by omega⟩
    simp only [Int.toNat_natCast]
    refine ⟨fi (by omega) (by omega), ⟨0, by omega, rfl, by omega⟩, fun x hx => ⟨fun h3 => ?_, fun h3 => ?_⟩⟩
    · have e1 : ((N : Int) - 1 - (x : Int)).toNat = N - 1 - x := by omega
      rw [e1]
      refine ⟨by omega, by omega, (guy_fits (by omega) (by omega)).2.2, by unfold Small; simp; omega, fi (by omega) (by omega), x + 1, by omega, by omega, ?_, by push_cast; omega⟩
      rw [List.range_succ, List.map_append]; rfl
    · have e1 : x = N := by omega
      subst e1
      have a1 : decide ((x : Int) < 1) = false := decide_eq_false h
      have a2 : decide ((12 : Int) < (x : Int)) = false := decide_eq_false h2
      unfold SetF
      rw [a1, a2]; rfl
  exact key n
theorem ok30 : p30.OK Tryz.prog := p30.ok (fn := Tryz.f74) C30 (fun _ => cx0') (by kernel_rfl) (by kernel_rfl) (by kernel_rfl) fun n hn => by
  have key : ∀ n : Int, n ≤ 60 → g30 n := fun n h1 => by
    refine (g30_eq n).mpr ?_
    simp only [pp1, eq_self, and_true, true_and, and_self, uL_length]
    refine ⟨⟨0, by omega, rfl, by omega⟩, fun x hx => ⟨fun h => ?_, fun h => ?_⟩⟩
    · have ek : (((x : Int) + 1).toNat) = x + 1 := by omega
      have ek2 : ((x : Int) + 1) = ((x + 1 : Nat) : Int) := by omega
      rw [ek, ek2]
      obtain ⟨q1, q2, _, _⟩ := rF_is (x + 1) (by omega)
      refine ⟨⟨0, Nat.zero_le _, rfl⟩, fun r hr => ⟨fi (by omega) (by omega), fi (by omega) (by omega), fi (by omega) (by omega), fi (by omega) (by omega), sq_fits (by omega), fi (by omega) (by omega), fun h2 => ?_, fun h2 => ?_⟩⟩
      · have h3 : (2 * r + 1) * (2 * r + 1) ≤ 8 * (x + 1) := by exact_mod_cast h2
        have h4 := (rF_lt (by omega) hr).1 (Nat.lt_of_le_of_ne h3 (sq_ne r (x + 1)))
        exact ⟨fi (by omega) (by omega), r + 1, by omega, by omega, by omega⟩
      · have h3 : r = rF (x + 1) := by
          have h4 : ¬ (2 * r + 1) * (2 * r + 1) < 8 * (x + 1) := fun h5 => h2 (by have := Nat.le_of_lt h5; exact_mod_cast this)
          have := mt (rF_lt (by omega) hr).2 h4
          omega
        have e3 : (((x + 1 : Nat) : Int) - (r : Int)).toNat = x + 1 - r := by omega
        have e4 : (((x + 1 : Nat) : Int)).toNat = x + 1 := by omega
        rw [e3]
        have g1 := uL_get (m := x) (i := x + 1) (by omega)
        have g2 := uL_get (m := x) (i := x + 1 - r) (by omega)
        obtain ⟨f1, f2, _⟩ := guy_fits (a := x + 1) (b := x + 1 - r) (by omega) (by omega)
        rw [g1, g2]
        refine ⟨by omega, f1, fi (by omega) (by omega), by omega, f2, by unfold Small; omega, fi (by omega) (by omega), x + 1, by omega, by omega, ?_, by omega⟩
        rw [uL, ← h3, g1, g2]
    · have e : x = n.toNat - 1 := by omega
      rw [e]
  exact key n hn
end Go.SX.We
