/- Parts of the proof, one after the other: WePt WeIx WeRc WeRd WeRs WeBt. -/
import Derived.Test.YtgbnkmhabhgigaaM15
import Derived.Laws.BitsLemmas
/- Chapter 08: parts of weights, in plain words. -/
namespace Go.SX.We

def partL (p : Nat → Bool) (l : List Int) (k : Nat) : List Int := ((List.range k).filter p).map fun i => l.getD i 0
theorem partL_snoc (p : Nat → Bool) (l : List Int) (k : Nat) : partL p l (k + 1) = bif p k then partL p l k ++ [l.getD k 0] else partL p l k := by
  unfold partL
  rw [List.range_succ, List.filter_append, List.map_append]
  cases h : p k <;> simp [h]
theorem partL_sub (p : Nat → Bool) (l : List Int) : List.Sublist (partL p l l.length) l := by
  have e : l = (List.range l.length).map fun i => l.getD i 0 := by
    apply List.ext_getElem
    · simp
    · intro i h1 h2
      simp [List.getD, List.getElem?_eq_getElem h1]
  unfold partL
  conv => rhs; rw [e]
  exact (List.filter_sublist).map _
theorem part_wts {l s : List Int} (h : Wts l) (hs : List.Sublist s l) (hn : 0 < s.length) : Wts s :=
  ⟨by have := hs.length_le; have := h.len; omega, hn, fun v hv => h.lo v (hs.subset hv), fun v hv => h.hi v (hs.subset hv), h.up.sublist hs⟩
theorem partL_len (p : Nat → Bool) (l : List Int) (k : Nat) : (partL p l k).length ≤ k := by
  unfold partL
  rw [List.length_map]
  exact Nat.le_trans (List.length_filter_le _ _) (by simp)
end Go.SX.We

/- Chapter 08: subsets given by numbers, and the first clash, in plain words. -/
namespace Go.SX.We

theorem getD_app {α : Type} (a b : List α) (d : α) (n : Nat) : (a ++ b).getD n d = if n < a.length then a.getD n d else b.getD (n - a.length) d := by
  simp only [List.getD, List.getElem?_append]
  split <;> rfl
/-! ### Numbers as sets -/
def idxK (n k : Nat) : List Int := ((List.range k).filter n.testBit).map fun i : Nat => (i : Int)
theorem idxK_snoc (n k : Nat) : idxK n (k + 1) = bif n.testBit k then idxK n k ++ [(k : Int)] else idxK n k := by
  unfold idxK
  rw [List.range_succ, List.filter_append, List.map_append]
  cases h : n.testBit k <;> simp [h]
theorem idxK_more {n k : Nat} (h : n < 2 ^ k) : ∀ d, idxK n (k + d) = idxK n k
  | 0 => rfl
  | d + 1 => by
    rw [← Nat.add_assoc, idxK_snoc, idxK_more h d]
    have : n.testBit (k + d) = false := Nat.testBit_lt_two_pow (Nat.lt_of_lt_of_le h (Nat.pow_le_pow_right (by decide) (by omega)))
    rw [this]; rfl
/-- The set that a number stands for. -/
def idxF (n : Nat) : List Int := idxK n n
theorem idxF_eq {n k : Nat} (h : n < 2 ^ k) : idxF n = idxK n k := by
  have h0 : n < 2 ^ n := Nat.lt_two_pow_self
  unfold idxF
  rw [← idxK_more h0 k, ← idxK_more h n, Nat.add_comm]
theorem sets_getD : ∀ {k n : Nat}, n < 2 ^ k → (sets k).getD n [] = idxK n k
  | 0, n, h => by
    have : n = 0 := by simpa using h
    subst this; rfl
  | k + 1, n, h => by
    unfold sets
    rw [idxK_snoc, getD_app]
    by_cases hn : n < 2 ^ k
    · rw [if_pos (by rw [sets_length]; exact hn), sets_getD hn, Nat.testBit_lt_two_pow hn]; rfl
    · have h2 : n - 2 ^ k < 2 ^ k := by rw [Nat.pow_succ] at h; omega
      have hl : n - 2 ^ k < (sets k).length := by rw [sets_length]; exact h2
      have e1 : ((sets k).map (· ++ [(k : Int)])).getD (n - 2 ^ k) [] = (sets k).getD (n - 2 ^ k) [] ++ [(k : Int)] := by
        simp [List.getD, List.getElem?_eq_getElem hl]
      have hb : n.testBit k = true := by
        have e : n = 2 ^ k + (n - 2 ^ k) := by omega
        rw [e, Nat.testBit_two_pow_add_eq, Nat.testBit_lt_two_pow h2]; rfl
      have hi : idxK (n - 2 ^ k) k = idxK n k := by
        unfold idxK
        congr 1
        apply List.filter_congr
        intro i hi
        have hi := List.mem_range.1 hi
        have e : n = 2 ^ k + (n - 2 ^ k) := by omega
        conv => rhs; rw [e]
        rw [Nat.testBit_two_pow_add_gt hi]
      rw [if_neg (by rw [sets_length]; exact hn), sets_length, e1, sets_getD h2, hb, hi]; rfl
theorem sets_idx {N n : Nat} (h : n < 2 ^ N) : (sets N).getD n [] = idxF n := by rw [sets_getD h, idxF_eq h]
theorem idx_ris {N n : Nat} (h : n < 2 ^ N) : Ris 0 N (idxF n) := by
  have hl : n < (sets N).length := by rw [sets_length]; exact h
  rw [← mem_sets, ← sets_idx h]
  simp [List.getD, List.getElem?_eq_getElem hl]
theorem idx_sum (w : List Int) {n : Nat} (h : n < 2 ^ w.length) : (sumsR w).getD n 0 = sumAt w (idxF n) := by
  have hl : n < (sets w.length).length := by rw [sets_length]; exact h
  rw [sumsR_eq, ← sets_idx h]
  simp [List.getD, List.getElem?_eq_getElem hl]
theorem idx_of {N : Nat} {t : List Int} (h : Ris 0 N t) : ∃ n, n < 2 ^ N ∧ idxF n = t := by
  obtain ⟨n, hn, e⟩ := List.getElem_of_mem (mem_sets.2 h)
  have hn' : n < 2 ^ N := by rw [sets_length] at hn; exact hn
  refine ⟨n, hn', ?_⟩
  rw [← sets_idx hn', ← e]
  simp [List.getD, List.getElem?_eq_getElem hn]
theorem mem_idx {n i : Nat} : (i : Int) ∈ idxF n ↔ n.testBit i = true := by
  have h0 : n < 2 ^ (n + i + 1) := Nat.lt_of_lt_of_le Nat.lt_two_pow_self (Nat.pow_le_pow_right (by decide) (by omega))
  rw [idxF_eq h0]
  unfold idxK
  simp only [List.mem_map, List.mem_filter, List.mem_range]
  constructor
  · rintro ⟨j, ⟨_, h⟩, e⟩
    have : j = i := by omega
    subst this; exact h
  · intro h
    exact ⟨i, ⟨by omega, h⟩, rfl⟩
theorem idx_nat {n : Nat} {i : Int} (h : i ∈ idxF n) : ∃ j : Nat, i = (j : Int) ∧ n.testBit j = true := by
  unfold idxF idxK at h
  simp only [List.mem_map, List.mem_filter, List.mem_range] at h
  obtain ⟨j, ⟨_, hj⟩, e⟩ := h
  exact ⟨j, e.symm, hj⟩
theorem idx_apart {a b : Nat} : a &&& b = 0 ↔ ∀ i ∈ idxF a, i ∉ idxF b := by
  constructor
  · intro h i hi hb
    obtain ⟨j, rfl, hj⟩ := idx_nat hi
    have hj2 := mem_idx.1 hb
    have : (a &&& b).testBit j = true := by rw [Nat.testBit_and, hj, hj2]; rfl
    rw [h] at this
    simp at this
  · intro h
    apply Nat.eq_of_testBit_eq
    intro j
    rw [Nat.testBit_and, Nat.zero_testBit]
    cases ha : a.testBit j with
    | false => rfl
    | true =>
      cases hb : b.testBit j with
      | false => rfl
      | true => exact absurd (mem_idx.2 hb) (h _ (mem_idx.2 ha))
theorem idx_ne {n : Nat} (h : 0 < n) : idxF n ≠ [] := by
  intro e
  obtain ⟨j, hj⟩ := Nat.exists_testBit_of_ne_zero (show n ≠ 0 by omega)
  have := mem_idx.2 hj
  rw [e] at this
  cases this
end Go.SX.We

/- Chapter 08: the order of the subsets; the first clash of all. -/
namespace Go.SX.We

theorem beforeF_cons (x y : Int) (a b : List Int) : beforeF (x :: a) (y :: b) = true ↔ x < y ∨ (x = y ∧ beforeF a b = true) := by
  rw [beforeF]
  by_cases h : x = y
  · subst h; simp
  · rw [if_neg h]; simp [h]
theorem before_trans : {a b c : List Int} → beforeF a b = true → beforeF b c = true → beforeF a c = true
  | a, [], c, h, _ => by rw [beforeF_nil_right] at h; cases h
  | a, _ :: _, [], _, h => by rw [beforeF_nil_right] at h; cases h
  | [], _ :: _, _ :: _, _, _ => by rw [beforeF_nil_left]; simp
  | x :: a, y :: b, z :: c, h1, h2 => by
    rw [beforeF_cons] at h1 h2 ⊢
    rcases h1 with h1 | ⟨rfl, h1⟩
    · rcases h2 with h2 | ⟨rfl, h2⟩
      · exact .inl (by omega)
      · exact .inl h1
    · rcases h2 with h2 | ⟨rfl, h2⟩
      · exact .inl h2
      · exact .inr ⟨rfl, before_trans h1 h2⟩
theorem tlF_sorted (N : Nat) : ∀ n, n ≤ N → (tlF N n).Pairwise fun a b => beforeF a b = true
  | 0, _ => List.Pairwise.nil
  | n + 1, h => by
    have ih := tlF_sorted N n (by omega)
    unfold tlF
    rw [List.pairwise_append]
    refine ⟨?_, ih, ?_⟩
    · rw [List.map_cons, List.pairwise_cons]
      refine ⟨fun b hb => ?_, ?_⟩
      · obtain ⟨t, ht, rfl⟩ := List.mem_map.1 hb
        rw [beforeF_cons]
        refine .inr ⟨rfl, ?_⟩
        rw [beforeF_nil_left]
        have := ((mem_tlF (by omega)).1 ht).1
        have : t.length ≠ 0 := fun e => this (List.eq_nil_of_length_eq_zero e)
        exact decide_eq_true (by omega)
      · refine List.pairwise_map.2 (ih.imp fun hab => ?_)
        rw [beforeF_cons]
        exact .inr ⟨rfl, hab⟩
    · intro a ha b hb
      obtain ⟨t, _, rfl⟩ := List.mem_map.1 ha
      obtain ⟨h1, h2⟩ := (mem_tlF (by omega)).1 hb
      cases b with
      | nil => exact absurd rfl h1
      | cons j b =>
        rw [beforeF_cons]
        obtain ⟨q1, _⟩ := h2
        exact .inl (by omega)
theorem lists_sorted (N : Nat) : (lists N).Pairwise fun a b => beforeF a b = true := by
  unfold lists
  rw [List.pairwise_cons]
  refine ⟨fun b hb => ?_, tlF_sorted N N (Nat.le_refl _)⟩
  have := ((mem_tlF (Nat.le_refl _)).1 hb).1
  rw [beforeF_nil_left]
  have : b.length ≠ 0 := fun e => this (List.eq_nil_of_length_eq_zero e)
  exact decide_eq_true (by omega)
/-- What is found first is the least. -/
theorem find_least {α : Type} {R : α → α → Prop} {f : α → Bool} {x : α} : {l : List α} → l.Pairwise R → l.find? f = some x → ∀ y ∈ l, f y = true → y = x ∨ R x y
  | [], _, h, _, _, _ => by cases h
  | z :: l, hp, h, y, hy, hf => by
    rw [List.pairwise_cons] at hp
    rw [List.find?_cons] at h
    cases hz : f z with
    | true =>
      rw [hz] at h
      have : z = x := by simpa using h
      subst this
      rcases List.mem_cons.1 hy with e | hy
      · exact .inl e
      · exact .inr (hp.1 y hy)
    | false =>
      rw [hz] at h
      rcases List.mem_cons.1 hy with e | hy
      · subst e; rw [hz] at hf; cases hf
      · exact find_least hp.2 h y hy hf
theorem before_asym {a b : List Int} (h : beforeF a b = true) : ¬ beforeF b a = true := fun h2 => by
  have := before_trans h h2
  rw [before_irrefl] at this
  cases this

/-! ### The least of some pairs -/
abbrev Pr : Type := List Int × List Int
def ltP (a b : Pr) : Bool := beforeF a.1 b.1 || (decide (a.1 = b.1) && beforeF a.2 b.2)
theorem ltP_trans {a b c : Pr} (h1 : ltP a b = true) (h2 : ltP b c = true) : ltP a c = true := by
  simp only [ltP, Bool.or_eq_true, Bool.and_eq_true, decide_eq_true_eq] at *
  rcases h1 with h1 | ⟨e1, h1⟩
  · rcases h2 with h2 | ⟨e2, h2⟩
    · exact .inl (before_trans h1 h2)
    · exact .inl (e2 ▸ h1)
  · rcases h2 with h2 | ⟨e2, h2⟩
    · exact .inl (e1 ▸ h2)
    · exact .inr ⟨e1.trans e2, before_trans h1 h2⟩
theorem ltP_total {a b : Pr} (h : a ≠ b) : ltP a b = true ∨ ltP b a = true := by
  simp only [ltP, Bool.or_eq_true, Bool.and_eq_true, decide_eq_true_eq]
  by_cases h1 : a.1 = b.1
  · have h2 : a.2 ≠ b.2 := fun e => h (Prod.ext h1 e)
    rcases before_total h2 with h3 | h3
    · exact .inl (.inr ⟨h1, h3⟩)
    · exact .inr (.inr ⟨h1.symm, h3⟩)
  · rcases before_total h1 with h3 | h3
    · exact .inl (.inl h3)
    · exact .inr (.inl h3)
def stepP (st : Pr) (pr : Pr) : Pr := bif beforeF pr.1 pr.2 && (decide (st.1.length = 0) || ltP pr st) then pr else st
/-- The least of the pairs seen; none, if its first part is empty. -/
def Best (S : Pr → Prop) (st : Pr) : Prop := (st = ([], []) ∧ ∀ pr, ¬ S pr) ∨ (st.1 ≠ [] ∧ S st ∧ ∀ pr, S pr → ¬ ltP pr st = true)
theorem Best.step {S : Pr → Prop} {st pr : Pr} (h : Best S st) (hne : pr.1 ≠ []) : Best (fun x => S x ∨ (x = pr ∧ beforeF x.1 x.2 = true)) (stepP st pr) := by
  unfold stepP
  cases hb : beforeF pr.1 pr.2 with
  | false =>
    simp only [Bool.false_and, cond_false]
    rcases h with ⟨h1, h2⟩ | ⟨h1, h2, h3⟩
    · exact .inl ⟨h1, fun x hx => hx.elim (h2 x) fun ⟨e, h⟩ => by subst e; rw [hb] at h; cases h⟩
    · exact .inr ⟨h1, .inl h2, fun x hx => hx.elim (h3 x) fun ⟨e, h⟩ => by subst e; rw [hb] at h; cases h⟩
  | true =>
    simp only [Bool.true_and]
    rcases h with ⟨h1, h2⟩ | ⟨h1, h2, h3⟩
    · subst h1
      simp only [List.length_nil, decide_true, Bool.true_or, cond_true]
      refine .inr ⟨hne, .inr ⟨rfl, hb⟩, fun x hx => ?_⟩
      rcases hx with hx | ⟨e, _⟩
      · exact absurd hx (h2 x)
      · subst e
        simp [ltP, before_irrefl]
    · have hl : decide (st.1.length = 0) = false := decide_eq_false fun e => h1 (List.eq_nil_of_length_eq_zero e)
      rw [hl]
      simp only [Bool.false_or]
      cases hc : ltP pr st with
      | true =>
        simp only [cond_true]
        refine .inr ⟨hne, .inr ⟨rfl, hb⟩, fun x hx => ?_⟩
        rcases hx with hx | ⟨e, _⟩
        · exact fun hlt => h3 x hx (ltP_trans hlt hc)
        · subst e
          simp [ltP, before_irrefl]
      | false =>
        simp only [cond_false]
        refine .inr ⟨h1, .inl h2, fun x hx => ?_⟩
        rcases hx with hx | ⟨e, _⟩
        · exact h3 x hx
        · subst e; rw [hc]; simp
theorem Best.congr {S T : Pr → Prop} {st : Pr} (h : Best S st) (e : ∀ x, S x ↔ T x) : Best T st := by
  have : S = T := funext fun x => propext (e x)
  exact this ▸ h
theorem Best.unique {S : Pr → Prop} {a b : Pr} (ha : Best S a) (hb : Best S b) : a = b := by
  rcases ha with ⟨a1, a2⟩ | ⟨a1, a2, a3⟩
  · rcases hb with ⟨b1, _⟩ | ⟨_, b2, _⟩
    · rw [a1, b1]
    · exact absurd b2 (a2 b)
  · rcases hb with ⟨_, b2⟩ | ⟨b1, b2, b3⟩
    · exact absurd a2 (b2 a)
    · apply Classical.byContradiction
      intro hne
      rcases ltP_total hne with h | h
      · exact b3 a a2 h
      · exact a3 b b2 h
end Go.SX.We

/- Chapter 08: how the reference finds the first clash and the first subset, in plain words. -/
namespace Go.SX.We

/-- The numbers, from 1 on, of the sets with a sum. -/
def samesF (S : List Int) (k : Nat) (s : Int) : List Int := ((List.range k).filter fun i => decide (S.getD (i + 1) 0 = s)).map fun i : Nat => ((i + 1 : Nat) : Int)
def tabN (S : List Int) : Nat → List (Int × List Int)
  | 0 => []
  | k + 1 => insF (tabN S k) (S.getD (k + 1) 0) ((lookF (tabN S k) (S.getD (k + 1) 0)).getD [] ++ [((k + 1 : Nat) : Int)])
theorem filter_one {α : Type} (p : α → Bool) (x : α) : [x].filter p = bif p x then [x] else [] := by
  rw [List.filter_cons]; cases p x <;> rfl
theorem samesF_snoc (S : List Int) (k : Nat) (s : Int) : samesF S (k + 1) s = bif decide (S.getD (k + 1) 0 = s) then samesF S k s ++ [((k + 1 : Nat) : Int)] else samesF S k s := by
  unfold samesF
  rw [List.range_succ, List.filter_append, List.map_append]
  by_cases h : S.getD (k + 1) 0 = s
  · rw [filter_one, decide_eq_true h]; rfl
  · rw [filter_one, decide_eq_false h]; exact List.append_nil _
theorem look_tabN (S : List Int) (s : Int) : ∀ k, (lookF (tabN S k) s).getD [] = samesF S k s
  | 0 => rfl
  | k + 1 => by
    rw [tabN, lookF_insF, samesF_snoc]
    by_cases h : S.getD (k + 1) 0 = s
    · rw [if_pos h, decide_eq_true h, h, look_tabN S s k]; rfl
    · rw [if_neg h, decide_eq_false h, look_tabN S s k]; rfl
theorem mem_sames {S : List Int} {k : Nat} {s m : Int} : m ∈ samesF S k s ↔ ∃ i : Nat, i < k ∧ S.getD (i + 1) 0 = s ∧ m = ((i + 1 : Nat) : Int) := by
  unfold samesF
  simp only [List.mem_map, List.mem_filter, List.mem_range, decide_eq_true_eq]
  constructor
  · rintro ⟨i, ⟨h1, h2⟩, rfl⟩; exact ⟨i, h1, h2, rfl⟩
  · rintro ⟨i, h1, h2, rfl⟩; exact ⟨i, ⟨h1, h2⟩, rfl⟩
theorem sames_length (S : List Int) (k : Nat) (s : Int) : (samesF S k s).length ≤ k := by
  unfold samesF
  rw [List.length_map]
  exact Nat.le_trans (List.length_filter_le _ _) (by simp)
def stepN (n : Nat) (st : Pr) (m : Int) : Pr := bif decide (m.toNat &&& n = 0) then stepP st (idxF n, idxF m.toNat) else st
def accC (S : List Int) : Nat → Pr
  | 0 => ([], [])
  | k + 1 => (samesF S (S.length - 1) (S.getD (k + 1) 0)).foldl (stepN (k + 1)) (accC S k)
def refC (w : List Int) : List Int × List Int × Bool := ((accC (sumsR w) ((sumsR w).length - 1)).1, (accC (sumsR w) ((sumsR w).length - 1)).2, decide (¬ (accC (sumsR w) ((sumsR w).length - 1)).1.length = 0))

theorem fold_best {n : Nat} (hn : 0 < n) : ∀ (l : List Int) {S : Pr → Prop} {st : Pr}, Best S st →
    Best (fun x => S x ∨ ∃ m ∈ l, m.toNat &&& n = 0 ∧ x = (idxF n, idxF m.toNat) ∧ beforeF x.1 x.2 = true) (l.foldl (stepN n) st)
  | [], S, st, h => h.congr fun x => by simp
  | m :: l, S, st, h => by
    rw [List.foldl_cons]
    have h1 : Best (fun x => S x ∨ (m.toNat &&& n = 0 ∧ x = (idxF n, idxF m.toNat) ∧ beforeF x.1 x.2 = true)) (stepN n st m) := by
      unfold stepN
      by_cases hm : m.toNat &&& n = 0
      · rw [decide_eq_true hm]
        exact (h.step (idx_ne hn)).congr fun x => by simp [hm]
      · rw [decide_eq_false hm]
        exact h.congr fun x => by simp [hm]
    refine (fold_best hn l h1).congr fun x => ?_
    constructor
    · rintro ((h | h) | ⟨m', hm', h⟩)
      · exact .inl h
      · exact .inr ⟨m, by simp, h⟩
      · exact .inr ⟨m', by simp [hm'], h⟩
    · rintro (h | ⟨m', hm', h⟩)
      · exact .inl (.inl h)
      · rcases List.mem_cons.1 hm' with rfl | hm'
        · exact .inl (.inr h)
        · exact .inr ⟨m', hm', h⟩
theorem accC_best (S : List Int) : ∀ k, Best (fun x => ∃ n, 0 < n ∧ n ≤ k ∧ ∃ m, 0 < m ∧ m < S.length ∧ S.getD m 0 = S.getD n 0 ∧ m &&& n = 0 ∧ x = (idxF n, idxF m) ∧ beforeF x.1 x.2 = true) (accC S k)
  | 0 => .inl ⟨rfl, fun x ⟨n, h1, h2, _⟩ => by omega⟩
  | k + 1 => by
    refine (fold_best (Nat.succ_pos k) _ (accC_best S k)).congr fun x => ?_
    constructor
    · rintro (⟨n, h1, h2, h⟩ | ⟨m, hm, h1, h2, h3⟩)
      · exact ⟨n, h1, by omega, h⟩
      · obtain ⟨i, q1, q2, rfl⟩ := mem_sames.1 hm
        rw [Int.toNat_natCast] at h1 h2
        exact ⟨k + 1, Nat.succ_pos k, Nat.le_refl _, i + 1, Nat.succ_pos i, by omega, q2, h1, h2, h3⟩
    · rintro ⟨n, h1, h2, m, m1, m2, m3, m4, m5, m6⟩
      by_cases hn : n = k + 1
      · subst hn
        refine .inr ⟨(m : Int), mem_sames.2 ⟨m - 1, by omega, ?_, by omega⟩, ?_⟩
        · rw [show m - 1 + 1 = m by omega]; exact m3
        · rw [Int.toNat_natCast]; exact ⟨m4, m5, m6⟩
      · exact .inl ⟨n, h1, by omega, m, m1, m2, m3, m4, m5, m6⟩
/-- What the reference finds. -/
theorem refC_best {w : List Int} (hw : ∀ v ∈ w, 1 ≤ v) : Best (fun x => Cl w x.1 x.2) (accC (sumsR w) ((sumsR w).length - 1)) := by
  have hl := sumsR_length w
  have hp : 0 < 2 ^ w.length := Nat.two_pow_pos _
  refine (accC_best (sumsR w) _).congr fun x => ?_
  constructor
  · rintro ⟨n, h1, h2, m, m1, m2, m3, m4, rfl, m6⟩
    have hn : n < 2 ^ w.length := by omega
    have hm : m < 2 ^ w.length := by omega
    rw [idx_sum w hn, idx_sum w hm] at m3
    exact ⟨idx_ris hn, idx_ris hm, m3.symm, m6, fun i hi hq => idx_apart.1 m4 i hq hi⟩
  · intro h
    obtain ⟨n, hn, en⟩ := idx_of h.rx
    obtain ⟨m, hm, em⟩ := idx_of h.ry
    obtain ⟨h1, h2⟩ := h.ne hw
    have z : idxF 0 = [] := rfl
    refine ⟨n, ?_, by omega, m, ?_, by omega, ?_, idx_apart.2 ?_, ?_, h.ap⟩
    · rcases Nat.eq_zero_or_pos n with e | e
      · subst e; exact absurd en.symm h1
      · exact e
    · rcases Nat.eq_zero_or_pos m with e | e
      · subst e; exact absurd em.symm h2
      · exact e
    · rw [idx_sum w hn, idx_sum w hm, en, em, h.sum]
    · rw [en, em]; exact fun i hi hq => h.dis i hq hi
    · rw [en, em]
theorem clash_best {w x y : List Int} (hw : Wts w) (h : clashF w = (x, y, 0)) (hc : Cl w x y) : Best (fun x => Cl w x.1 x.2) (x, y) := by
  refine .inr ⟨(hc.ne hw.lo).1, hc, ?_⟩
  rintro ⟨p, q⟩ hpq hlt
  have hpq : Cl w p q := hpq
  unfold clashF at h
  rw [decide_eq_true (check_ok.2 hw)] at h
  simp only [cond_true] at h
  have hs : (subsF w).Pairwise fun a b => beforeF a.1 b.1 = true := by
    rw [subsF_eq]
    exact List.pairwise_map.2 (lists_sorted _)
  cases hf : (subsF w).find? (goodC w) with
  | none => rw [hf] at h; simp at h
  | some s =>
    rw [hf] at h
    simp only [Prod.mk.injEq, and_true] at h
    obtain ⟨rfl, hy⟩ := h
    have hsm := List.mem_of_find?_eq_some hf
    obtain ⟨s1, s2⟩ := mem_subsF.1 hsm
    obtain ⟨g1, g2⟩ := good_of hpq
    have hl := find_least hs hf _ g1 g2
    simp only [ltP, Bool.or_eq_true, Bool.and_eq_true, decide_eq_true_eq] at hlt
    rcases hl with e | hl
    · have e1 : p = s.1 := congrArg Prod.fst e
      rcases hlt with h2 | ⟨_, h2⟩
      · rw [e1, before_irrefl] at h2; cases h2
      · subst e1
        have hg := List.find?_some hf
        unfold goodC at hg
        obtain ⟨y', hy'⟩ := Option.isSome_iff_exists.1 hg
        rw [hy'] at hy
        have hy : y' = y := hy
        subst hy
        unfold mateF at hy'
        rw [withF_eq] at hy'
        have hs2 : (bySum (subsF w) s.2).Pairwise fun a b => beforeF a b = true := by
          unfold bySum
          exact List.pairwise_map.2 (hs.sublist List.filter_sublist)
        have hm : q ∈ bySum (subsF w) s.2 := mem_bySum.2 (mem_subsF.2 ⟨hpq.ry, by rw [s2]; exact hpq.sum⟩)
        rcases find_least hs2 hy' q hm (apart_iff.2 ⟨hpq.ap, hpq.dis⟩) with e | h3
        · rw [e, before_irrefl] at h2; cases h2
        · exact before_asym h2 h3
    · rcases hlt with h2 | ⟨h2, _⟩
      · exact before_asym h2 hl
      · rw [h2, before_irrefl] at hl; cases hl
theorem refC_none {w : List Int} (hw : ∀ v ∈ w, 1 ≤ v) (h : distF w = true) : refC w = ([], [], false) := by
  unfold refC
  rcases refC_best hw with ⟨e, _⟩ | ⟨_, hc, _⟩
  · rw [e]; rfl
  · have := distF_inj.1 h _ _ hc.rx hc.ry hc.sum
    have hb := hc.ap
    rw [← this, before_irrefl] at hb; cases hb
theorem refC_some {w : List Int} (hw : Wts w) (h : distF w = false) : ∃ x y, clashF w = (x, y, 0) ∧ refC w = (x, y, true) ∧ x ≠ [] := by
  obtain ⟨x, y, h1, h2⟩ := clashF_some hw h
  have h3 := Best.unique (refC_best hw.lo) (clash_best hw h1 h2)
  have hne := (h2.ne hw.lo).1
  refine ⟨x, y, h1, ?_, hne⟩
  unfold refC
  rw [h3]
  have : ¬ x.length = 0 := fun e => hne (List.eq_nil_of_length_eq_zero e)
  simp [this]
theorem refC_len {w : List Int} (hw : ∀ v ∈ w, 1 ≤ v) : ((refC w).1.length + (refC w).2.1.length = 0) ↔ distF w = true := by
  constructor
  · intro h
    cases hd : distF w with
    | true => rfl
    | false =>
      obtain ⟨x, y, hc⟩ := clash_of hd
      rcases refC_best hw with ⟨_, e⟩ | ⟨e, _⟩
      · exact absurd hc (e (x, y))
      · have : (refC w).1 = [] := List.eq_nil_of_length_eq_zero (by omega)
        exact absurd this e
  · intro h; rw [refC_none hw h]; rfl
end Go.SX.We

/- Chapter 08: how the reference finds the first subset with a sum, in plain words. -/
namespace Go.SX.We

def stepS (b x : List Int) : List Int := bif decide (b.length = 0) || beforeF x b then x else b
def bestK (S : List Int) (t : Int) : Nat → List Int
  | 0 => []
  | k + 1 => bif decide (S.getD k 0 = t) then stepS (bestK S t k) (idxF k) else bestK S t k
def manyK (S : List Int) (t : Int) : Nat → Int
  | 0 => 0
  | k + 1 => bif decide (S.getD k 0 = t) then manyK S t k + 1 else manyK S t k
def refS (w : List Int) (t : Int) : List Int × Int := (bestK (sumsR w) t (sumsR w).length, manyK (sumsR w) t (sumsR w).length)
theorem manyK_eq (S : List Int) (t : Int) : ∀ k, k ≤ S.length → manyK S t k = ((S.take k).countP fun v => decide (v = t) : Nat)
  | 0, _ => by simp [manyK]
  | k + 1, h => by
    have ih := manyK_eq S t k (by omega)
    have e : S.take (k + 1) = S.take k ++ [S.getD k 0] := by
      rw [List.take_add_one, List.getElem?_eq_getElem (show k < S.length by omega)]
      simp [List.getD, List.getElem?_eq_getElem (show k < S.length by omega)]
    rw [manyK, ih, e, List.countP_append, List.countP_singleton]
    by_cases hs : S.getD k 0 = t
    · rw [decide_eq_true hs]; simp
    · rw [decide_eq_false hs]; simp
theorem manyK_nonneg (S : List Int) (t : Int) : ∀ k, 0 ≤ manyK S t k ∧ manyK S t k ≤ (k : Int)
  | 0 => ⟨Int.le_refl _, Int.le_refl _⟩
  | k + 1 => by
    have ih := manyK_nonneg S t k
    rw [manyK]
    cases decide (S.getD k 0 = t)
    · simp only [cond_false]; omega
    · simp only [cond_true]; omega
theorem bestK_spec {S : List Int} {t : Int} {K : Nat} (h : ∀ k, k < K → S.getD k 0 = t → idxF k ≠ []) : ∀ k, k ≤ K →
    (bestK S t k = [] ∧ ∀ i, i < k → ¬ S.getD i 0 = t) ∨ (bestK S t k ≠ [] ∧ (∃ i, i < k ∧ S.getD i 0 = t ∧ idxF i = bestK S t k) ∧ ∀ i, i < k → S.getD i 0 = t → ¬ beforeF (idxF i) (bestK S t k) = true)
  | 0, _ => .inl ⟨rfl, fun i hi => by omega⟩
  | k + 1, hk => by
    have ih := bestK_spec h k (by omega)
    rw [bestK]
    by_cases hs : S.getD k 0 = t
    · rw [decide_eq_true hs]
      simp only [cond_true]
      have hne := h k (by omega) hs
      unfold stepS
      rcases ih with ⟨e, h1⟩ | ⟨e, ⟨i, hi, h1, h2⟩, h3⟩
      · rw [e]
        simp only [List.length_nil, decide_true, Bool.true_or, cond_true]
        refine .inr ⟨hne, ⟨k, by omega, hs, rfl⟩, fun i hi hsi => ?_⟩
        by_cases hik : i = k
        · subst hik; rw [before_irrefl]; simp
        · exact absurd hsi (h1 i (by omega))
      · have hl : decide ((bestK S t k).length = 0) = false := decide_eq_false fun q => e (List.eq_nil_of_length_eq_zero q)
        rw [hl, Bool.false_or]
        cases hb : beforeF (idxF k) (bestK S t k) with
        | true =>
          simp only [cond_true]
          refine .inr ⟨hne, ⟨k, by omega, hs, rfl⟩, fun i hi hsi hlt => ?_⟩
          by_cases hik : i = k
          · subst hik; rw [before_irrefl] at hlt; cases hlt
          · exact h3 i (by omega) hsi (before_trans hlt hb)
        | false =>
          simp only [cond_false]
          refine .inr ⟨e, ⟨i, by omega, h1, h2⟩, fun j hj hsj => ?_⟩
          by_cases hjk : j = k
          · subst hjk; rw [hb]; simp
          · exact h3 j (by omega) hsj
    · rw [decide_eq_false hs]
      simp only [cond_false]
      rcases ih with ⟨e, h1⟩ | ⟨e, ⟨i, hi, h1, h2⟩, h3⟩
      · refine .inl ⟨e, fun i hi => ?_⟩
        by_cases hik : i = k
        · subst hik; exact hs
        · exact h1 i (by omega)
      · refine .inr ⟨e, ⟨i, by omega, h1, h2⟩, fun j hj hsj => ?_⟩
        by_cases hjk : j = k
        · subst hjk; exact absurd hsj hs
        · exact h3 j (by omega) hsj
theorem sum_idx_pos {w : List Int} (hw : ∀ v ∈ w, 1 ≤ v) {k : Nat} (h : k < 2 ^ w.length) : (sumsR w).getD k 0 = 0 ↔ k = 0 := by
  rw [idx_sum w h]
  constructor
  · intro e
    have h1 := sumAt_pos hw (idx_ris h)
    rcases Nat.eq_zero_or_pos k with hk | hk
    · exact hk
    · have := h1.2 (idx_ne hk); omega
  · rintro rfl; rfl
theorem refS_many (w : List Int) (t : Int) : (refS w t).2 = countF t (subsF w) := by
  show manyK (sumsR w) t (sumsR w).length = _
  rw [manyK_eq _ _ _ (Nat.le_refl _), List.take_length, countF_lists, sumsR_eq, List.countP_map]
  rw [(sets_perm w.length).countP_eq]
  rfl
theorem best_zero {w : List Int} (hw : ∀ v ∈ w, 1 ≤ v) : ∀ k, k ≤ (sumsR w).length → bestK (sumsR w) 0 k = []
  | 0, _ => rfl
  | k + 1, h => by
    have ih := best_zero hw k (by omega)
    have hl := sumsR_length w
    rw [bestK, ih]
    by_cases hk : k = 0
    · subst hk
      cases decide ((sumsR w).getD 0 0 = 0) <;> rfl
    · rw [decide_eq_false (fun e => hk ((sum_idx_pos hw (by omega)).1 e))]; rfl
theorem subs_sorted (w : List Int) : (subsF w).Pairwise fun a b => beforeF a.1 b.1 = true := by
  rw [subsF_eq]
  exact List.pairwise_map.2 (lists_sorted _)
/-- What both find. -/
theorem subset_eq {w : List Int} {t : Int} (hw : Wts w) (ht : 0 ≤ t) : (subsetF w t = ((refS w t).1, 0) ∧ (refS w t).2 ≠ 0) ∨ (subsetF w t = ([], 5) ∧ (refS w t).2 = 0) := by
  have hl := sumsR_length w
  have hf : subsetF w t = (match (subsF w).find? (hasSum t) with | none => ([], 5) | some x => (x.1, 0)) := by
    unfold subsetF
    rw [decide_eq_true (total_ok.2 ⟨hw, ht⟩)]; rfl
  rw [hf, refS_many]
  cases hx : (subsF w).find? (hasSum t) with
  | none =>
    refine .inr ⟨rfl, ?_⟩
    unfold countF
    rw [List.filter_eq_nil_iff.2 (List.find?_eq_none.1 hx)]; rfl
  | some x =>
    have hm := List.mem_of_find?_eq_some hx
    have hs := List.find?_some hx
    have hs' : x.2 = t := of_decide_eq_true hs
    obtain ⟨m1, m2⟩ := mem_subsF.1 hm
    refine .inl ⟨?_, ?_⟩
    · show (x.1, (0 : Int)) = (bestK (sumsR w) t (sumsR w).length, 0)
      congr 1
      by_cases h0 : t = 0
      · subst h0
        rw [best_zero hw.lo _ (Nat.le_refl _)]
        have h1 := (sumAt_pos hw.lo m1).2
        apply Classical.byContradiction
        intro hne
        have := h1 hne
        omega
      · obtain ⟨n, hn, en⟩ := idx_of m1
        have hne : ∀ k, k < (sumsR w).length → (sumsR w).getD k 0 = t → idxF k ≠ [] := fun k hk e => by
          apply idx_ne
          rcases Nat.eq_zero_or_pos k with hz | hz
          · subst hz
            have := (sum_idx_pos hw.lo (show 0 < 2 ^ w.length from Nat.two_pow_pos _)).2 rfl
            omega
          · exact hz
        have hsn : (sumsR w).getD n 0 = t := by rw [idx_sum w hn, en, ← m2, hs']
        rcases bestK_spec hne _ (Nat.le_refl _) with ⟨_, h1⟩ | ⟨_, ⟨i, hi, h1, h2⟩, h3⟩
        · exact absurd hsn (h1 n (by omega))
        · have hi' : i < 2 ^ w.length := by omega
          have h4 := h3 n (by omega) hsn
          rw [en] at h4
          have hmi : (idxF i, t) ∈ subsF w := mem_subsF.2 ⟨idx_ris hi', by rw [← idx_sum w hi', h1]⟩
          rcases find_least (subs_sorted w) hx _ hmi (decide_eq_true rfl) with e | h5
          · rw [← h2, ← e]
          · rw [h2] at h5
            exact absurd h5 h4
    · have : 0 < ((subsF w).filter (hasSum t)).length := List.length_pos_of_mem (List.mem_filter.2 ⟨hm, hs⟩)
      unfold countF
      omega
end Go.SX.We

/- Chapter 08: bits and sums, in plain words. -/
namespace Go.SX.We
open Go

theorem and64 {a b : Nat} (ha : a < 4611686018427387904) : bitsF .and .i64 (a : Int) (b : Int) = ((a &&& (b % 18446744073709551616) : Nat) : Int) := by
  have h1 : bitsF .and .i64 (a : Int) (b : Int) = IntKind.i64.wrap ((BitVec.ofInt 64 (a : Int) &&& BitVec.ofInt 64 (b : Int)).toNat : Nat) := rfl
  rw [h1, BitVec.toNat_and, BitVec.ofInt_natCast, BitVec.ofInt_natCast, BitVec.toNat_ofNat, BitVec.toNat_ofNat, Nat.mod_eq_of_lt (show a < 2 ^ 64 by omega)]
  have h2 : a &&& (b % 2 ^ 64) ≤ a := Nat.and_le_left
  rw [IntKind.wrap_i64]
  have e : (2 : Nat) ^ 64 = 18446744073709551616 := by decide
  rw [e] at h2 ⊢
  omega
theorem and64' {a b : Nat} (ha : a < 4096) (hb : b < 4096) : bitsF .and .i64 (a : Int) (b : Int) = ((a &&& b : Nat) : Int) := by
  rw [and64 (by omega), Nat.mod_eq_of_lt (by omega)]
theorem bit_and {m k : Nat} (h : m < 4096) : bitsF .and .i64 ((m : Int) / 2 ^ k) 1 = 1 ↔ m.testBit k = true := by
  have e1 : (m : Int) / 2 ^ k = ((m / 2 ^ k : Nat) : Int) := by push_cast; rfl
  have h2 : m / 2 ^ k ≤ m := Nat.div_le_self _ _
  have := and64' (a := m / 2 ^ k) (b := 1) (by omega) (by omega)
  rw [e1]
  have this : bitsF .and .i64 ((m / 2 ^ k : Nat) : Int) 1 = ((m / 2 ^ k &&& 1 : Nat) : Int) := this
  rw [this, Nat.and_one_is_mod, Nat.testBit_eq_decide_div_mod_eq, decide_eq_true_eq]
  omega
theorem ssR_bound {B : Int} : ∀ (r a : List Int) (c : Int), (∀ s ∈ a, -c ≤ s ∧ s ≤ c) → (∀ v ∈ r, -B ≤ v ∧ v ≤ B) → ∀ s ∈ ssR a r, -(c + B * (r.length : Int)) ≤ s ∧ s ≤ c + B * (r.length : Int)
  | [], a, c, ha, _, s, hs => by
    have := ha s hs
    simp; omega
  | v :: r, a, c, ha, hr, s, hs => by
    have hv := hr v (by simp)
    have := ssR_bound r (a ++ a.map (· + v)) (c + B) (fun s hs => by
      rcases List.mem_append.1 hs with h | h
      · have := ha s h; omega
      · obtain ⟨u, hu, rfl⟩ := List.mem_map.1 h
        have := ha u hu; omega) (fun u hu => hr u (List.mem_cons_of_mem _ hu)) s hs
    have e : c + B * ((v :: r).length : Int) = c + B + B * (r.length : Int) := by
      rw [List.length_cons]; push_cast; rw [Int.mul_add]; omega
    rw [e]; exact this
theorem sums_bound {l : List Int} (h : ∀ v ∈ l, -1000000 ≤ v ∧ v ≤ 1000000) (hl : l.length ≤ 12) : ∀ s ∈ sumsR l, -12000000 ≤ s ∧ s ≤ 12000000 := fun s hs => by
  have := ssR_bound (B := 1000000) l [0] 0 (fun s hs => by have : s = 0 := List.mem_singleton.1 hs; subst this; exact ⟨by decide, by decide⟩) h s hs
  omega
theorem sums_len {l : List Int} (hl : l.length ≤ 12) : 1 ≤ (sumsR l).length ∧ (sumsR l).length ≤ 4096 := by
  rw [sumsR_length]
  exact ⟨Nat.two_pow_pos _, (Nat.pow_le_pow_right (by decide) hl : 2 ^ l.length ≤ 2 ^ 12)⟩
end Go.SX.We
