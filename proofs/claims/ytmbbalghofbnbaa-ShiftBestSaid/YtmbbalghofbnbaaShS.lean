/- Stable sorting in plain words: segments of a list of indices, sorted by a key. -/
import Derived.Test.YtmbbalghofbnbaaShE
namespace Go.SX.Sh
open List

def kf (sp : List Sp) (i : Int) : Int := (sp.getD i.toNat (0, 0)).1
/-- By key, and by index where keys are equal. -/
def leB (sp : List Sp) (a b : Int) : Bool := decide (kf sp a < kf sp b) || (decide (kf sp a = kf sp b) && decide (a ≤ b))
theorem leB_iff {sp : List Sp} {a b : Int} : leB sp a b = true ↔ kf sp a < kf sp b ∨ (kf sp a = kf sp b ∧ a ≤ b) := by unfold leB; simp
theorem leB_total (sp : List Sp) (a b : Int) : (leB sp a b || leB sp b a) = true := by
  rw [Bool.or_eq_true, leB_iff, leB_iff]; omega
theorem leB_trans {sp : List Sp} {a b c : Int} (h1 : leB sp a b = true) (h2 : leB sp b c = true) : leB sp a c = true := by
  rw [leB_iff] at *; omega
theorem leB_antisymm {sp : List Sp} {a b : Int} (h1 : leB sp a b = true) (h2 : leB sp b a = true) : a = b := by
  rw [leB_iff] at *; omega
theorem leB_refl (sp : List Sp) (a : Int) : leB sp a a = true := by rw [leB_iff]; omega

def seg (xs : List Int) (a b : Nat) : List Int := (xs.drop a).take (b - a)
def sortSeg (sp : List Sp) (xs : List Int) (a b : Nat) : List Int := xs.take a ++ ((seg xs a b).mergeSort (leB sp) ++ xs.drop b)

def SortedOn (sp : List Sp) (ys : List Int) (a b : Nat) : Prop := ∀ p q, a ≤ p → p < q → q < b → leB sp (ys.getD p 0) (ys.getD q 0) = true
/-- Where keys are equal, the indices rise. -/
def Stab (sp : List Sp) (ys : List Int) (a b : Nat) : Prop := ∀ p q, a ≤ p → p < q → q < b → kf sp (ys.getD p 0) = kf sp (ys.getD q 0) → ys.getD p 0 < ys.getD q 0
structure SegOK (xs ys : List Int) (a b : Nat) : Prop where
  len : ys.length = xs.length
  perm : ys ~ xs
  out : ∀ p, p < a ∨ b ≤ p → ys.getD p 0 = xs.getD p 0

theorem ext_getD {xs ys : List Int} (hl : xs.length = ys.length) (h : ∀ p, p < xs.length → xs.getD p 0 = ys.getD p 0) : xs = ys := by
  apply List.ext_getElem hl
  intro p h1 h2
  have := h p h1
  rw [List.getD_eq_getElem?_getD, List.getD_eq_getElem?_getD, List.getElem?_eq_getElem h1, List.getElem?_eq_getElem h2] at this
  exact this
theorem seg_len (xs : List Int) (a b : Nat) (hb : b ≤ xs.length) : (seg xs a b).length = b - a := by unfold seg; simp; omega
theorem seg_getD (xs : List Int) (a b k : Nat) (hk : k < b - a) : (seg xs a b).getD k 0 = xs.getD (a + k) 0 := by
  unfold seg
  simp [List.getD, List.getElem?_take, List.getElem?_drop, hk]
theorem split_seg (xs : List Int) (a b : Nat) (hab : a ≤ b) : xs = xs.take a ++ (seg xs a b ++ xs.drop b) := by
  unfold seg
  have e : xs.drop b = (xs.drop a).drop (b - a) := by rw [List.drop_drop]; congr 1; omega
  rw [e, List.take_append_drop, List.take_append_drop]
theorem take_eq {xs ys : List Int} {a : Nat} (hl : ys.length = xs.length) (h : ∀ p, p < a → ys.getD p 0 = xs.getD p 0) : ys.take a = xs.take a := by
  refine ext_getD (by simp [hl]) fun p hp => ?_
  have : p < a := by simp at hp; omega
  rw [getD_take this, getD_take this]
  exact h p this
theorem drop_eq {xs ys : List Int} {b : Nat} (hl : ys.length = xs.length) (h : ∀ p, b ≤ p → ys.getD p 0 = xs.getD p 0) : ys.drop b = xs.drop b := by
  refine ext_getD (by simp [hl]) fun p hp => ?_
  have := h (b + p) (by omega)
  simpa [List.getD, List.getElem?_drop] using this
theorem SegOK.seg {xs ys : List Int} {a b : Nat} (h : SegOK xs ys a b) (hab : a ≤ b) : seg ys a b ~ seg xs a b := by
  have h1 := h.perm
  rw [split_seg ys a b hab, split_seg xs a b hab, take_eq h.len (fun p hp => h.out p (.inl hp)), drop_eq h.len (fun p hp => h.out p (.inr hp))] at h1
  exact (List.perm_append_right_iff _).1 ((List.perm_append_left_iff _).1 h1)
/-- What stands within comes from within. -/
theorem SegOK.within {xs ys : List Int} {a b : Nat} (h : SegOK xs ys a b) (hab : a ≤ b) (hb : b ≤ xs.length) {q : Nat} (h1 : a ≤ q) (h2 : q < b) : ∃ r, a ≤ r ∧ r < b ∧ ys.getD q 0 = xs.getD r 0 := by
  have hm : ys.getD q 0 ∈ Sh.seg ys a b := by
    have := seg_getD ys a b (q - a) (by omega)
    rw [show a + (q - a) = q by omega] at this
    rw [← this]
    exact getD_in (by rw [seg_len _ _ _ (by rw [h.len]; exact hb)]; omega)
  rw [(h.seg hab).mem_iff] at hm
  obtain ⟨k, hk, e⟩ := getD_lt hm
  rw [seg_len _ _ _ hb] at hk
  rw [seg_getD _ _ _ _ hk] at e
  exact ⟨a + k, by omega, by omega, e.symm⟩
theorem SegOK.refl (xs : List Int) (a b : Nat) : SegOK xs xs a b := ⟨rfl, List.Perm.refl _, fun _ _ => rfl⟩
theorem SegOK.trans {xs ys zs : List Int} {a b : Nat} (h : SegOK xs ys a b) (k : SegOK ys zs a b) : SegOK xs zs a b := ⟨k.len.trans h.len, k.perm.trans h.perm, fun p hp => (k.out p hp).trans (h.out p hp)⟩
theorem SegOK.wide {xs ys : List Int} {a b a' b' : Nat} (h : SegOK xs ys a b) (h1 : a' ≤ a) (h2 : b ≤ b') : SegOK xs ys a' b' := ⟨h.len, h.perm, fun p hp => h.out p (by omega)⟩

theorem pairwise_getD {R : Int → Int → Prop} {l : List Int} (h : l.Pairwise R) {p q : Nat} (hpq : p < q) (hq : q < l.length) : R (l.getD p 0) (l.getD q 0) := by
  have := List.pairwise_iff_getElem.1 h p q (by omega) hq hpq
  rw [List.getD_eq_getElem?_getD, List.getD_eq_getElem?_getD, List.getElem?_eq_getElem hq, List.getElem?_eq_getElem (by omega)]
  exact this
theorem pairwise_of {R : Int → Int → Prop} {l : List Int} (h : ∀ p q, p < q → q < l.length → R (l.getD p 0) (l.getD q 0)) : l.Pairwise R := by
  rw [List.pairwise_iff_getElem]
  intro p q hp hq hpq
  have := h p q hpq hq
  rwa [List.getD_eq_getElem?_getD, List.getD_eq_getElem?_getD, List.getElem?_eq_getElem hq, List.getElem?_eq_getElem hp] at this

theorem sorted_unique {sp : List Sp} {l m : List Int} (h1 : l.Pairwise fun a b => leB sp a b = true) (h2 : m.Pairwise fun a b => leB sp a b = true) (hp : l ~ m) : l = m :=
  List.Perm.eq_of_pairwise (fun _ _ _ _ => leB_antisymm) h1 h2 hp
theorem merge_sorted (sp : List Sp) (l : List Int) : (l.mergeSort (leB sp)).Pairwise fun a b => leB sp a b = true := List.pairwise_mergeSort (le := leB sp) (fun _ _ _ => leB_trans) (leB_total sp) l

theorem seg_unique {sp : List Sp} {xs ys : List Int} {a b : Nat} (hab : a ≤ b) (hb : b ≤ xs.length) (h : SegOK xs ys a b) (hs : SortedOn sp ys a b) : ys = sortSeg sp xs a b := by
  have hby : b ≤ ys.length := by rw [h.len]; exact hb
  unfold sortSeg
  rw [← take_eq h.len (fun p hp => h.out p (.inl hp)), ← drop_eq h.len (fun p hp => h.out p (.inr hp))]
  have e : seg ys a b = (seg xs a b).mergeSort (leB sp) := by
    refine sorted_unique (sp := sp) (pairwise_of fun p q hpq hq => ?_) (merge_sorted sp _) ((h.seg hab).trans (List.mergeSort_perm _ _).symm)
    rw [seg_len _ _ _ hby] at hq
    rw [seg_getD _ _ _ _ (by omega), seg_getD _ _ _ _ hq]
    exact hs _ _ (by omega) (by omega) (by omega)
  rw [← e]
  exact split_seg ys a b hab
theorem sortSeg_ok (sp : List Sp) {xs : List Int} {a b : Nat} (hab : a ≤ b) (hb : b ≤ xs.length) : SegOK xs (sortSeg sp xs a b) a b ∧ SortedOn sp (sortSeg sp xs a b) a b := by
  have hl : ((seg xs a b).mergeSort (leB sp)).length = b - a := by rw [(List.mergeSort_perm _ _).length_eq, seg_len _ _ _ hb]
  have hlen : (sortSeg sp xs a b).length = xs.length := by unfold sortSeg; rw [List.length_append, List.length_append, hl]; simp; omega
  have hta : (xs.take a).length = a := by simp; omega
  have hmid : ∀ k, k < b - a → (sortSeg sp xs a b).getD (a + k) 0 = ((seg xs a b).mergeSort (leB sp)).getD k 0 := fun k hk => by
    unfold sortSeg
    rw [List.getD_eq_getElem?_getD, List.getElem?_append_right (by omega), hta, List.getElem?_append_left (by omega), show a + k - a = k by omega, ← List.getD_eq_getElem?_getD]
  refine ⟨⟨hlen, ?_, fun p hp => ?_⟩, fun p q h1 h2 h3 => ?_⟩
  · have : sortSeg sp xs a b ~ xs.take a ++ (seg xs a b ++ xs.drop b) := by
      unfold sortSeg
      exact (((List.mergeSort_perm (seg xs a b) (leB sp)).append_right _).append_left _)
    rwa [← split_seg xs a b hab] at this
  · unfold sortSeg
    rcases hp with hp | hp
    · rw [List.getD_eq_getElem?_getD, List.getElem?_append_left (by omega), ← List.getD_eq_getElem?_getD, getD_take hp]
    · rw [List.getD_eq_getElem?_getD, List.getElem?_append_right (by omega), hta, List.getElem?_append_right (by omega), hl, List.getElem?_drop, show b + (p - a - (b - a)) = p by omega, ← List.getD_eq_getElem?_getD]
  · have e1 := hmid (p - a) (by omega)
    have e2 := hmid (q - a) (by omega)
    rw [show a + (p - a) = p by omega] at e1
    rw [show a + (q - a) = q by omega] at e2
    rw [e1, e2]
    exact pairwise_getD (merge_sorted sp _) (by omega) (by omega)
theorem sortSeg_len (sp : List Sp) {xs : List Int} {a b : Nat} (hab : a ≤ b) (hb : b ≤ xs.length) : (sortSeg sp xs a b).length = xs.length := (sortSeg_ok sp hab hb).1.len
theorem sortSeg_id {sp : List Sp} {xs : List Int} {a b : Nat} (hab : a ≤ b) (hb : b ≤ xs.length) (h : SortedOn sp xs a b) : sortSeg sp xs a b = xs := (seg_unique hab hb (SegOK.refl xs a b) h).symm

theorem stab_sortSeg {sp : List Sp} {xs : List Int} {a b lo hi : Nat} (hab : a ≤ b) (hb : b ≤ xs.length) (hlo : lo ≤ a) (hhi : b ≤ hi) (h : Stab sp xs lo hi) : Stab sp (sortSeg sp xs a b) lo hi := by
  obtain ⟨h1, h2⟩ := sortSeg_ok sp hab hb
  -- where an element comes from
  have src : ∀ p, ∃ r, (sortSeg sp xs a b).getD p 0 = xs.getD r 0 ∧ ((p < a ∨ b ≤ p) → r = p) ∧ (a ≤ p → p < b → a ≤ r ∧ r < b) := fun p => by
    by_cases hp : a ≤ p ∧ p < b
    · obtain ⟨r, r1, r2, r3⟩ := h1.within hab hb hp.1 hp.2
      exact ⟨r, r3, fun h => by omega, fun _ _ => ⟨r1, r2⟩⟩
    · exact ⟨p, h1.out p (by omega), fun _ => rfl, fun _ _ => by omega⟩
  intro p q hp hpq hq hk
  obtain ⟨r, e1, f1, g1⟩ := src p
  obtain ⟨s, e2, f2, g2⟩ := src q
  by_cases hin : (a ≤ p ∧ p < b) ∧ (a ≤ q ∧ q < b)
  · have hle := h2 p q hin.1.1 hpq hin.2.2
    rw [leB_iff] at hle
    have hne : (Sh.sortSeg sp xs a b).getD p 0 ≠ (Sh.sortSeg sp xs a b).getD q 0 := fun e => by
      rw [e1, e2] at e
      have g1 := g1 hin.1.1 hin.1.2
      have g2 := g2 hin.2.1 hin.2.2
      -- equal elements of xs at two places would rise
      rcases Nat.lt_trichotomy r s with h3 | h3 | h3
      · have := h r s (by omega) h3 (by omega) (by rw [e]); omega
      · subst h3
        -- the same element twice: the segments' counts
        have hnd : (seg xs a b).Nodup := by
          refine pairwise_of fun u v huv hv => ?_
          rw [seg_len _ _ _ hb] at hv
          rw [seg_getD _ _ _ _ (by omega), seg_getD _ _ _ _ hv]
          intro he
          have := h (a + u) (a + v) (by omega) (by omega) (by omega) (by rw [he])
          omega
        have hnd2 : (seg (Sh.sortSeg sp xs a b) a b).Nodup := (h1.seg hab).symm.nodup hnd
        have hl2 : (seg (Sh.sortSeg sp xs a b) a b).length = b - a := seg_len _ _ _ (by rw [h1.len]; exact hb)
        have := pairwise_getD hnd2 (p := p - a) (q := q - a) (by omega) (by omega)
        rw [seg_getD _ _ _ _ (by omega), seg_getD _ _ _ _ (by omega), show a + (p - a) = p by omega, show a + (q - a) = q by omega, e1, e2] at this
        exact this rfl
      · have := h s r (by omega) h3 (by omega) (by rw [e]); omega
    omega
  · have hrs : r < s := by
      by_cases hp1 : a ≤ p ∧ p < b
      · have := g1 hp1.1 hp1.2
        have := f2 (by omega)
        omega
      · have := f1 (by omega)
        by_cases hq1 : a ≤ q ∧ q < b
        · have := g2 hq1.1 hq1.2
          omega
        · have := f2 (by omega)
          omega
    have hr : lo ≤ r ∧ s < hi := by
      have a1 : lo ≤ r := by
        by_cases hp1 : a ≤ p ∧ p < b
        · have := g1 hp1.1 hp1.2; omega
        · have := f1 (by omega); omega
      have a2 : s < hi := by
        by_cases hq1 : a ≤ q ∧ q < b
        · have := g2 hq1.1 hq1.2; omega
        · have := f2 (by omega); omega
      exact ⟨a1, a2⟩
    rw [e1, e2] at hk ⊢
    exact h r s hr.1 hrs hr.2 hk

/-! ### Swaps -/

def swp (ys : List Int) (i j : Nat) : List Int := (ys.set i (ys.getD j 0)).set j (ys.getD i 0)
theorem swp_len (ys : List Int) (i j : Nat) : (swp ys i j).length = ys.length := by unfold swp; simp
theorem set_getD (ys : List Int) (i p : Nat) (x : Int) (hi : i < ys.length) : (ys.set i x).getD p 0 = if p = i then x else ys.getD p 0 := by
  rw [List.getD_eq_getElem?_getD, List.getElem?_set]
  by_cases h : i = p
  · subst h; simp [hi]
  · rw [if_neg h, if_neg (fun e => h e.symm), ← List.getD_eq_getElem?_getD]
theorem swp_getD (ys : List Int) {i j : Nat} (hi : i < ys.length) (hj : j < ys.length) (p : Nat) : (swp ys i j).getD p 0 = if p = j then ys.getD i 0 else if p = i then ys.getD j 0 else ys.getD p 0 := by
  unfold swp
  rw [set_getD _ _ _ _ (by simpa using hj), set_getD _ _ _ _ hi]
theorem swp_perm (ys : List Int) {i j : Nat} (hi : i < ys.length) (hj : j < ys.length) : swp ys i j ~ ys := by
  have := List.set_set_perm hi hj
  unfold swp
  rw [List.getD_eq_getElem?_getD, List.getD_eq_getElem?_getD, List.getElem?_eq_getElem hi, List.getElem?_eq_getElem hj]
  exact this
theorem swp_seg (ys : List Int) {i j a b : Nat} (hi : i < ys.length) (hj : j < ys.length) (h1 : a ≤ i ∧ i < b) (h2 : a ≤ j ∧ j < b) : SegOK ys (swp ys i j) a b :=
  ⟨swp_len _ _ _, swp_perm _ hi hj, fun p hp => by rw [swp_getD ys hi hj, if_neg (by omega), if_neg (by omega)]⟩

def swapR (xs : List Int) (a b : Nat) : Nat → List Int
  | 0 => xs
  | k + 1 => swp (swapR xs a b k) (a + k) (b + k)
theorem swapR_len (xs : List Int) (a b k : Nat) : (swapR xs a b k).length = xs.length := by
  induction k with
  | zero => rfl
  | succ k ih => rw [swapR, swp_len, ih]
theorem swapR_getD (xs : List Int) (a b n : Nat) (h1 : a + n ≤ b) (h2 : b + n ≤ xs.length) : ∀ p,
    (swapR xs a b n).getD p 0 = if a ≤ p ∧ p < a + n then xs.getD (p - a + b) 0 else if b ≤ p ∧ p < b + n then xs.getD (p - b + a) 0 else xs.getD p 0 := by
  induction n with
  | zero => intro p; rw [if_neg (by omega), if_neg (by omega)]; rfl
  | succ n ih =>
    intro p
    have ih' := ih (by omega) (by omega)
    rw [swapR, swp_getD _ (by rw [swapR_len]; omega) (by rw [swapR_len]; omega)]
    rw [ih', ih', ih']
    by_cases e1 : p = b + n
    · subst e1
      rw [if_pos rfl, if_neg (by omega), if_neg (by omega), if_neg (by omega), if_pos (by omega)]
      congr 1; omega
    · rw [if_neg e1]
      by_cases e2 : p = a + n
      · subst e2
        rw [if_pos rfl, if_neg (by omega), if_neg (by omega), if_pos (by omega)]
        congr 1; omega
      · rw [if_neg e2]
        by_cases c1 : a ≤ p ∧ p < a + n
        · rw [if_pos c1, if_pos (by omega)]
        · rw [if_neg c1]
          by_cases c2 : b ≤ p ∧ p < b + n
          · rw [if_pos c2, if_neg (by omega), if_pos (by omega)]
          · rw [if_neg c2, if_neg (by omega), if_neg (by omega)]
end Go.SX.Sh
