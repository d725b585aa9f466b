/- Chapter 03 in plain words: First Fit in the order of From (C1, C2). -/
import Derived.Test.YtmbbalghofbnbaaShT
namespace Go.SX.Sh
open List

def ordF (l : List Sp) : List Int := sortSeg l (belowF l.length) 0 l.length
def srtF (l : List Sp) (o : List Int) : List Sp := o.map fun i => l.getD i.toNat (0, 0)
def scatTo (o f : List Int) (n : Nat) : Nat → List Int
  | 0 => List.replicate n 0
  | k + 1 => (scatTo o f n k).set (o.getD k 0).toNat (f.getD k 0)
def bestF (l : List Sp) : List Int := scatTo (ordF l) (firstF (srtF l (ordF l))) l.length l.length
def rowR (l : List Sp) (f : Int) (j : Nat) : List Int := ((List.range j).filter fun i => decide ((at_ l i).1 = f)).map Int.ofNat
def ordR (l : List Sp) : Nat → List Int
  | 0 => []
  | f + 1 => ordR l f ++ rowR l f l.length
def bestR (l : List Sp) : List Int := scatTo (ordR l 1000) (firstF (srtF l (ordR l 1000))) l.length (ordR l 1000).length

theorem below_len (n : Nat) : (belowF (n : Int)).length = n := by simp [belowF]
theorem below_mem {n : Nat} {x : Int} : x ∈ belowF (n : Int) ↔ ∃ i : Nat, i < n ∧ x = i := by
  unfold belowF
  rw [Int.toNat_natCast, List.mem_map]
  constructor
  · rintro ⟨i, h, e⟩; exact ⟨i, List.mem_range.1 h, e.symm⟩
  · rintro ⟨i, h, e⟩; exact ⟨i, List.mem_range.2 h, e.symm⟩
theorem below_nodup (n : Nat) : (belowF (n : Int)).Nodup := by
  unfold belowF List.Nodup
  rw [List.pairwise_map]
  exact List.Pairwise.imp (fun {a b} (h : a < b) e => by have : a = b := Int.ofNat_inj.1 e; omega) List.pairwise_lt_range
theorem below_get {n k : Nat} (h : k < n) : (belowF (n : Int)).getD k 0 = k := by
  unfold belowF
  rw [Int.toNat_natCast, List.getD_eq_getElem?_getD, List.getElem?_map, List.getElem?_range h]; rfl
theorem below_stab (sp : List Sp) (n : Nat) : Stab sp (belowF (n : Int)) 0 n := fun p q _ hpq hq _ => by rw [below_get (by omega), below_get hq]; omega

theorem ord_perm (l : List Sp) : ordF l ~ belowF (l.length : Int) := (sortSeg_ok l (Nat.zero_le _) (by rw [below_len]; exact Nat.le_refl _)).1.perm
theorem ord_sorted (l : List Sp) : SortedOn l (ordF l) 0 l.length := (sortSeg_ok l (Nat.zero_le _) (by rw [below_len]; exact Nat.le_refl _)).2
theorem ord_len (l : List Sp) : (ordF l).length = l.length := by rw [(ord_perm l).length_eq, below_len]
theorem ord_nodup (l : List Sp) : (ordF l).Nodup := (ord_perm l).symm.nodup (below_nodup _)
theorem ord_mem (l : List Sp) {x : Int} : x ∈ ordF l ↔ ∃ i : Nat, i < l.length ∧ x = i := by rw [(ord_perm l).mem_iff]; exact below_mem
theorem ord_at (l : List Sp) {k : Nat} (h : k < l.length) : ∃ i : Nat, i < l.length ∧ (ordF l).getD k 0 = i := (ord_mem l).1 (getD_in (by rw [ord_len]; exact h))
theorem ord_inj (l : List Sp) {p q : Nat} (hp : p < l.length) (hq : q < l.length) (e : (ordF l).getD p 0 = (ordF l).getD q 0) : p = q := by
  rcases Nat.lt_trichotomy p q with h | h | h
  · exact absurd e (pairwise_getD (ord_nodup l) h (by rw [ord_len]; exact hq))
  · exact h
  · exact absurd e.symm (pairwise_getD (ord_nodup l) h (by rw [ord_len]; exact hp))
theorem ord_surj (l : List Sp) {i : Nat} (h : i < l.length) : ∃ k, k < l.length ∧ (ordF l).getD k 0 = i := by
  obtain ⟨k, hk, e⟩ := getD_lt ((ord_mem l).2 ⟨i, h, rfl⟩)
  exact ⟨k, by rw [ord_len] at hk; exact hk, e⟩

/-! ### The reference's order -/

theorem rowR_mem {l : List Sp} {f : Int} {j : Nat} {x : Int} : x ∈ rowR l f j ↔ ∃ i : Nat, i < j ∧ x = i ∧ (at_ l i).1 = f := by
  unfold rowR
  rw [List.mem_map]
  constructor
  · rintro ⟨i, h, e⟩
    rw [List.mem_filter, List.mem_range, decide_eq_true_eq] at h
    exact ⟨i, h.1, e.symm, h.2⟩
  · rintro ⟨i, h, e, h2⟩
    exact ⟨i, by rw [List.mem_filter, List.mem_range, decide_eq_true_eq]; exact ⟨h, h2⟩, e.symm⟩
theorem ordR_mem {l : List Sp} {F : Nat} {x : Int} : x ∈ ordR l F ↔ ∃ i : Nat, i < l.length ∧ x = i ∧ 0 ≤ (at_ l i).1 ∧ (at_ l i).1 < F := by
  induction F with
  | zero => constructor
            · intro h; cases h
            · rintro ⟨i, _, _, h1, h2⟩; omega
  | succ F ih =>
    unfold ordR
    rw [List.mem_append, ih, rowR_mem]
    constructor
    · rintro (⟨i, h1, h2, h3, h4⟩ | ⟨i, h1, h2, h3⟩)
      · exact ⟨i, h1, h2, h3, by omega⟩
      · exact ⟨i, h1, h2, by omega, by omega⟩
    · rintro ⟨i, h1, h2, h3, h4⟩
      by_cases h : (at_ l i).1 < F
      · exact .inl ⟨i, h1, h2, h3, h⟩
      · exact .inr ⟨i, h1, h2, by omega⟩
theorem kf_at (l : List Sp) (i : Nat) : kf l (i : Int) = (at_ l i).1 := by unfold kf at_; rw [Int.toNat_natCast]
/-- Sorted, and without repetition. -/
theorem ordR_pair (l : List Sp) (F : Nat) : (ordR l F).Pairwise fun a b => leB l a b = true ∧ a ≠ b := by
  induction F with
  | zero => exact List.Pairwise.nil
  | succ F ih =>
    unfold ordR
    rw [List.pairwise_append]
    refine ⟨ih, ?_, fun a ha b hb => ?_⟩
    · unfold rowR
      rw [List.pairwise_map]
      refine List.Pairwise.imp_of_mem (fun {a b} ha hb (h : a < b) => ?_) (List.Pairwise.filter _ List.pairwise_lt_range)
      rw [List.mem_filter, decide_eq_true_eq] at ha hb
      show leB l (a : Int) (b : Int) = true ∧ (a : Int) ≠ (b : Int)
      rw [leB_iff, kf_at, kf_at]
      omega
    · obtain ⟨i, h1, h2, h3, h4⟩ := ordR_mem.1 ha
      obtain ⟨j, g1, g2, g3⟩ := rowR_mem.1 hb
      subst h2; subst g2
      rw [leB_iff, kf_at, kf_at]
      refine ⟨.inl (by omega), fun e => ?_⟩
      have : i = j := Int.ofNat_inj.1 e
      subst this
      omega
theorem ordR_eq {l : List Sp} (h : ∀ i, i < l.length → 0 ≤ (at_ l i).1 ∧ (at_ l i).1 < 1000) : ordR l 1000 = ordF l := by
  refine sorted_unique (sp := l) ((ordR_pair l 1000).imp fun h => h.1) (pairwise_of fun p q hpq hq => ord_sorted l p q (Nat.zero_le _) hpq (by rw [ord_len] at hq; exact hq)) ?_
  rw [List.perm_ext_iff_of_nodup ((ordR_pair l 1000).imp fun h => h.2) (ord_nodup l)]
  intro x
  rw [ordR_mem, ord_mem]
  constructor
  · rintro ⟨i, h1, h2, _⟩; exact ⟨i, h1, h2⟩
  · rintro ⟨i, h1, h2⟩; exact ⟨i, h1, h2, (h i h1).1, (h i h1).2⟩
theorem rowR_succ (l : List Sp) (f : Int) (j : Nat) : rowR l f (j + 1) = rowR l f j ++ if (at_ l j).1 = f then [(j : Int)] else [] := by
  unfold rowR
  rw [List.range_succ, List.filter_append, List.map_append]
  by_cases h : (at_ l j).1 = f
  · rw [if_pos h, List.filter_cons, if_pos (decide_eq_true h)]; rfl
  · rw [if_neg h, List.filter_cons, if_neg (by rw [decide_eq_false h]; simp)]; rfl
theorem rowR_len (l : List Sp) (f : Int) (j : Nat) : (rowR l f j).length ≤ j := by
  unfold rowR
  rw [List.length_map]
  exact Nat.le_trans (List.length_filter_le _ _) (by simp)
/-- As many as there are at most: the order has no repetition. -/
theorem ordR_len (l : List Sp) (F : Nat) : (ordR l F).length ≤ l.length := by
  have h1 : (ordR l F).Nodup := (ordR_pair l F).imp fun h => h.2
  have := List.Nodup.length_le_of_subset h1 (l₂ := belowF (l.length : Int)) (fun x hx => by
    obtain ⟨i, h1, h2, _⟩ := ordR_mem.1 hx
    exact below_mem.2 ⟨i, h1, h2⟩)
  rwa [below_len] at this
theorem rowR_ordR (l : List Sp) (F j : Nat) (hj : j ≤ l.length) : (ordR l F ++ rowR l F j).length ≤ l.length := by
  have h1 : (ordR l F ++ rowR l F j).Nodup := by
    have h2 : (ordR l (F + 1)).Nodup := (ordR_pair l (F + 1)).imp fun h => h.2
    unfold ordR at h2
    refine List.Nodup.sublist (List.Sublist.append_left ?_ _) h2
    unfold rowR
    refine List.Sublist.map _ (List.Sublist.filter _ ?_)
    have e : List.range l.length = List.range j ++ (List.range (l.length - j)).map (j + ·) := by
      rw [← List.range_add, show j + (l.length - j) = l.length by omega]
    rw [e]
    exact List.sublist_append_left _ _
  have := List.Nodup.length_le_of_subset h1 (l₂ := belowF (l.length : Int)) (fun x hx => by
    rcases List.mem_append.1 hx with h | h
    · obtain ⟨i, h1, h2, _⟩ := ordR_mem.1 h
      exact below_mem.2 ⟨i, h1, h2⟩
    · obtain ⟨i, h1, h2, _⟩ := rowR_mem.1 h
      exact below_mem.2 ⟨i, by omega, h2⟩)
  rwa [below_len] at this
theorem srtF_app (l : List Sp) (o p : List Int) : srtF l (o ++ p) = srtF l o ++ srtF l p := by unfold srtF; rw [List.map_append]
theorem srtF_len (l : List Sp) (o : List Int) : (srtF l o).length = o.length := by unfold srtF; rw [List.length_map]
theorem srtF_at (l : List Sp) (o : List Int) {k : Nat} (h : k < o.length) : at_ (srtF l o) k = at_ l (o.getD k 0).toNat := by
  unfold at_ srtF
  rw [List.getD_eq_getElem?_getD, List.getElem?_map, List.getElem?_eq_getElem h, List.getD_eq_getElem?_getD (l := o), List.getElem?_eq_getElem h]
  rfl
theorem scat_len (o f : List Int) (n k : Nat) : (scatTo o f n k).length = n := by
  induction k with
  | zero => simp [scatTo]
  | succ k ih => rw [scatTo, List.length_set, ih]

/-! ### The colouring -/

theorem scat_get {o f : List Int} {n : Nat} (hlt : ∀ k, k < n → ∃ i : Nat, i < n ∧ o.getD k 0 = i) (hinj : ∀ p q, p < n → q < n → o.getD p 0 = o.getD q 0 → p = q) : ∀ m, m ≤ n → ∀ k, k < m → (scatTo o f n m).getD (o.getD k 0).toNat 0 = f.getD k 0 := by
  intro m
  induction m with
  | zero => intro _ k hk; omega
  | succ m ih =>
    intro hm k hk
    obtain ⟨i, h1, h2⟩ := hlt m (by omega)
    rw [scatTo, set_getD _ _ _ _ (by rw [scat_len, h2, Int.toNat_natCast]; exact h1)]
    by_cases e : k = m
    · rw [e, if_pos rfl]
    · rw [if_neg fun e' => e ?_]
      · exact ih (by omega) k (by omega)
      · obtain ⟨j, g1, g2⟩ := hlt k (by omega)
        refine hinj k m (by omega) (by omega) ?_
        rw [h2, g2, Int.toNat_natCast, Int.toNat_natCast] at e'
        rw [h2, g2, e']

section
variable (l : List Sp)
theorem best_len : (bestF l).length = l.length := scat_len _ _ _ _
theorem best_get {k : Nat} (h : k < l.length) : (bestF l).getD ((ordF l).getD k 0).toNat 0 = (firstF (srtF l (ordF l))).getD k 0 :=
  scat_get (fun k hk => ord_at l hk) (fun p q hp hq e => ord_inj l hp hq e) _ (Nat.le_refl _) k h
theorem srt_len : (srtF l (ordF l)).length = l.length := by rw [srtF_len, ord_len]
theorem best_at {i : Nat} (h : i < l.length) : ∃ k, k < l.length ∧ (ordF l).getD k 0 = i ∧ (bestF l).getD i 0 = (firstF (srtF l (ordF l))).getD k 0 ∧ at_ (srtF l (ordF l)) k = at_ l i := by
  obtain ⟨k, h1, h2⟩ := ord_surj l h
  have h3 := best_get l h1
  have h4 := srtF_at l (ordF l) (k := k) (by rw [ord_len]; exact h1)
  rw [h2, Int.toNat_natCast] at h3 h4
  exact ⟨k, h1, h2, h3, h4⟩
theorem best_mem {x : Int} : x ∈ bestF l ↔ x ∈ firstF (srtF l (ordF l)) := by
  constructor
  · intro h
    obtain ⟨i, hi, rfl⟩ := getD_lt h
    rw [best_len] at hi
    obtain ⟨k, h1, _, h3, _⟩ := best_at l hi
    rw [h3]
    exact getD_in (by rw [firstF_length, srt_len]; exact h1)
  · intro h
    obtain ⟨k, hk, rfl⟩ := getD_lt h
    rw [firstF_length, srt_len] at hk
    rw [← best_get l hk]
    obtain ⟨i, h1, h2⟩ := ord_at l hk
    rw [h2, Int.toNat_natCast]
    exact getD_in (by rw [best_len]; exact h1)
theorem best_nonneg : ∀ x ∈ bestF l, 0 ≤ x := fun x hx => first_nonneg _ x ((best_mem l).1 hx)
theorem best_lt : ∀ x ∈ bestF l, x < l.length := fun x hx => by have := first_lt _ x ((best_mem l).1 hx); rwa [srt_len] at this
theorem best_proper : Prop_ l (bestF l) := by
  intro i hi j hj ho
  obtain ⟨p, p1, p2, p3, p4⟩ := best_at l hi
  obtain ⟨q, q1, q2, q3, q4⟩ := best_at l (show j < l.length by omega)
  rw [p3, q3]
  have hp := first_proper (srtF l (ordF l))
  rcases Nat.lt_trichotomy p q with h | h | h
  · exact (hp q (by rw [srt_len]; exact q1) p h (by rw [p4, q4, ovl_comm]; exact ho)).symm
  · subst h
    rw [p2] at q2
    have := Int.ofNat_inj.1 q2
    omega
  · exact hp p (by rw [srt_len]; exact p1) q h (by rw [p4, q4]; exact ho)

theorem top_mem {l m : List Int} (h : ∀ x, x ∈ l ↔ x ∈ m) : topF l = topF m := by
  obtain ⟨a1, a2⟩ := topF_spec l
  obtain ⟨b1, b2⟩ := topF_spec m
  have := topF_nonneg l
  have := topF_nonneg m
  have h1 : topF l ≤ topF m := by
    rcases a2 with a2 | ⟨x, hx, e⟩
    · omega
    · have := b1 x ((h x).1 hx); omega
  have h2 : topF m ≤ topF l := by
    rcases b2 with b2 | ⟨x, hx, e⟩
    · omega
    · have := a1 x ((h x).2 hx); omega
  omega
theorem seen_mem {l m : List Int} (h : ∀ x, x ∈ l ↔ x ∈ m) (h0 : ∀ x ∈ l, 0 ≤ x) : (seenF l).length = (seenF m).length := by
  have e := top_mem h
  rw [seen_cR l (topF l).toNat fun x hx => by have := (topF_spec l).1 x hx; have := h0 x hx; omega,
    seen_cR m (topF l).toNat fun x hx => by have := (topF_spec l).1 x ((h x).2 hx); have := h0 x ((h x).2 hx); omega]
  exact cR_congr fun c _ => decide_eq_decide.2 (h c)

theorem srt_perm : (srtF l (ordF l)) ~ l := by
  have h1 : srtF l (ordF l) ~ srtF l (belowF (l.length : Int)) := (ord_perm l).map _
  have h2 : srtF l (belowF (l.length : Int)) = l := by
    apply List.ext_getElem
    · rw [srtF_len, below_len]
    · intro k a b
      have h3 := srtF_at l (belowF (l.length : Int)) (k := k) (by rw [below_len]; exact b)
      rw [below_get b, Int.toNat_natCast] at h3
      unfold at_ at h3
      rw [List.getD_eq_getElem?_getD, List.getD_eq_getElem?_getD, List.getElem?_eq_getElem a, List.getElem?_eq_getElem b] at h3
      exact h3
  rwa [h2] at h1
theorem srt_cnt (v : Int) : cnt (srtF l (ordF l)) v = cnt l v := (srt_perm l).countP_eq _
theorem srt_good (h : Good l) : Good (srtF l (ordF l)) := fun i hi => by
  rw [srt_len] at hi
  rw [srtF_at l _ (by rw [ord_len]; exact hi)]
  obtain ⟨j, h1, h2⟩ := ord_at l hi
  rw [h2, Int.toNat_natCast]
  exact h j h1
theorem srt_sorted {i j : Nat} (hij : i < j) (hj : j < l.length) : (at_ (srtF l (ordF l)) i).1 ≤ (at_ (srtF l (ordF l)) j).1 := by
  have h := ord_sorted l i j (Nat.zero_le _) hij hj
  rw [srtF_at l _ (by rw [ord_len]; omega), srtF_at l _ (by rw [ord_len]; exact hj)]
  rw [leB_iff] at h
  unfold kf at h
  unfold at_
  omega

theorem best_top (h : Good l) : topF (bestF l) ≤ depthF l := by
  rw [top_mem (fun x => best_mem l)]
  have hs := srt_good l h
  refine topF_le _ _ (by omega) fun x hx => ?_
  obtain ⟨i, hi, rfl⟩ := getD_lt hx
  rw [firstF_length] at hi
  have h1 := (first_ok _ hi).le
  have h2 : zeroF i = 0 := rfl
  have h3 := depth_max h (at_ (srtF l (ordF l)) i).1
  rw [← srt_cnt, cnt_idx] at h3
  have := cR_mono_succ (p := confF (srtF l (ordF l)) i) (q := fun a => inS (at_ (srtF l (ordF l)) a) (at_ (srtF l (ordF l)) i).1) (a := i) (m := i) (n := (srtF l (ordF l)).length) (by omega) (fun a ha hc => by
    have h4 := srt_sorted l ha (by rw [srt_len] at hi; exact hi)
    unfold confF at hc
    rw [ovl_iff] at hc
    exact inS_iff.2 ⟨h4, by omega⟩) hi (inS_iff.2 ⟨Int.le_refl _, hs i hi⟩) (.inl (Nat.le_refl _))
  omega
/-- C2: as many numbers as the depth says. -/
theorem best_most (h : Good l) : mostF (bestF l) = ((depthF l : Int), (depthF l : Int)) := by
  obtain ⟨v, e⟩ := depth_at h
  have h1 := most_ge (best_len l) (best_proper l) (best_nonneg l) v
  have h2 := best_top l h
  have h3 : ((seenF (bestF l)).length : Int) = topF (bestF l) := by
    rw [seen_mem (fun x => best_mem l) (best_nonneg l), top_mem (fun x => best_mem l)]
    exact first_most _
  unfold mostF
  rw [h3]
  have : topF (bestF l) = depthF l := by omega
  rw [this]
end
end Go.SX.Sh
