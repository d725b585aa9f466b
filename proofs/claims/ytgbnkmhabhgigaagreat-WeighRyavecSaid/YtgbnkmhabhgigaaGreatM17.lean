/- Parts of the proof, one after the other: WeL WeM WeH WeSs WeE WeDb WeRy WeZb. -/
import Derived.Test.YtgbnkmhabhgigaaGreatM6
import Derived.Test.YtgbnkmhabhgigaaGreatM8
import Derived.Test.YtgbnkmhabhgigaaGreatM15
/- Chapter 08: when there is a clash. -/
namespace Go.SX.We
theorem sumAt_append (w : List Int) : ∀ a b : List Int, sumAt w (a ++ b) = sumAt w a + sumAt w b
  | [], b => by simp [sumAt]
  | i :: a, b => by simp [sumAt, sumAt_append w a b, Int.add_assoc]
theorem Ris.lo {N : Nat} : {t : List Int} → {a : Nat} → Ris a N t → ∀ i ∈ t, (a : Int) ≤ i ∧ i < (N : Int)
  | [], _, _, i, h => by simp at h
  | j :: t, a, ⟨h1, h2, h3⟩, i, h => by
    rcases List.mem_cons.1 h with rfl | h
    · exact ⟨h1, h2⟩
    · have := Ris.lo h3 i h; omega
structure Cl (w x y : List Int) : Prop where
  rx : Ris 0 w.length x
  ry : Ris 0 w.length y
  sum : sumAt w x = sumAt w y
  ap : beforeF x y = true
  dis : ∀ i ∈ x, i ∉ y
theorem lists_nodup (N : Nat) : (lists N).Nodup := by
  have key : ∀ n, n ≤ N → (tlF N n).Nodup := by
    intro n
    induction n with
    | zero => intro _; exact List.nodup_nil
    | succ n ih =>
      intro hn
      have ih := ih (by omega)
      unfold tlF
      rw [List.nodup_append]
      refine ⟨?_, ih, ?_⟩
      · have h0 : ([] :: tlF N n).Nodup := by
          rw [List.nodup_cons]
          exact ⟨fun h => ((mem_tlF (by omega)).1 h).1 rfl, ih⟩
        exact List.pairwise_map.2 (h0.imp fun hab e => hab (by simpa using e))
      · intro a ha b hb e
        subst e
        obtain ⟨u, _, rfl⟩ := List.mem_map.1 ha
        obtain ⟨_, q, _⟩ := (mem_tlF (N := N) (n := n) (by omega)).1 hb
        omega
  unfold lists
  rw [List.nodup_cons]
  exact ⟨fun h => ((mem_tlF (Nat.le_refl N)).1 h).1 rfl, key N (Nat.le_refl N)⟩
end Go.SX.We

/- Chapter 08: weights from numbers, in plain words. -/
namespace Go.SX.We
def madeS (x : List Int) : Nat → Int
  | 0 => 0
  | k + 1 => madeS x k + (x.getD k 0 % 8000 + 1)
def madeL (x : List Int) (k : Nat) : List Int := (List.range k).map fun i => madeS x (i + 1)
def madeF (x : List Int) (most : Nat) : List Int := bif decide (min x.length most = 0) then [1] else madeL x (min x.length most)
theorem madeL_length (x : List Int) (k : Nat) : (madeL x k).length = k := by simp [madeL]
theorem madeL_snoc (x : List Int) (k : Nat) : madeL x (k + 1) = madeL x k ++ [madeS x (k + 1)] := by simp [madeL, List.range_succ]
theorem madeS_small (x : List Int) : ∀ k, 0 ≤ madeS x k ∧ madeS x k ≤ 8000 * (k : Int)
  | 0 => by simp [madeS]
  | k + 1 => by
    have := madeS_small x k
    unfold madeS
    omega
theorem madeS_lt (x : List Int) (i : Nat) : ∀ d, madeS x i < madeS x (i + d + 1)
  | 0 => by
    rw [Nat.add_zero, madeS]; omega
  | d + 1 => by
    have := madeS_lt x i d
    show _ < madeS x (i + d + 1) + (x.getD (i + d + 1) 0 % 8000 + 1)
    omega
theorem made_wts (x : List Int) {m : Nat} (h0 : 0 < m) (hm : m ≤ 12) : Wts (madeF x m) := by
  unfold madeF
  by_cases h : min x.length m = 0
  · rw [decide_eq_true h]
    show Wts [1]
    exact check_ok.1 (by decide)
  · rw [decide_eq_false h]
    simp only [cond_false]
    refine ⟨by rw [madeL_length]; omega, by rw [madeL_length]; omega, fun v hv => ?_, fun v hv => ?_, ?_⟩
    · obtain ⟨i, _, rfl⟩ := List.mem_map.1 hv
      have := madeS_small x i
      rw [madeS]; omega
    · obtain ⟨i, hi, rfl⟩ := List.mem_map.1 hv
      rw [List.mem_range] at hi
      have := madeS_small x (i + 1)
      omega
    · unfold madeL
      rw [List.pairwise_map, List.pairwise_iff_getElem]
      intro i j hi hj hij
      simp only [List.getElem_range]
      obtain ⟨d, rfl⟩ : ∃ d, j = i + d + 1 := ⟨j - i - 1, by omega⟩
      have := madeS_lt x (i + 1) d
      rwa [show i + 1 + d + 1 = i + d + 1 + 1 by omega] at this
end Go.SX.We

/- Chapter 08: how many subsets have a sum, in plain words. -/
namespace Go.SX.We
def allI (N : Nat) : List Int := (List.range N).map fun i : Nat => (i : Int)
def comp (N : Nat) (t : List Int) : List Int := (allI N).filter fun i => !decide (i ∈ t)
end Go.SX.We

/- Chapter 08: the sums of all subsets in other orders. -/
namespace Go.SX.We
def sets : Nat → List (List Int)
  | 0 => [[]]
  | k + 1 => sets k ++ (sets k).map (· ++ [(k : Int)])
def ssR : List Int → List Int → List Int
  | out, [] => out
  | out, v :: r => ssR (out ++ out.map (· + v)) r
def sumsR (w : List Int) : List Int := ssR [0] w
theorem ris_snoc {k : Nat} : {t : List Int} → {a : Nat} → a ≤ k → Ris a k t → Ris a (k + 1) (t ++ [(k : Int)])
  | [], a, h, _ => ⟨by omega, by omega, trivial⟩
  | i :: t, a, h, ⟨h1, h2, h3⟩ => ⟨h1, by omega, ris_snoc (by omega) h3⟩
theorem ris_up {k : Nat} : {t : List Int} → {a : Nat} → Ris a k t → Ris a (k + 1) t
  | [], _, _ => trivial
  | i :: t, a, ⟨h1, h2, h3⟩ => ⟨h1, by omega, ris_up h3⟩
theorem ris_split {k : Nat} : {t : List Int} → {a : Nat} → a ≤ k → Ris a (k + 1) t → Ris a k t ∨ ∃ u, t = u ++ [(k : Int)] ∧ Ris a k u
  | [], _, _, _ => .inl trivial
  | i :: t, a, h, ⟨h1, h2, h3⟩ => by
    by_cases hi : i = (k : Int)
    · subst hi
      have : t = [] := by
        cases t with
        | nil => rfl
        | cons j t => obtain ⟨q1, q2, _⟩ := h3; omega
      subst this
      exact .inr ⟨[], rfl, trivial⟩
    · rcases ris_split (show i.toNat + 1 ≤ k by omega) h3 with h4 | ⟨u, rfl, h4⟩
      · exact .inl ⟨h1, by omega, h4⟩
      · exact .inr ⟨i :: u, rfl, h1, by omega, h4⟩
theorem mem_sets : ∀ {k : Nat} {t : List Int}, t ∈ sets k ↔ Ris 0 k t
  | 0, t => by
    unfold sets
    rw [List.mem_singleton]
    constructor
    · rintro rfl; trivial
    · intro h
      cases t with
      | nil => rfl
      | cons i t => obtain ⟨h1, h2, _⟩ := h; omega
  | k + 1, t => by
    unfold sets
    rw [List.mem_append, List.mem_map, mem_sets]
    constructor
    · rintro (h | ⟨u, hu, rfl⟩)
      · exact ris_up h
      · exact ris_snoc (Nat.zero_le k) (mem_sets.1 hu)
    · intro h
      rcases ris_split (Nat.zero_le k) h with h1 | ⟨u, rfl, h1⟩
      · exact .inl h1
      · exact .inr ⟨u, mem_sets.2 h1, rfl⟩
theorem sets_length : ∀ k, (sets k).length = 2 ^ k
  | 0 => rfl
  | k + 1 => by rw [sets, List.length_append, List.length_map, sets_length k, Nat.pow_succ]; omega
theorem sets_nodup : ∀ k, (sets k).Nodup
  | 0 => by simp [sets]
  | k + 1 => by
    have ih := sets_nodup k
    unfold sets
    rw [List.nodup_append]
    refine ⟨ih, List.pairwise_map.2 (ih.imp fun hab e => hab (by simpa using e)), ?_⟩
    intro a ha b hb e
    obtain ⟨u, _, rfl⟩ := List.mem_map.1 hb
    have := Ris.lo (mem_sets.1 ha) (k : Int) (by rw [e]; simp)
    omega
theorem sets_perm (N : Nat) : (sets N).Perm (lists N) := by
  rw [List.perm_ext_iff_of_nodup (sets_nodup N) (lists_nodup N)]
  intro t
  rw [mem_sets, mem_lists]
theorem sumAt_ext {w w' : List Int} : ∀ t : List Int, (∀ i ∈ t, w.getD i.toNat 0 = w'.getD i.toNat 0) → sumAt w t = sumAt w' t
  | [], _ => rfl
  | i :: t, h => by
    unfold sumAt
    rw [h i (by simp), sumAt_ext t fun j hj => h j (List.mem_cons_of_mem _ hj)]
theorem sumAt_more {w : List Int} (v : Int) {t : List Int} (h : Ris 0 w.length t) : sumAt (w ++ [v]) t = sumAt w t :=
  sumAt_ext t fun i hi => by
    have := Ris.lo h i hi
    simp [List.getD, List.getElem?_append_left (show i.toNat < w.length by omega)]
theorem sums_snoc (w : List Int) (v : Int) : (sets (w.length + 1)).map (sumAt (w ++ [v])) = (sets w.length).map (sumAt w) ++ ((sets w.length).map (sumAt w)).map (· + v) := by
  rw [sets, List.map_append, List.map_map, List.map_map]
  congr 1
  · exact List.map_congr_left fun t ht => sumAt_more v (mem_sets.1 ht)
  · refine List.map_congr_left fun t ht => ?_
    simp only [Function.comp]
    rw [sumAt_append, sumAt_more v (mem_sets.1 ht)]
    simp [sumAt]
theorem ssR_eq : ∀ (r w : List Int), ssR ((sets w.length).map (sumAt w)) r = (sets (w ++ r).length).map (sumAt (w ++ r))
  | [], w => by simp [ssR]
  | v :: r, w => by
    rw [ssR, ← sums_snoc]
    have := ssR_eq r (w ++ [v])
    rw [List.length_append, List.length_singleton, List.append_assoc] at this
    exact this
theorem sumsR_eq (w : List Int) : sumsR w = (sets w.length).map (sumAt w) := by
  have := ssR_eq w []
  unfold sumsR
  simpa [sets, sumAt] using this
theorem sumsR_perm (w : List Int) : (sumsR w).Perm (sumsF w) := by
  rw [sumsR_eq]
  have e : sumsF w = (lists w.length).map (sumAt w) := by unfold sumsF; rw [subsF_eq, List.map_map]; rfl
  rw [e]
  exact (sets_perm _).map _
theorem dist_sums (w : List Int) : distF w = true ↔ (sumsR w).Nodup := by rw [distF_iff, (sumsR_perm w).nodup_iff]
def ss : List Int → List Int
  | [] => [0]
  | v :: r => ss r ++ (ss r).map (· + v)
theorem ssR_append (a b : List Int) : ∀ r : List Int, (ssR (a ++ b) r).Perm (ssR a r ++ ssR b r)
  | [] => List.Perm.refl _
  | v :: r => by
    rw [ssR, ssR, ssR]
    have e : (a ++ b ++ (a ++ b).map (· + v)).Perm ((a ++ a.map (· + v)) ++ (b ++ b.map (· + v))) := by
      rw [List.map_append]
      simp only [List.append_assoc]
      refine List.Perm.append_left a ?_
      simp only [← List.append_assoc]
      exact List.Perm.append_right _ List.perm_append_comm
    have h : ∀ (r : List Int) {x y : List Int}, x.Perm y → (ssR x r).Perm (ssR y r) := by
      intro r
      induction r with
      | nil => intro x y h; exact h
      | cons v r ih => intro x y h; exact ih (h.append (h.map _))
    exact (h r e).trans (ssR_append _ _ r)
theorem ssR_map (v : Int) : ∀ (r a : List Int), ssR (a.map (· + v)) r = (ssR a r).map (· + v)
  | [], _ => rfl
  | u :: r, a => by
    rw [ssR, ssR, ← ssR_map v r, List.map_append, List.map_map, List.map_map]
    congr 2
    refine List.map_congr_left fun x _ => ?_
    simp only [Function.comp]; omega
theorem ss_perm : ∀ w : List Int, (sumsR w).Perm (ss w)
  | [] => List.Perm.refl _
  | v :: r => by
    unfold sumsR
    rw [ssR, ss]
    refine (ssR_append _ _ r).trans ?_
    rw [ssR_map v r]
    exact (ss_perm r).append ((ss_perm r).map _)
theorem dist_ss (w : List Int) : distF w = true ↔ (ss w).Nodup := by rw [dist_sums, (ss_perm w).nodup_iff]
theorem ss_sublist : {a b : List Int} → List.Sublist a b → List.Sublist (ss a) (ss b)
  | _, _, .slnil => List.Sublist.refl _
  | _, _, .cons v h => by
    rw [ss]
    exact (ss_sublist h).trans (List.sublist_append_left _ _)
  | _, _, .cons_cons v h => by
    rw [ss, ss]
    exact (ss_sublist h).append ((ss_sublist h).map _)
theorem dist_part {a b : List Int} (h : List.Sublist a b) (hb : distF b = true) : distF a = true := (dist_ss a).2 (List.Nodup.sublist (ss_sublist h) ((dist_ss b).1 hb))
theorem sumsR_length (w : List Int) : (sumsR w).length = 2 ^ w.length := by rw [sumsR_eq, List.length_map, sets_length]
end Go.SX.We

/- Chapter 08: distinct sums and squares (Erdos and Moser). -/
namespace Go.SX.We
def sm : List Int → Int
  | [] => 0
  | x :: r => x + sm r
def sq : List Int → Int
  | [] => 0
  | x :: r => x * x + sq r
def vr (l : List Int) : Int := (l.length : Int) * sq l - sm l * sm l
theorem sm_append (a b : List Int) : sm (a ++ b) = sm a + sm b := by
  induction a with
  | nil => simp [sm]
  | cons x a ih => simp only [List.cons_append, sm, ih]; omega
theorem ss_length (w : List Int) : (ss w).length = 2 ^ w.length := by rw [← (ss_perm w).length_eq, sumsR_length]
def dq (x : Int) : List Int → Int
  | [] => 0
  | y :: r => (y - x) * (y - x) + dq x r
theorem sorted_strict {l : List Int} (h : l.Nodup) : (sortF l).Pairwise (· < ·) := by
  have h1 := sortF_sorted l
  have h2 : (sortF l).Nodup := (sortF_perm l).nodup_iff.2 h
  unfold List.Nodup at h2
  exact (List.pairwise_and_iff.2 ⟨h1, h2⟩).imp fun ⟨a, b⟩ => by omega
end Go.SX.We

/- Chapter 08: distinct weights from numbers, in plain words. -/
namespace Go.SX.We
def dbS (x : List Int) : Nat → Int
  | 0 => 0
  | k + 1 => dbS x k + (dbS x k + 1 + x.getD k 0 % 12)
def dbL (x : List Int) (k : Nat) : List Int := (List.range k).map fun i => dbS x i + 1 + x.getD i 0 % 12
def byF (x : List Int) : Int := if x = [] then 1 else x.getD 0 0 % 40 + 1
def dblF (x : List Int) (guy : Bool) : List Int :=
  bif guy then (setF (min x.length 11 + 1)).map (· * byF x) else bif decide (min x.length 12 = 0) then [1] else dbL x (min x.length 12)
theorem dbL_length (x : List Int) (k : Nat) : (dbL x k).length = k := by simp [dbL]
theorem dbL_snoc (x : List Int) (k : Nat) : dbL x (k + 1) = dbL x k ++ [dbS x k + 1 + x.getD k 0 % 12] := by simp [dbL, List.range_succ]
theorem dbS_small (x : List Int) : ∀ k, 0 ≤ dbS x k ∧ dbS x k + 12 ≤ 12 * 2 ^ k
  | 0 => by simp [dbS]
  | k + 1 => by
    have := dbS_small x k
    rw [dbS, Int.pow_succ]
    omega
theorem byF_pos (x : List Int) : 1 ≤ byF x ∧ byF x ≤ 40 := by unfold byF; split <;> omega
theorem pow2_12 : ∀ k, k < 13 → (1 : Int) ≤ 2 ^ k ∧ (2 : Int) ^ k ≤ 4096 := by decide +kernel
theorem setF_small {n : Nat} (h : n ≤ 12) : ∀ v ∈ setF n, -4096 ≤ v ∧ v ≤ 4096 := by
  have : ∀ n, n < 13 → ∀ v ∈ setF n, -4096 ≤ v ∧ v ≤ 4096 := by decide +kernel
  exact this n (by omega)
def mulTo (b : Int) (l : List Int) (k : Nat) : List Int := (l.take k).map (· * b) ++ l.drop k
theorem mulTo_length (b : Int) (l : List Int) (k : Nat) : (mulTo b l k).length = l.length := by simp [mulTo]; omega
theorem mulTo_get (b : Int) {l : List Int} {k : Nat} (h : k < l.length) : (mulTo b l k).getD k 0 = l.getD k 0 := by
  unfold mulTo
  simp [List.getD, List.getElem?_append_right, show min k l.length = k by omega]
theorem mulTo_set (b : Int) {l : List Int} {k : Nat} (h : k < l.length) : (mulTo b l k).set k (l.getD k 0 * b) = mulTo b l (k + 1) := by
  unfold mulTo
  have e1 : (l.take (k + 1)) = l.take k ++ [l.getD k 0] := by rw [List.take_add_one]; simp [List.getD, List.getElem?_eq_getElem h]
  have e2 : l.drop k = l.getD k 0 :: l.drop (k + 1) := by rw [List.drop_eq_getElem_cons h]; simp [List.getD, List.getElem?_eq_getElem h]
  rw [e1, e2, List.map_append]
  have hl : ((l.take k).map (· * b)).length = k := by simp; omega
  rw [List.set_append_right _ _ (by omega), hl, Nat.sub_self]
  simp
end Go.SX.We

/- Chapter 08: reciprocals of distinct weights, in plain words (Ryavec). -/
namespace Go.SX.We
theorem strict_len : ∀ (l : List Int) (a b : Int), l.Pairwise (· < ·) → (∀ x ∈ l, a ≤ x ∧ x ≤ b) → a ≤ b + 1 → (l.length : Int) ≤ b - a + 1
  | [], a, b, _, _, h => by simp; omega
  | x :: r, a, b, hp, hm, h => by
    rw [List.pairwise_cons] at hp
    have hx := hm x (by simp)
    have ih := strict_len r (x + 1) b hp.2 (fun y hy => ⟨hp.1 y hy, (hm y (List.mem_cons_of_mem _ hy)).2⟩) (by omega)
    rw [List.length_cons]
    omega
theorem ss_range : ∀ (w : List Int), (∀ v ∈ w, 0 ≤ v) → ∀ s ∈ ss w, 0 ≤ s ∧ s ≤ sm w
  | [], _, s, h => by
    have : s = 0 := by simpa [ss] using h
    subst this; simp [sm]
  | v :: r, h0, s, h => by
    have ih := ss_range r fun u hu => h0 u (List.mem_cons_of_mem _ hu)
    have hv := h0 v (by simp)
    rw [ss, List.mem_append] at h
    rw [sm]
    rcases h with h | h
    · have := ih s h; omega
    · obtain ⟨u, hu, rfl⟩ := List.mem_map.1 h
      have := ih u hu; omega
theorem sm_nonneg : ∀ (w : List Int), (∀ v ∈ w, 0 ≤ v) → 0 ≤ sm w
  | [], _ => Int.le_refl 0
  | v :: r, h0 => by
    have ih := sm_nonneg r fun u hu => h0 u (List.mem_cons_of_mem _ hu)
    have hv := h0 v (by simp)
    rw [sm]; omega
theorem dist_sum {w : List Int} (hd : distF w = true) (h0 : ∀ v ∈ w, 0 ≤ v) : (2 : Int) ^ w.length ≤ sm w + 1 := by
  have h1 := strict_len (sortF (ss w)) 0 (sm w) (sorted_strict ((dist_ss w).1 hd)) (fun x hx => ss_range w h0 x ((sortF_perm _).mem_iff.1 hx)) (by have := sm_nonneg w h0; omega)
  rw [(sortF_perm _).length_eq, ss_length] at h1
  push_cast at h1
  omega
theorem rya_step {n d w W T S : Int} (hd : 0 ≤ d) (hW : 0 < W) (hw : W ≤ w) (hE : T - 1 - S ≤ 0) (hI : n * W * T ≤ d * (2 * ((T - 1) * W + (T - 1 - S)))) :
    (n * w + d) * w * (T * 2) ≤ d * w * (2 * ((T * 2 - 1) * w + (T * 2 - 1 - (S + w)))) := by
  have h1 : n * W * T * w ≤ d * (2 * ((T - 1) * W + (T - 1 - S))) * w := Int.mul_le_mul_of_nonneg_right hI (by omega)
  have h2 : d * ((T - 1 - S) * (2 * w - W)) ≤ 0 := Int.mul_nonpos_of_nonneg_of_nonpos hd (Int.mul_nonpos_of_nonpos_of_nonneg hE (by omega))
  have h3 : n * w * T * W ≤ d * ((2 * T - 2) * w + (T - 1 - S)) * W := by grind
  have h4 : n * w * T ≤ d * ((2 * T - 2) * w + (T - 1 - S)) := Int.le_of_mul_le_mul_right h3 hW
  have h5 := Int.mul_le_mul_of_nonneg_right h4 (show (0 : Int) ≤ 2 * w by omega)
  grind
theorem rya_end {n d W T S : Int} (hd : 0 < d) (hW : 0 < W) (hT : 0 < T) (hE : T - 1 - S ≤ 0) (hI : n * W * T ≤ d * (2 * ((T - 1) * W + (T - 1 - S)))) : n < 2 * d := by
  have h1 : d * (T - 1 - S) ≤ 0 := Int.mul_nonpos_of_nonneg_of_nonpos (Int.le_of_lt hd) hE
  have h2 : n * T * W ≤ d * (2 * (T - 1)) * W := by grind
  have h3 : n * T ≤ d * (2 * (T - 1)) := Int.le_of_mul_le_mul_right h2 hW
  have h4 : n * T < (2 * d) * T := by grind
  exact Int.lt_of_mul_lt_mul_right h4 (Int.le_of_lt hT)
end Go.SX.We

/- Chapter 08: text as bytes, and what it is worth. -/
namespace Go.SX.We.Nm
open Go
def bytesL (s : ByteArray) : List Int := s.data.toList.map fun b => (b.toNat : Int)
theorem bytes_len (s : ByteArray) : (bytesL s).length = s.size := by simp [bytesL]
theorem bt_bytes (s : ByteArray) (i : Nat) (hi : i < s.size) : bt s i = (bytesL s).getD i 0 := by
  have hl : i < s.data.toList.length := by rw [Array.length_toList]; exact hi
  rw [List.getD_eq_getElem?_getD, bytesL, List.getElem?_map, bt]
  rw [← Array.getElem?_toList, List.getElem?_eq_getElem hl]
  rfl
theorem bytes_str {l : List Int} (h : ∀ x ∈ l, 0 ≤ x ∧ x < 256) : bytesL (strOf l) = l := by
  have e : bytesL (strOf l) = l.map fun b => (((UInt8.ofNat b.toNat).toNat : Nat) : Int) := by
    simp [bytesL, strOf]
  rw [e]
  conv => rhs; rw [← List.map_id l]
  apply List.map_congr_left
  intro x hx
  obtain ⟨h0, h1⟩ := h x hx
  show (((UInt8.ofNat x.toNat).toNat : Nat) : Int) = x
  rw [UInt8.toNat_ofNat']
  omega
theorem bytes_cut (s : ByteArray) (a b : Nat) : bytesL (s.extract a b) = ((bytesL s).take b).drop a := by
  simp only [bytesL, ByteArray.data_extract, Array.toList_extract, List.extract_eq_take_drop, List.map_take, List.map_drop]
  rw [List.drop_take]
def DigL (l : List Int) : Prop := ∀ x ∈ l, 48 ≤ x ∧ x ≤ 57
def valS (l : List Int) : Int := valF 10 ((l.map (· - 48)).reverse)
theorem digl_figs {l : List Int} (h : DigL l) : FigsF 10 ((l.map (· - 48)).reverse) := by
  intro x hx
  rw [List.mem_reverse, List.mem_map] at hx
  obtain ⟨y, hy, rfl⟩ := hx
  have := h y hy
  omega
theorem valS_snoc (l : List Int) (x : Int) : valS (l ++ [x]) = 10 * valS l + (x - 48) := by
  simp [valS, valF]; omega
theorem valS_range {l : List Int} (h : DigL l) : 0 ≤ valS l ∧ valS l < 10 ^ l.length := by
  have := val_range (by decide : (0 : Int) < 10) (digl_figs h)
  simpa [valS] using this
theorem digl_take {l : List Int} (h : DigL l) (n : Nat) : DigL (l.take n) := fun x hx => h x (List.mem_of_mem_take hx)
theorem digl_drop {l : List Int} (h : DigL l) (n : Nat) : DigL (l.drop n) := fun x hx => h x (List.mem_of_mem_drop hx)
theorem valS_take {l : List Int} (h : DigL l) {b : Nat} (hb : b ≤ l.length) : valS (l.take b) = valS l / 10 ^ (l.length - b) := by
  rw [valS, valS, val_div (by decide) (digl_figs h), List.map_take, List.reverse_take, List.length_map]
theorem valS_drop {l : List Int} (h : DigL l) (a : Nat) : valS (l.drop a) = valS l % 10 ^ (l.length - a) := by
  have hf := digl_figs h
  have e : (l.drop a).map (· - 48) = (l.map (· - 48)).drop a := by rw [List.map_drop]
  rw [valS, valS, e]
  have e2 : ((l.map (· - 48)).drop a).reverse = ((l.map (· - 48)).reverse).take (l.length - a) := by rw [List.reverse_drop, List.length_map]
  rw [e2]
  have hs := val_split (b := 10) ((l.map (· - 48)).reverse) (l.length - a)
  have hr := val_take_range (by decide : (0 : Int) < 10) hf (l.length - a)
  rw [hs, Int.add_mul_emod_self_left, Int.emod_eq_of_lt hr.1 hr.2]
theorem valS_group {l : List Int} (h : DigL l) {a b : Nat} (hab : a ≤ b) (hb : b ≤ l.length) : valS ((l.take b).drop a) = valS l / 10 ^ (l.length - b) % 10 ^ (b - a) := by
  rw [valS_drop (digl_take h b), valS_take h hb, List.length_take, Nat.min_eq_left hb]
theorem pow4 (k : Nat) : (10 : Int) ^ (4 * k) = 10000 ^ k := by
  rw [Int.pow_mul]; rfl
theorem valS_four {l : List Int} (h : DigL l) {k : Nat} (hk : 4 * k < l.length) : valS ((l.take (l.length - 4 * k)).drop (l.length - 4 * k - 4)) = valS l / 10000 ^ k % 10000 := by
  rw [valS_group h (by omega) (by omega), show l.length - (l.length - 4 * k) = 4 * k by omega, pow4]
  have hr := valS_range h
  rcases Nat.lt_or_ge (l.length - 4 * k) 4 with q | q
  · have hp := pow_pos' (b := 10) (by decide) (4 * k)
    have hlt : valS l / 10000 ^ k < 10 ^ (l.length - 4 * k) := by
      rw [← pow4]
      apply Int.ediv_lt_of_lt_mul hp
      rw [← Int.pow_add, show l.length - 4 * k + 4 * k = l.length by omega]
      exact hr.2
    have h0 : 0 ≤ valS l / 10000 ^ k := Int.ediv_nonneg hr.1 (by rw [← pow4]; omega)
    rw [show l.length - 4 * k - (l.length - 4 * k - 4) = l.length - 4 * k by omega, Int.emod_eq_of_lt h0 hlt]
    have h4 : (10 : Int) ^ (l.length - 4 * k) ≤ 10 ^ 4 := pow_mono' (by decide) (by omega)
    have e4 : (10 : Int) ^ 4 = 10000 := by decide
    rw [e4] at h4
    rw [Int.emod_eq_of_lt h0 (by omega)]
  · rw [show l.length - 4 * k - (l.length - 4 * k - 4) = 4 by omega]; rfl
theorem take_drop_snoc {l : List Int} {a i : Nat} (ha : a ≤ i) (hi : i < l.length) : (l.take (i + 1)).drop a = (l.take i).drop a ++ [l.getD i 0] := by
  rw [List.take_add_one, List.getD_eq_getElem?_getD, List.getElem?_eq_getElem hi, List.drop_append_of_le_length (by rw [List.length_take]; omega)]
  rfl
def textL (N : Int) : List Int := if N = 0 then [48] else ((lim 10 N).map (48 + ·)).reverse
theorem textL_digs {N : Int} (h : 0 ≤ N) : DigL (textL N) := by
  unfold textL
  split
  · intro x hx; rw [List.mem_singleton.1 hx]; omega
  · intro x hx
    rw [List.mem_reverse, List.mem_map] at hx
    obtain ⟨y, hy, rfl⟩ := hx
    have := (lim_can (by decide : (2 : Int) ≤ 10) h).1 y hy
    omega
theorem textL_val {N : Int} (h : 0 ≤ N) : valS (textL N) = N := by
  unfold textL
  split
  · rename_i e; rw [e]; rfl
  · rw [valS, List.map_reverse, List.reverse_reverse, List.map_map]
    have e : ((fun x => x - 48) ∘ fun x => 48 + x) = (id : Int → Int) := by
      funext x; simp; omega
    rw [e, List.map_id, val_lim (by decide) h]
theorem textL_first {N : Int} (h : 0 ≤ N) : (textL N).length = 1 ∨ (textL N).getD 0 0 ≠ 48 := by
  unfold textL
  split
  · exact .inl rfl
  · rename_i hne
    right
    have hp : 0 < N := by omega
    have hl := (lim_pos (by decide : (2 : Int) ≤ 10) h).2 hp
    have hc := (lim_can (by decide : (2 : Int) ≤ 10) h).2
    rw [List.getLast?_eq_getElem?] at hc
    rw [List.getD_eq_getElem?_getD, List.getElem?_reverse (by simpa using hl), List.length_map, List.getElem?_map]
    rw [List.getElem?_eq_getElem (by omega)] at hc ⊢
    simp at hc ⊢
    intro e
    apply hc
    have : (lim 10 N)[(lim 10 N).length - 1 - 0] = 0 := by
      have := e
      omega
    simpa using this
theorem textL_len {N : Int} {k : Nat} (h0 : 0 ≤ N) (h : N < 4294967296 ^ k) : 1 ≤ (textL N).length ∧ (textL N).length ≤ 10 * k + 1 := by
  unfold textL
  split
  · exact ⟨by decide, by simp⟩
  · rename_i hne
    have hl := (lim_pos (by decide : (2 : Int) ≤ 10) h0).2 (by omega)
    have := ten_len h0 h
    simp
    omega
def slashF (l : List Int) : Nat := (l.takeWhile (fun x => decide (x ≠ 47))).length
def slashK (l : List Int) (k : Nat) : Nat := (l.length - k) + slashF (l.drop (l.length - k))
theorem slash_zero (l : List Int) : slashK l 0 = l.length := by simp [slashK, slashF]
theorem slash_all (l : List Int) : slashK l l.length = slashF l := by simp [slashK]
theorem slash_step {l : List Int} {k i : Nat} (hi : l.length - (k + 1) = i) (hk : k < l.length) : slashK l (k + 1) = if l.getD i 0 = 47 then i else slashK l k := by
  have e1 : l.length - k = i + 1 := by omega
  have hil : i < l.length := by omega
  rw [slashK, slashK, hi, e1, List.getD_eq_getElem?_getD, List.getElem?_eq_getElem hil, List.drop_eq_getElem_cons hil]
  simp only [Option.getD_some, slashF, List.takeWhile_cons]
  by_cases h : l[i] = 47
  · simp [h]
  · simp [h]; omega
theorem slash_le (l : List Int) (k : Nat) : slashK l k ≤ l.length := by
  have : slashF (l.drop (l.length - k)) ≤ (l.drop (l.length - k)).length := List.Sublist.length_le (List.takeWhile_sublist _)
  rw [List.length_drop] at this
  unfold slashK; omega
theorem slash_none {l : List Int} (h : DigL l) : slashF l = l.length := by
  induction l with
  | nil => rfl
  | cons x l ih =>
    have hx := h x (by simp)
    have ih' := ih fun y hy => h y (List.mem_cons_of_mem _ hy)
    unfold slashF at ih' ⊢
    rw [List.takeWhile_cons, if_pos (by simp; omega), List.length_cons, ih', List.length_cons]
theorem slash_at {a d : List Int} (h : DigL a) : slashF (a ++ 47 :: d) = a.length := by
  unfold slashF
  rw [List.takeWhile_append_of_pos (fun x hx => by have := h x hx; simp; omega)]
  simp
end Go.SX.We.Nm
