/- Parts of the proof, one after the other: WeSs WeE WeDb. -/
import Derived.Test.YtgbnkmhabhgigaaM6
import Derived.Test.YtgbnkmhabhgigaaM13
/- Chapter 08: the sums of all subsets in other orders. -/
namespace Go.SX.We

/-- The sets in the order of their numbers. -/
def sets : Nat → List (List Int)
  | 0 => [[]]
  | k + 1 => sets k ++ (sets k).map (· ++ [(k : Int)])
/-- The sums of all subsets, by their numbers. -/
def ssR : List Int → List Int → List Int
  | out, [] => out
  | out, v :: r => ssR (out ++ out.map (· + v)) r
def sumsR (w : List Int) : List Int := ssR [0] w

theorem ris_snoc {k : Nat} : {t : List Int} → {a : Nat} → a ≤ k → Ris a k t → Ris a (k + 1) (t ++ [(k : Int)])
  | [], a, h, _ => ⟨by omega, by omega, trivial⟩
  | i :: t, a, h, ⟨h1, h2, h3⟩ => ⟨h1, by omega, ris_snoc (by omega) h3⟩
theorem ris_up {k : Nat} : {t : List Int} → {a : Nat} → Ris a k t → Ris a (k + 1) t
  | [], _, _ => trivial
  | i :: t, a, ⟨h1, h2, h3⟩ => ⟨h1, by omega, ris_up h3⟩
theorem ris_split {k : Nat} : {t : List Int} → {a : Nat} → a ≤ k → Ris a (k + 1) t → Ris a k t ∨ ∃ u, t = u ++ [(k : Int)] ∧ Ris a k u
  | [], _, _, _ => .inl trivial
  | i :: t, a, h, ⟨h1, h2, h3⟩ => by
    by_cases hi : i = (k : Int)
    · subst hi
      have : t = [] := by
        cases t with
        | nil => rfl
        | cons j t => obtain ⟨q1, q2, _⟩ := h3; omega
      subst this
      exact .inr ⟨[], rfl, trivial⟩
    · rcases ris_split (show i.toNat + 1 ≤ k by omega) h3 with h4 | ⟨u, rfl, h4⟩
      · exact .inl ⟨h1, by omega, h4⟩
      · exact .inr ⟨i :: u, rfl, h1, by omega, h4⟩
theorem mem_sets : ∀ {k : Nat} {t : List Int}, t ∈ sets k ↔ Ris 0 k t
  | 0, t => by
    unfold sets
    rw [List.mem_singleton]
    constructor
    · rintro rfl; trivial
    · intro h
      cases t with
      | nil => rfl
      | cons i t => obtain ⟨h1, h2, _⟩ := h; omega
  | k + 1, t => by
    unfold sets
    rw [List.mem_append, List.mem_map, mem_sets]
    constructor
    · rintro (h | ⟨u, hu, rfl⟩)
      · exact ris_up h
      · exact ris_snoc (Nat.zero_le k) (mem_sets.1 hu)
    · intro h
      rcases ris_split (Nat.zero_le k) h with h1 | ⟨u, rfl, h1⟩
      · exact .inl h1
      · exact .inr ⟨u, mem_sets.2 h1, rfl⟩
theorem sets_length : ∀ k, (sets k).length = 2 ^ k
  | 0 => rfl
  | k + 1 => by rw [sets, List.length_append, List.length_map, sets_length k, Nat.pow_succ]; omega
theorem sets_nodup : ∀ k, (sets k).Nodup
  | 0 => by simp [sets]
  | k + 1 => by
    have ih := sets_nodup k
    unfold sets
    rw [List.nodup_append]
    refine ⟨ih, List.pairwise_map.2 (ih.imp fun hab e => hab (by simpa using e)), ?_⟩
    intro a ha b hb e
    obtain ⟨u, _, rfl⟩ := List.mem_map.1 hb
    have := Ris.lo (mem_sets.1 ha) (k : Int) (by rw [e]; simp)
    omega
theorem sets_perm (N : Nat) : (sets N).Perm (lists N) := by
  rw [List.perm_ext_iff_of_nodup (sets_nodup N) (lists_nodup N)]
  intro t
  rw [mem_sets, mem_lists]
theorem sumAt_ext {w w' : List Int} : ∀ t : List Int, (∀ i ∈ t, w.getD i.toNat 0 = w'.getD i.toNat 0) → sumAt w t = sumAt w' t
  | [], _ => rfl
  | i :: t, h => by
    unfold sumAt
    rw [h i (by simp), sumAt_ext t fun j hj => h j (List.mem_cons_of_mem _ hj)]
theorem sumAt_more {w : List Int} (v : Int) {t : List Int} (h : Ris 0 w.length t) : sumAt (w ++ [v]) t = sumAt w t :=
  sumAt_ext t fun i hi => by
    have := Ris.lo h i hi
    simp [List.getD, List.getElem?_append_left (show i.toNat < w.length by omega)]
theorem sums_snoc (w : List Int) (v : Int) : (sets (w.length + 1)).map (sumAt (w ++ [v])) = (sets w.length).map (sumAt w) ++ ((sets w.length).map (sumAt w)).map (· + v) := by
  rw [sets, List.map_append, List.map_map, List.map_map]
  congr 1
  · exact List.map_congr_left fun t ht => sumAt_more v (mem_sets.1 ht)
  · refine List.map_congr_left fun t ht => ?_
    simp only [Function.comp]
    rw [sumAt_append, sumAt_more v (mem_sets.1 ht)]
    simp [sumAt]
theorem ssR_eq : ∀ (r w : List Int), ssR ((sets w.length).map (sumAt w)) r = (sets (w ++ r).length).map (sumAt (w ++ r))
  | [], w => by simp [ssR]
  | v :: r, w => by
    rw [ssR, ← sums_snoc]
    have := ssR_eq r (w ++ [v])
    rw [List.length_append, List.length_singleton, List.append_assoc] at this
    exact this
theorem sumsR_eq (w : List Int) : sumsR w = (sets w.length).map (sumAt w) := by
  have := ssR_eq w []
  unfold sumsR
  simpa [sets, sumAt] using this
theorem sumsR_perm (w : List Int) : (sumsR w).Perm (sumsF w) := by
  rw [sumsR_eq]
  have e : sumsF w = (lists w.length).map (sumAt w) := by unfold sumsF; rw [subsF_eq, List.map_map]; rfl
  rw [e]
  exact (sets_perm _).map _
theorem dist_sums (w : List Int) : distF w = true ↔ (sumsR w).Nodup := by rw [distF_iff, (sumsR_perm w).nodup_iff]

/-! ### By the first weight -/

def ss : List Int → List Int
  | [] => [0]
  | v :: r => ss r ++ (ss r).map (· + v)
theorem ssR_append (a b : List Int) : ∀ r : List Int, (ssR (a ++ b) r).Perm (ssR a r ++ ssR b r)
  | [] => List.Perm.refl _
  | v :: r => by
    rw [ssR, ssR, ssR]
    have e : (a ++ b ++ (a ++ b).map (· + v)).Perm ((a ++ a.map (· + v)) ++ (b ++ b.map (· + v))) := by
      rw [List.map_append]
      simp only [List.append_assoc]
      refine List.Perm.append_left a ?_
      simp only [← List.append_assoc]
      exact List.Perm.append_right _ List.perm_append_comm
    have h : ∀ (r : List Int) {x y : List Int}, x.Perm y → (ssR x r).Perm (ssR y r) := by
      intro r
      induction r with
      | nil => intro x y h; exact h
      | cons v r ih => intro x y h; exact ih (h.append (h.map _))
    exact (h r e).trans (ssR_append _ _ r)
theorem ssR_map (v : Int) : ∀ (r a : List Int), ssR (a.map (· + v)) r = (ssR a r).map (· + v)
  | [], _ => rfl
  | u :: r, a => by
    rw [ssR, ssR, ← ssR_map v r, List.map_append, List.map_map, List.map_map]
    congr 2
    refine List.map_congr_left fun x _ => ?_
    simp only [Function.comp]; omega
theorem ss_perm : ∀ w : List Int, (sumsR w).Perm (ss w)
  | [] => List.Perm.refl _
  | v :: r => by
    unfold sumsR
    rw [ssR, ss]
    refine (ssR_append _ _ r).trans ?_
    rw [ssR_map v r]
    exact (ss_perm r).append ((ss_perm r).map _)
theorem dist_ss (w : List Int) : distF w = true ↔ (ss w).Nodup := by rw [dist_sums, (ss_perm w).nodup_iff]
theorem ss_sublist : {a b : List Int} → List.Sublist a b → List.Sublist (ss a) (ss b)
  | _, _, .slnil => List.Sublist.refl _
  | _, _, .cons v h => by
    rw [ss]
    exact (ss_sublist h).trans (List.sublist_append_left _ _)
  | _, _, .cons_cons v h => by
    rw [ss, ss]
    exact (ss_sublist h).append ((ss_sublist h).map _)
theorem dist_part {a b : List Int} (h : List.Sublist a b) (hb : distF b = true) : distF a = true := (dist_ss a).2 (List.Nodup.sublist (ss_sublist h) ((dist_ss b).1 hb))
theorem ss_mul (c : Int) : ∀ w : List Int, ss (w.map (· * c)) = (ss w).map (· * c)
  | [] => by simp [ss]
  | v :: r => by
    rw [List.map_cons, ss, ss, ss_mul c r, List.map_append, List.map_map, List.map_map]
    congr 1
    refine List.map_congr_left fun x _ => ?_
    simp only [Function.comp, Int.add_mul]
theorem dist_mul {c : Int} (hc : 0 < c) (w : List Int) : distF (w.map (· * c)) = distF w := by
  rw [Bool.eq_iff_iff, dist_ss, dist_ss, ss_mul]
  unfold List.Nodup
  rw [List.pairwise_map]
  constructor
  · exact fun h => h.imp fun hab e => hab (by rw [e])
  · exact fun h => h.imp fun hab e => hab (Int.eq_of_mul_eq_mul_right (by omega) e)
/-- By the last weight. -/
theorem sumsR_snoc (w : List Int) (v : Int) : sumsR (w ++ [v]) = sumsR w ++ (sumsR w).map (· + v) := by
  rw [sumsR_eq, sumsR_eq, ← sums_snoc, List.length_append, List.length_singleton]
theorem sumsR_length (w : List Int) : (sumsR w).length = 2 ^ w.length := by rw [sumsR_eq, List.length_map, sets_length]
theorem dist_snoc {w : List Int} {v S : Int} (hd : distF w = true) (hb : ∀ s ∈ sumsR w, 0 ≤ s ∧ s ≤ S) (hv : S < v) : distF (w ++ [v]) = true := by
  rw [dist_sums] at hd ⊢
  rw [sumsR_snoc, List.nodup_append]
  refine ⟨hd, List.pairwise_map.2 (hd.imp fun hab e => hab (by omega)), ?_⟩
  intro a ha b hb' e
  obtain ⟨s, hs, rfl⟩ := List.mem_map.1 hb'
  have := hb a ha
  have := hb s hs
  omega
end Go.SX.We

/- Chapter 08: distinct sums and squares (Erdos and Moser). -/
namespace Go.SX.We

def sm : List Int → Int
  | [] => 0
  | x :: r => x + sm r
def sq : List Int → Int
  | [] => 0
  | x :: r => x * x + sq r
def vr (l : List Int) : Int := (l.length : Int) * sq l - sm l * sm l
theorem sm_append (a b : List Int) : sm (a ++ b) = sm a + sm b := by
  induction a with
  | nil => simp [sm]
  | cons x a ih => simp only [List.cons_append, sm, ih]; omega
theorem sq_append (a b : List Int) : sq (a ++ b) = sq a + sq b := by
  induction a with
  | nil => simp [sq]
  | cons x a ih => simp only [List.cons_append, sq, ih]; omega
theorem sm_shift (v : Int) (l : List Int) : sm (l.map (· + v)) = sm l + (l.length : Int) * v := by
  induction l with
  | nil => simp [sm]
  | cons x l ih => simp only [List.map_cons, sm, ih, List.length_cons]; push_cast; grind
theorem sq_shift (v : Int) (l : List Int) : sq (l.map (· + v)) = sq l + 2 * v * sm l + (l.length : Int) * (v * v) := by
  induction l with
  | nil => simp [sq, sm]
  | cons x l ih => simp only [List.map_cons, sq, sm, ih, List.length_cons]; push_cast; grind
theorem ss_length (w : List Int) : (ss w).length = 2 ^ w.length := by rw [← (ss_perm w).length_eq, sumsR_length]
/-- The spread of the sums. -/
theorem vr_ss : ∀ w : List Int, 4 * vr (ss w) = ((ss w).length : Int) * ((ss w).length : Int) * sq w
  | [] => by simp [vr, ss, sq, sm]
  | v :: r => by
    have ih := vr_ss r
    unfold vr at ih ⊢
    rw [ss, sm_append, sq_append, sm_shift, sq_shift, List.length_append, List.length_map, sq]
    push_cast
    generalize ((ss r).length : Int) = N at *
    generalize sq (ss r) = B at *
    generalize sm (ss r) = A at *
    generalize sq r = Q at *
    grind
theorem sm_perm {a b : List Int} (h : a.Perm b) : sm a = sm b := by
  induction h with
  | nil => rfl
  | cons x _ ih => simp only [sm, ih]
  | swap x y l => simp only [sm]; omega
  | trans _ _ h1 h2 => exact h1.trans h2
theorem sq_perm {a b : List Int} (h : a.Perm b) : sq a = sq b := by
  induction h with
  | nil => rfl
  | cons x _ ih => simp only [sq, ih]
  | swap x y l => simp only [sq]; omega
  | trans _ _ h1 h2 => exact h1.trans h2
theorem vr_perm {a b : List Int} (h : a.Perm b) : vr a = vr b := by unfold vr; rw [h.length_eq, sm_perm h, sq_perm h]

/-- Sums of squares of differences to x. -/
def dq (x : Int) : List Int → Int
  | [] => 0
  | y :: r => (y - x) * (y - x) + dq x r
theorem dq_eq (x : Int) : ∀ r : List Int, dq x r = sq r - 2 * x * sm r + (r.length : Int) * (x * x)
  | [] => by simp [dq, sq, sm]
  | y :: r => by
    rw [dq, dq_eq x r, sq, sm, List.length_cons]
    push_cast
    grind
theorem vr_cons (x : Int) (r : List Int) : vr (x :: r) = vr r + dq x r := by
  rw [dq_eq]
  unfold vr
  rw [sq, sm, List.length_cons]
  push_cast
  grind
def tq : Int → Nat → Int
  | _, 0 => 0
  | k, n + 1 => k * k + tq (k + 1) n
theorem tq_eq : ∀ (n : Nat) (k : Int), 6 * tq k n = (n : Int) * (6 * k * k + 6 * k * ((n : Int) - 1) + ((n : Int) - 1) * (2 * (n : Int) - 1))
  | 0, k => by simp [tq]
  | n + 1, k => by
    have ih := tq_eq n (k + 1)
    rw [tq]
    push_cast
    grind
theorem sq_mono {a b : Int} (h0 : 0 ≤ a) (h : a ≤ b) : a * a ≤ b * b := Int.mul_le_mul h h h0 (by omega)
theorem dq_low (x : Int) : ∀ (r : List Int) (k : Int), 0 ≤ k → r.Pairwise (· < ·) → (∀ y ∈ r, x + k ≤ y) → tq k r.length ≤ dq x r
  | [], _, _, _, _ => by simp [tq, dq]
  | y :: r, k, hk, hp, hx => by
    rw [List.pairwise_cons] at hp
    have hy := hx y (by simp)
    have ih := dq_low x r (k + 1) (by omega) hp.2 fun z hz => by have := hp.1 z hz; omega
    have := sq_mono hk (show k ≤ y - x by omega)
    rw [List.length_cons, tq, dq]
    omega
/-- Different numbers are spread. -/
theorem vr_low : ∀ r : List Int, r.Pairwise (· < ·) → (r.length : Int) * r.length * (r.length * r.length - 1) ≤ 12 * vr r
  | [], _ => by simp [vr, sq, sm]
  | x :: r, hp => by
    rw [List.pairwise_cons] at hp
    have ih := vr_low r hp.2
    have h1 := dq_low x r 1 (by omega) hp.2 fun y hy => by have := hp.1 y hy; omega
    have h2 := tq_eq r.length 1
    rw [vr_cons, List.length_cons]
    push_cast
    generalize (r.length : Int) = N at *
    generalize tq 1 r.length = T at *
    have e : (N + 1) * (N + 1) * ((N + 1) * (N + 1) - 1) = N * N * (N * N - 1) + 2 * (N * (6 * 1 * 1 + 6 * 1 * (N - 1) + (N - 1) * (2 * N - 1))) := by grind
    rw [e]
    omega
theorem sorted_strict {l : List Int} (h : l.Nodup) : (sortF l).Pairwise (· < ·) := by
  have h1 := sortF_sorted l
  have h2 : (sortF l).Nodup := (sortF_perm l).nodup_iff.2 h
  unfold List.Nodup at h2
  exact (List.pairwise_and_iff.2 ⟨h1, h2⟩).imp fun ⟨a, b⟩ => by omega
theorem erdos {w : List Int} (h : distF w = true) : (4 : Int) ^ w.length - 1 ≤ 3 * sq w := by
  have hn := (dist_ss w).1 h
  have h1 := vr_low _ (sorted_strict hn)
  rw [vr_perm (sortF_perm (ss w)), (sortF_perm (ss w)).length_eq] at h1
  have h2 := vr_ss w
  have hl : ((ss w).length : Int) = 2 ^ w.length := by rw [ss_length]; push_cast; rfl
  rw [hl] at h1 h2
  have hp : (0 : Int) < 2 ^ w.length := Int.pow_pos (by decide)
  have h4 : (4 : Int) ^ w.length = 2 ^ w.length * 2 ^ w.length := by
    rw [← Int.mul_pow]; rfl
  rw [h4]
  generalize (2 : Int) ^ w.length = N at *
  have hN : 0 < N * N := Int.mul_pos hp hp
  have h5 : N * N * (N * N - 1) ≤ N * N * (3 * sq w) := by
    have e : N * N * (3 * sq w) = 3 * (N * N * sq w) := by grind
    rw [e]; omega
  exact Int.le_of_mul_le_mul_left h5 hN
end Go.SX.We

/- Chapter 08: distinct weights from numbers, in plain words. -/
namespace Go.SX.We

/-! ### Sums as the bits of a number -/

def bm : List Int → Nat
  | [] => 1
  | v :: r => bm r ||| (bm r <<< v.toNat)
def bmOk : List Int → Bool
  | [] => true
  | v :: r => decide (0 ≤ v) && bmOk r && decide (bm r &&& (bm r <<< v.toNat) = 0)
theorem bm_mem : ∀ w : List Int, bmOk w = true → (∀ s ∈ ss w, 0 ≤ s) ∧ (∀ n : Nat, (bm w).testBit n = true ↔ (n : Int) ∈ ss w) ∧ (ss w).Nodup
  | [], _ => by
    refine ⟨fun s h => by simp [ss] at h; omega, fun n => ?_, by simp [ss]⟩
    unfold bm ss
    rw [show (1 : Nat) = 2 ^ 0 from rfl, Nat.testBit_two_pow]
    simp
    omega
  | v :: r, h => by
    simp only [bmOk, Bool.and_eq_true, decide_eq_true_eq] at h
    obtain ⟨⟨hv, hr⟩, hz⟩ := h
    obtain ⟨i1, i2, i3⟩ := bm_mem r hr
    refine ⟨fun s hs => ?_, fun n => ?_, ?_⟩
    · rw [ss, List.mem_append] at hs
      rcases hs with hs | hs
      · exact i1 s hs
      · obtain ⟨u, hu, rfl⟩ := List.mem_map.1 hs
        have := i1 u hu; omega
    · rw [bm, ss, Nat.testBit_or, Nat.testBit_shiftLeft, List.mem_append, List.mem_map, Bool.or_eq_true, Bool.and_eq_true, decide_eq_true_eq, i2, i2]
      constructor
      · rintro (h | ⟨h1, h2⟩)
        · exact .inl h
        · exact .inr ⟨_, h2, by omega⟩
      · rintro (h | ⟨u, hu, he⟩)
        · exact .inl h
        · have := i1 u hu
          refine .inr ⟨by omega, ?_⟩
          have e : ((n - v.toNat : Nat) : Int) = u := by omega
          rw [e]; exact hu
    · rw [ss, List.nodup_append]
      refine ⟨i3, List.pairwise_map.2 (i3.imp fun hab e => hab (by omega)), ?_⟩
      intro a ha b hb e
      obtain ⟨u, hu, rfl⟩ := List.mem_map.1 hb
      have ha0 := i1 a ha
      have hu0 := i1 u hu
      have e1 : ((a.toNat : Nat) : Int) = a := by omega
      have t1 : (bm r).testBit a.toNat = true := (i2 _).2 (by rw [e1]; exact ha)
      have t2 : (bm r <<< v.toNat).testBit a.toNat = true := by
        rw [Nat.testBit_shiftLeft, Bool.and_eq_true, decide_eq_true_eq]
        refine ⟨by omega, (i2 _).2 ?_⟩
        have e2 : ((a.toNat - v.toNat : Nat) : Int) = u := by omega
        rw [e2]; exact hu
      have : (bm r &&& (bm r <<< v.toNat)).testBit a.toNat = true := by rw [Nat.testBit_and, t1, t2]; rfl
      rw [hz] at this
      simp at this
theorem dist_bm {w : List Int} (h : bmOk w = true) : distF w = true := (dist_ss w).2 (bm_mem w h).2.2
theorem set_bm : ∀ n, n < 13 → bmOk (setF n) = true := by decide +kernel
theorem dist_set {n : Nat} (h : n ≤ 12) : distF (setF n) = true := dist_bm (set_bm n (by omega))
theorem set_wts : ∀ n, n < 13 → 0 < n → checkF (setF n) 12 = 0 ∧ (setF n).getD (n - 1) 0 = guyF n ∧ guyF n ≤ 2 ^ (n - 1) := by decide +kernel

/-! ### doubled -/

def dbS (x : List Int) : Nat → Int
  | 0 => 0
  | k + 1 => dbS x k + (dbS x k + 1 + x.getD k 0 % 12)
def dbL (x : List Int) (k : Nat) : List Int := (List.range k).map fun i => dbS x i + 1 + x.getD i 0 % 12
def byF (x : List Int) : Int := if x = [] then 1 else x.getD 0 0 % 40 + 1
def dblF (x : List Int) (guy : Bool) : List Int :=
  bif guy then (setF (min x.length 11 + 1)).map (· * byF x) else bif decide (min x.length 12 = 0) then [1] else dbL x (min x.length 12)
theorem dbL_length (x : List Int) (k : Nat) : (dbL x k).length = k := by simp [dbL]
theorem dbL_snoc (x : List Int) (k : Nat) : dbL x (k + 1) = dbL x k ++ [dbS x k + 1 + x.getD k 0 % 12] := by simp [dbL, List.range_succ]
theorem dbS_small (x : List Int) : ∀ k, 0 ≤ dbS x k ∧ dbS x k + 12 ≤ 12 * 2 ^ k
  | 0 => by simp [dbS]
  | k + 1 => by
    have := dbS_small x k
    rw [dbS, Int.pow_succ]
    omega
theorem dbL_sums (x : List Int) : ∀ k, ∀ s ∈ sumsR (dbL x k), 0 ≤ s ∧ s ≤ dbS x k
  | 0, s, h => by
    have : s = 0 := by simpa [sumsR, dbL, ssR] using h
    subst this; simp [dbS]
  | k + 1, s, h => by
    have ih := dbL_sums x k
    have h0 := dbS_small x k
    rw [dbL_snoc, sumsR_snoc, List.mem_append] at h
    rw [dbS]
    rcases h with h | h
    · have := ih s h; omega
    · obtain ⟨u, hu, rfl⟩ := List.mem_map.1 h
      have := ih u hu; omega
theorem dist_dbL (x : List Int) : ∀ k, distF (dbL x k) = true
  | 0 => dist_bm rfl
  | k + 1 => by
    rw [dbL_snoc]
    exact dist_snoc (dist_dbL x k) (dbL_sums x k) (by have := dbS_small x k; omega)
theorem byF_pos (x : List Int) : 1 ≤ byF x ∧ byF x ≤ 40 := by unfold byF; split <;> omega
theorem dist_dbl (x : List Int) (g : Bool) : distF (dblF x g) = true := by
  unfold dblF
  cases g with
  | true =>
    simp only [cond_true]
    rw [dist_mul (by have := byF_pos x; omega)]
    exact dist_set (by omega)
  | false =>
    simp only [cond_false]
    by_cases h : min x.length 12 = 0
    · rw [decide_eq_true h]; exact dist_bm rfl
    · rw [decide_eq_false h]; exact dist_dbL x _
theorem pow2_12 : ∀ k, k < 13 → (1 : Int) ≤ 2 ^ k ∧ (2 : Int) ^ k ≤ 4096 := by decide +kernel
theorem setF_small {n : Nat} (h : n ≤ 12) : ∀ v ∈ setF n, -4096 ≤ v ∧ v ≤ 4096 := by
  have : ∀ n, n < 13 → ∀ v ∈ setF n, -4096 ≤ v ∧ v ≤ 4096 := by decide +kernel
  exact this n (by omega)
/-- The first k numbers times b. -/
def mulTo (b : Int) (l : List Int) (k : Nat) : List Int := (l.take k).map (· * b) ++ l.drop k
theorem mulTo_length (b : Int) (l : List Int) (k : Nat) : (mulTo b l k).length = l.length := by simp [mulTo]; omega
theorem mulTo_get (b : Int) {l : List Int} {k : Nat} (h : k < l.length) : (mulTo b l k).getD k 0 = l.getD k 0 := by
  unfold mulTo
  simp [List.getD, List.getElem?_append_right, show min k l.length = k by omega]
theorem mulTo_set (b : Int) {l : List Int} {k : Nat} (h : k < l.length) : (mulTo b l k).set k (l.getD k 0 * b) = mulTo b l (k + 1) := by
  unfold mulTo
  have e1 : (l.take (k + 1)) = l.take k ++ [l.getD k 0] := by rw [List.take_add_one]; simp [List.getD, List.getElem?_eq_getElem h]
  have e2 : l.drop k = l.getD k 0 :: l.drop (k + 1) := by rw [List.drop_eq_getElem_cons h]; simp [List.getD, List.getElem?_eq_getElem h]
  rw [e1, e2, List.map_append]
  have hl : ((l.take k).map (· * b)).length = k := by simp; omega
  rw [List.set_append_right _ _ (by omega), hl, Nat.sub_self]
  simp
end Go.SX.We
