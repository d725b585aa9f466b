/- Parts of the proof, one after the other: WeSs WeE WeDb We13 We13E We13Q. -/
import Derived.Test.YtgbnkmhabhgigaaM6
import Derived.Test.YtgbnkmhabhgigaaM12
/- Chapter 08: the sums of all subsets in other orders. -/
namespace Go.SX.We

/-- The sets in the order of their numbers. -/
def sets : Nat → List (List Int)
  | 0 => [[]]
  | k + 1 => sets k ++ (sets k).map (· ++ [(k : Int)])
/-- The sums of all subsets, by their numbers. -/
def ssR : List Int → List Int → List Int
  | out, [] => out
  | out, v :: r => ssR (out ++ out.map (· + v)) r
def sumsR (w : List Int) : List Int := ssR [0] w

theorem ris_snoc {k : Nat} : {t : List Int} → {a : Nat} → a ≤ k → Ris a k t → Ris a (k + 1) (t ++ [(k : Int)])
  | [], a, h, _ => ⟨by omega, by omega, trivial⟩
  | i :: t, a, h, ⟨h1, h2, h3⟩ => ⟨h1, by omega, ris_snoc (by omega) h3⟩
theorem ris_up {k : Nat} : {t : List Int} → {a : Nat} → Ris a k t → Ris a (k + 1) t
  | [], _, _ => trivial
  | i :: t, a, ⟨h1, h2, h3⟩ => ⟨h1, by omega, ris_up h3⟩
theorem ris_split {k : Nat} : {t : List Int} → {a : Nat} → a ≤ k → Ris a (k + 1) t → Ris a k t ∨ ∃ u, t = u ++ [(k : Int)] ∧ Ris a k u
  | [], _, _, _ => .inl trivial
  | i :: t, a, h, ⟨h1, h2, h3⟩ => by
    by_cases hi : i = (k : Int)
    · subst hi
      have : t = [] := by
        cases t with
        | nil => rfl
        | cons j t => obtain ⟨q1, q2, _⟩ := h3; omega
      subst this
      exact .inr ⟨[], rfl, trivial⟩
    · rcases ris_split (show i.toNat + 1 ≤ k by omega) h3 with h4 | ⟨u, rfl, h4⟩
      · exact .inl ⟨h1, by omega, h4⟩
      · exact .inr ⟨i :: u, rfl, h1, by omega, h4⟩
theorem mem_sets : ∀ {k : Nat} {t : List Int}, t ∈ sets k ↔ Ris 0 k t
  | 0, t => by
    unfold sets
    rw [List.mem_singleton]
    constructor
    · rintro rfl; trivial
    · intro h
      cases t with
      | nil => rfl
      | cons i t => obtain ⟨h1, h2, _⟩ := h; omega
  | k + 1, t => by
    unfold sets
    rw [List.mem_append, List.mem_map, mem_sets]
    constructor
    · rintro (h | ⟨u, hu, rfl⟩)
      · exact ris_up h
      · exact ris_snoc (Nat.zero_le k) (mem_sets.1 hu)
    · intro h
      rcases ris_split (Nat.zero_le k) h with h1 | ⟨u, rfl, h1⟩
      · exact .inl h1
      · exact .inr ⟨u, mem_sets.2 h1, rfl⟩
theorem sets_length : ∀ k, (sets k).length = 2 ^ k
  | 0 => rfl
  | k + 1 => by rw [sets, List.length_append, List.length_map, sets_length k, Nat.pow_succ]; omega
theorem sets_nodup : ∀ k, (sets k).Nodup
  | 0 => by simp [sets]
  | k + 1 => by
    have ih := sets_nodup k
    unfold sets
    rw [List.nodup_append]
    refine ⟨ih, List.pairwise_map.2 (ih.imp fun hab e => hab (by simpa using e)), ?_⟩
    intro a ha b hb e
    obtain ⟨u, _, rfl⟩ := List.mem_map.1 hb
    have := Ris.lo (mem_sets.1 ha) (k : Int) (by rw [e]; simp)
    omega
theorem sets_perm (N : Nat) : (sets N).Perm (lists N) := by
  rw [List.perm_ext_iff_of_nodup (sets_nodup N) (lists_nodup N)]
  intro t
  rw [mem_sets, mem_lists]
theorem sumAt_ext {w w' : List Int} : ∀ t : List Int, (∀ i ∈ t, w.getD i.toNat 0 = w'.getD i.toNat 0) → sumAt w t = sumAt w' t
  | [], _ => rfl
  | i :: t, h => by
    unfold sumAt
    rw [h i (by simp), sumAt_ext t fun j hj => h j (List.mem_cons_of_mem _ hj)]
theorem sumAt_more {w : List Int} (v : Int) {t : List Int} (h : Ris 0 w.length t) : sumAt (w ++ [v]) t = sumAt w t :=
  sumAt_ext t fun i hi => by
    have := Ris.lo h i hi
    simp [List.getD, List.getElem?_append_left (show i.toNat < w.length by omega)]
theorem sums_snoc (w : List Int) (v : Int) : (sets (w.length + 1)).map (sumAt (w ++ [v])) = (sets w.length).map (sumAt w) ++ ((sets w.length).map (sumAt w)).map (· + v) := by
  rw [sets, List.map_append, List.map_map, List.map_map]
  congr 1
  · exact List.map_congr_left fun t ht => sumAt_more v (mem_sets.1 ht)
  · refine List.map_congr_left fun t ht => ?_
    simp only [Function.comp]
    rw [sumAt_append, sumAt_more v (mem_sets.1 ht)]
    simp [sumAt]
theorem ssR_eq : ∀ (r w : List Int), ssR ((sets w.length).map (sumAt w)) r = (sets (w ++ r).length).map (sumAt (w ++ r))
  | [], w => by simp [ssR]
  | v :: r, w => by
    rw [ssR, ← sums_snoc]
    have := ssR_eq r (w ++ [v])
    rw [List.length_append, List.length_singleton, List.append_assoc] at this
    exact this
theorem sumsR_eq (w : List Int) : sumsR w = (sets w.length).map (sumAt w) := by
  have := ssR_eq w []
  unfold sumsR
  simpa [sets, sumAt] using this
theorem sumsR_perm (w : List Int) : (sumsR w).Perm (sumsF w) := by
  rw [sumsR_eq]
  have e : sumsF w = (lists w.length).map (sumAt w) := by unfold sumsF; rw [subsF_eq, List.map_map]; rfl
  rw [e]
  exact (sets_perm _).map _
theorem dist_sums (w : List Int) : distF w = true ↔ (sumsR w).Nodup := by rw [distF_iff, (sumsR_perm w).nodup_iff]

/-! ### By the first weight -/

def ss : List Int → List Int
  | [] => [0]
  | v :: r => ss r ++ (ss r).map (· + v)
theorem ssR_append (a b : List Int) : ∀ r : List Int, (ssR (a ++ b) r).Perm (ssR a r ++ ssR b r)
  | [] => List.Perm.refl _
  | v :: r => by
    rw [ssR, ssR, ssR]
    have e : (a ++ b ++ (a ++ b).map (· + v)).Perm ((a ++ a.map (· + v)) ++ (b ++ b.map (· + v))) := by
      rw [List.map_append]
      simp only [List.append_assoc]
      refine List.Perm.append_left a ?_
      simp only [← List.append_assoc]
      exact List.Perm.append_right _ List.perm_append_comm
    have h : ∀ (r : List Int) {x y : List Int}, x.Perm y → (ssR x r).Perm (ssR y r) := by
      intro r
      induction r with
      | nil => intro x y h; exact h
      | cons v r ih => intro x y h; exact ih (h.append (h.map _))
    exact (h r e).trans (ssR_append _ _ r)
theorem ssR_map (v : Int) : ∀ (r a : List Int), ssR (a.map (· + v)) r = (ssR a r).map (· + v)
  | [], _ => rfl
  | u :: r, a => by
    rw [ssR, ssR, ← ssR_map v r, List.map_append, List.map_map, List.map_map]
    congr 2
    refine List.map_congr_left fun x _ => ?_
    simp only [Function.comp]; omega
theorem ss_perm : ∀ w : List Int, (sumsR w).Perm (ss w)
  | [] => List.Perm.refl _
  | v :: r => by
    unfold sumsR
    rw [ssR, ss]
    refine (ssR_append _ _ r).trans ?_
    rw [ssR_map v r]
    exact (ss_perm r).append ((ss_perm r).map _)
theorem dist_ss (w : List Int) : distF w = true ↔ (ss w).Nodup := by rw [dist_sums, (ss_perm w).nodup_iff]
theorem ss_sublist : {a b : List Int} → List.Sublist a b → List.Sublist (ss a) (ss b)
  | _, _, .slnil => List.Sublist.refl _
  | _, _, .cons v h => by
    rw [ss]
    exact (ss_sublist h).trans (List.sublist_append_left _ _)
  | _, _, .cons_cons v h => by
    rw [ss, ss]
    exact (ss_sublist h).append ((ss_sublist h).map _)
theorem dist_part {a b : List Int} (h : List.Sublist a b) (hb : distF b = true) : distF a = true := (dist_ss a).2 (List.Nodup.sublist (ss_sublist h) ((dist_ss b).1 hb))
theorem ss_mul (c : Int) : ∀ w : List Int, ss (w.map (· * c)) = (ss w).map (· * c)
  | [] => by simp [ss]
  | v :: r => by
    rw [List.map_cons, ss, ss, ss_mul c r, List.map_append, List.map_map, List.map_map]
    congr 1
    refine List.map_congr_left fun x _ => ?_
    simp only [Function.comp, Int.add_mul]
theorem dist_mul {c : Int} (hc : 0 < c) (w : List Int) : distF (w.map (· * c)) = distF w := by
  rw [Bool.eq_iff_iff, dist_ss, dist_ss, ss_mul]
  unfold List.Nodup
  rw [List.pairwise_map]
  constructor
  · exact fun h => h.imp fun hab e => hab (by rw [e])
  · exact fun h => h.imp fun hab e => hab (Int.eq_of_mul_eq_mul_right (by omega) e)
/-- By the last weight. -/
theorem sumsR_snoc (w : List Int) (v : Int) : sumsR (w ++ [v]) = sumsR w ++ (sumsR w).map (· + v) := by
  rw [sumsR_eq, sumsR_eq, ← sums_snoc, List.length_append, List.length_singleton]
theorem sumsR_length (w : List Int) : (sumsR w).length = 2 ^ w.length := by rw [sumsR_eq, List.length_map, sets_length]
theorem dist_snoc {w : List Int} {v S : Int} (hd : distF w = true) (hb : ∀ s ∈ sumsR w, 0 ≤ s ∧ s ≤ S) (hv : S < v) : distF (w ++ [v]) = true := by
  rw [dist_sums] at hd ⊢
  rw [sumsR_snoc, List.nodup_append]
  refine ⟨hd, List.pairwise_map.2 (hd.imp fun hab e => hab (by omega)), ?_⟩
  intro a ha b hb' e
  obtain ⟨s, hs, rfl⟩ := List.mem_map.1 hb'
  have := hb a ha
  have := hb s hs
  omega
end Go.SX.We

/- Chapter 08: distinct sums and squares (Erdos and Moser). -/
namespace Go.SX.We

def sm : List Int → Int
  | [] => 0
  | x :: r => x + sm r
def sq : List Int → Int
  | [] => 0
  | x :: r => x * x + sq r
def vr (l : List Int) : Int := (l.length : Int) * sq l - sm l * sm l
theorem sm_append (a b : List Int) : sm (a ++ b) = sm a + sm b := by
  induction a with
  | nil => simp [sm]
  | cons x a ih => simp only [List.cons_append, sm, ih]; omega
theorem sq_append (a b : List Int) : sq (a ++ b) = sq a + sq b := by
  induction a with
  | nil => simp [sq]
  | cons x a ih => simp only [List.cons_append, sq, ih]; omega
theorem sm_shift (v : Int) (l : List Int) : sm (l.map (· + v)) = sm l + (l.length : Int) * v := by
  induction l with
  | nil => simp [sm]
  | cons x l ih => simp only [List.map_cons, sm, ih, List.length_cons]; push_cast; grind
theorem sq_shift (v : Int) (l : List Int) : sq (l.map (· + v)) = sq l + 2 * v * sm l + (l.length : Int) * (v * v) := by
  induction l with
  | nil => simp [sq, sm]
  | cons x l ih => simp only [List.map_cons, sq, sm, ih, List.length_cons]; push_cast; grind
theorem ss_length (w : List Int) : (ss w).length = 2 ^ w.length := by rw [← (ss_perm w).length_eq, sumsR_length]
/-- The spread of the sums. -/
theorem vr_ss : ∀ w : List Int, 4 * vr (ss w) = ((ss w).length : Int) * ((ss w).length : Int) * sq w
  | [] => by simp [vr, ss, sq, sm]
  | v :: r => by
    have ih := vr_ss r
    unfold vr at ih ⊢
    rw [ss, sm_append, sq_append, sm_shift, sq_shift, List.length_append, List.length_map, sq]
    push_cast
    generalize ((ss r).length : Int) = N at *
    generalize sq (ss r) = B at *
    generalize sm (ss r) = A at *
    generalize sq r = Q at *
    grind
theorem sm_perm {a b : List Int} (h : a.Perm b) : sm a = sm b := by
  induction h with
  | nil => rfl
  | cons x _ ih => simp only [sm, ih]
  | swap x y l => simp only [sm]; omega
  | trans _ _ h1 h2 => exact h1.trans h2
theorem sq_perm {a b : List Int} (h : a.Perm b) : sq a = sq b := by
  induction h with
  | nil => rfl
  | cons x _ ih => simp only [sq, ih]
  | swap x y l => simp only [sq]; omega
  | trans _ _ h1 h2 => exact h1.trans h2
theorem vr_perm {a b : List Int} (h : a.Perm b) : vr a = vr b := by unfold vr; rw [h.length_eq, sm_perm h, sq_perm h]

/-- Sums of squares of differences to x. -/
def dq (x : Int) : List Int → Int
  | [] => 0
  | y :: r => (y - x) * (y - x) + dq x r
theorem dq_eq (x : Int) : ∀ r : List Int, dq x r = sq r - 2 * x * sm r + (r.length : Int) * (x * x)
  | [] => by simp [dq, sq, sm]
  | y :: r => by
    rw [dq, dq_eq x r, sq, sm, List.length_cons]
    push_cast
    grind
theorem vr_cons (x : Int) (r : List Int) : vr (x :: r) = vr r + dq x r := by
  rw [dq_eq]
  unfold vr
  rw [sq, sm, List.length_cons]
  push_cast
  grind
def tq : Int → Nat → Int
  | _, 0 => 0
  | k, n + 1 => k * k + tq (k + 1) n
theorem tq_eq : ∀ (n : Nat) (k : Int), 6 * tq k n = (n : Int) * (6 * k * k + 6 * k * ((n : Int) - 1) + ((n : Int) - 1) * (2 * (n : Int) - 1))
  | 0, k => by simp [tq]
  | n + 1, k => by
    have ih := tq_eq n (k + 1)
    rw [tq]
    push_cast
    grind
theorem sq_mono {a b : Int} (h0 : 0 ≤ a) (h : a ≤ b) : a * a ≤ b * b := Int.mul_le_mul h h h0 (by omega)
theorem dq_low (x : Int) : ∀ (r : List Int) (k : Int), 0 ≤ k → r.Pairwise (· < ·) → (∀ y ∈ r, x + k ≤ y) → tq k r.length ≤ dq x r
  | [], _, _, _, _ => by simp [tq, dq]
  | y :: r, k, hk, hp, hx => by
    rw [List.pairwise_cons] at hp
    have hy := hx y (by simp)
    have ih := dq_low x r (k + 1) (by omega) hp.2 fun z hz => by have := hp.1 z hz; omega
    have := sq_mono hk (show k ≤ y - x by omega)
    rw [List.length_cons, tq, dq]
    omega
/-- Different numbers are spread. -/
theorem vr_low : ∀ r : List Int, r.Pairwise (· < ·) → (r.length : Int) * r.length * (r.length * r.length - 1) ≤ 12 * vr r
  | [], _ => by simp [vr, sq, sm]
  | x :: r, hp => by
    rw [List.pairwise_cons] at hp
    have ih := vr_low r hp.2
    have h1 := dq_low x r 1 (by omega) hp.2 fun y hy => by have := hp.1 y hy; omega
    have h2 := tq_eq r.length 1
    rw [vr_cons, List.length_cons]
    push_cast
    generalize (r.length : Int) = N at *
    generalize tq 1 r.length = T at *
    have e : (N + 1) * (N + 1) * ((N + 1) * (N + 1) - 1) = N * N * (N * N - 1) + 2 * (N * (6 * 1 * 1 + 6 * 1 * (N - 1) + (N - 1) * (2 * N - 1))) := by grind
    rw [e]
    omega
theorem sorted_strict {l : List Int} (h : l.Nodup) : (sortF l).Pairwise (· < ·) := by
  have h1 := sortF_sorted l
  have h2 : (sortF l).Nodup := (sortF_perm l).nodup_iff.2 h
  unfold List.Nodup at h2
  exact (List.pairwise_and_iff.2 ⟨h1, h2⟩).imp fun ⟨a, b⟩ => by omega
theorem erdos {w : List Int} (h : distF w = true) : (4 : Int) ^ w.length - 1 ≤ 3 * sq w := by
  have hn := (dist_ss w).1 h
  have h1 := vr_low _ (sorted_strict hn)
  rw [vr_perm (sortF_perm (ss w)), (sortF_perm (ss w)).length_eq] at h1
  have h2 := vr_ss w
  have hl : ((ss w).length : Int) = 2 ^ w.length := by rw [ss_length]; push_cast; rfl
  rw [hl] at h1 h2
  have hp : (0 : Int) < 2 ^ w.length := Int.pow_pos (by decide)
  have h4 : (4 : Int) ^ w.length = 2 ^ w.length * 2 ^ w.length := by
    rw [← Int.mul_pow]; rfl
  rw [h4]
  generalize (2 : Int) ^ w.length = N at *
  have hN : 0 < N * N := Int.mul_pos hp hp
  have h5 : N * N * (N * N - 1) ≤ N * N * (3 * sq w) := by
    have e : N * N * (3 * sq w) = 3 * (N * N * sq w) := by grind
    rw [e]; omega
  exact Int.le_of_mul_le_mul_left h5 hN
end Go.SX.We

/- Chapter 08: distinct weights from numbers, in plain words. -/
namespace Go.SX.We

/-! ### Sums as the bits of a number -/

def bm : List Int → Nat
  | [] => 1
  | v :: r => bm r ||| (bm r <<< v.toNat)
def bmOk : List Int → Bool
  | [] => true
  | v :: r => decide (0 ≤ v) && bmOk r && decide (bm r &&& (bm r <<< v.toNat) = 0)
theorem bm_mem : ∀ w : List Int, bmOk w = true → (∀ s ∈ ss w, 0 ≤ s) ∧ (∀ n : Nat, (bm w).testBit n = true ↔ (n : Int) ∈ ss w) ∧ (ss w).Nodup
  | [], _ => by
    refine ⟨fun s h => by simp [ss] at h; omega, fun n => ?_, by simp [ss]⟩
    unfold bm ss
    rw [show (1 : Nat) = 2 ^ 0 from rfl, Nat.testBit_two_pow]
    simp
    omega
  | v :: r, h => by
    simp only [bmOk, Bool.and_eq_true, decide_eq_true_eq] at h
    obtain ⟨⟨hv, hr⟩, hz⟩ := h
    obtain ⟨i1, i2, i3⟩ := bm_mem r hr
    refine ⟨fun s hs => ?_, fun n => ?_, ?_⟩
    · rw [ss, List.mem_append] at hs
      rcases hs with hs | hs
      · exact i1 s hs
      · obtain ⟨u, hu, rfl⟩ := List.mem_map.1 hs
        have := i1 u hu; omega
    · rw [bm, ss, Nat.testBit_or, Nat.testBit_shiftLeft, List.mem_append, List.mem_map, Bool.or_eq_true, Bool.and_eq_true, decide_eq_true_eq, i2, i2]
      constructor
      · rintro (h | ⟨h1, h2⟩)
        · exact .inl h
        · exact .inr ⟨_, h2, by omega⟩
      · rintro (h | ⟨u, hu, he⟩)
        · exact .inl h
        · have := i1 u hu
          refine .inr ⟨by omega, ?_⟩
          have e : ((n - v.toNat : Nat) : Int) = u := by omega
          rw [e]; exact hu
    · rw [ss, List.nodup_append]
      refine ⟨i3, List.pairwise_map.2 (i3.imp fun hab e => hab (by omega)), ?_⟩
      intro a ha b hb e
      obtain ⟨u, hu, rfl⟩ := List.mem_map.1 hb
      have ha0 := i1 a ha
      have hu0 := i1 u hu
      have e1 : ((a.toNat : Nat) : Int) = a := by omega
      have t1 : (bm r).testBit a.toNat = true := (i2 _).2 (by rw [e1]; exact ha)
      have t2 : (bm r <<< v.toNat).testBit a.toNat = true := by
        rw [Nat.testBit_shiftLeft, Bool.and_eq_true, decide_eq_true_eq]
        refine ⟨by omega, (i2 _).2 ?_⟩
        have e2 : ((a.toNat - v.toNat : Nat) : Int) = u := by omega
        rw [e2]; exact hu
      have : (bm r &&& (bm r <<< v.toNat)).testBit a.toNat = true := by rw [Nat.testBit_and, t1, t2]; rfl
      rw [hz] at this
      simp at this
theorem dist_bm {w : List Int} (h : bmOk w = true) : distF w = true := (dist_ss w).2 (bm_mem w h).2.2
theorem set_bm : ∀ n, n < 13 → bmOk (setF n) = true := by decide +kernel
theorem dist_set {n : Nat} (h : n ≤ 12) : distF (setF n) = true := dist_bm (set_bm n (by omega))
theorem set_wts : ∀ n, n < 13 → 0 < n → checkF (setF n) 12 = 0 ∧ (setF n).getD (n - 1) 0 = guyF n ∧ guyF n ≤ 2 ^ (n - 1) := by decide +kernel

/-! ### doubled -/

def dbS (x : List Int) : Nat → Int
  | 0 => 0
  | k + 1 => dbS x k + (dbS x k + 1 + x.getD k 0 % 12)
def dbL (x : List Int) (k : Nat) : List Int := (List.range k).map fun i => dbS x i + 1 + x.getD i 0 % 12
def byF (x : List Int) : Int := if x = [] then 1 else x.getD 0 0 % 40 + 1
def dblF (x : List Int) (guy : Bool) : List Int :=
  bif guy then (setF (min x.length 11 + 1)).map (· * byF x) else bif decide (min x.length 12 = 0) then [1] else dbL x (min x.length 12)
theorem dbL_length (x : List Int) (k : Nat) : (dbL x k).length = k := by simp [dbL]
theorem dbL_snoc (x : List Int) (k : Nat) : dbL x (k + 1) = dbL x k ++ [dbS x k + 1 + x.getD k 0 % 12] := by simp [dbL, List.range_succ]
theorem dbS_small (x : List Int) : ∀ k, 0 ≤ dbS x k ∧ dbS x k + 12 ≤ 12 * 2 ^ k
  | 0 => by simp [dbS]
  | k + 1 => by
    have := dbS_small x k
    rw [dbS, Int.pow_succ]
    omega
theorem dbL_sums (x : List Int) : ∀ k, ∀ s ∈ sumsR (dbL x k), 0 ≤ s ∧ s ≤ dbS x k
  | 0, s, h => by
    have : s = 0 := by simpa [sumsR, dbL, ssR] using h
    subst this; simp [dbS]
  | k + 1, s, h => by
    have ih := dbL_sums x k
    have h0 := dbS_small x k
    rw [dbL_snoc, sumsR_snoc, List.mem_append] at h
    rw [dbS]
    rcases h with h | h
    · have := ih s h; omega
    · obtain ⟨u, hu, rfl⟩ := List.mem_map.1 h
      have := ih u hu; omega
theorem dist_dbL (x : List Int) : ∀ k, distF (dbL x k) = true
  | 0 => dist_bm rfl
  | k + 1 => by
    rw [dbL_snoc]
    exact dist_snoc (dist_dbL x k) (dbL_sums x k) (by have := dbS_small x k; omega)
theorem byF_pos (x : List Int) : 1 ≤ byF x ∧ byF x ≤ 40 := by unfold byF; split <;> omega
theorem dist_dbl (x : List Int) (g : Bool) : distF (dblF x g) = true := by
  unfold dblF
  cases g with
  | true =>
    simp only [cond_true]
    rw [dist_mul (by have := byF_pos x; omega)]
    exact dist_set (by omega)
  | false =>
    simp only [cond_false]
    by_cases h : min x.length 12 = 0
    · rw [decide_eq_true h]; exact dist_bm rfl
    · rw [decide_eq_false h]; exact dist_dbL x _
theorem pow2_12 : ∀ k, k < 13 → (1 : Int) ≤ 2 ^ k ∧ (2 : Int) ^ k ≤ 4096 := by decide +kernel
theorem setF_small {n : Nat} (h : n ≤ 12) : ∀ v ∈ setF n, -4096 ≤ v ∧ v ≤ 4096 := by
  have : ∀ n, n < 13 → ∀ v ∈ setF n, -4096 ≤ v ∧ v ≤ 4096 := by decide +kernel
  exact this n (by omega)
/-- The first k numbers times b. -/
def mulTo (b : Int) (l : List Int) (k : Nat) : List Int := (l.take k).map (· * b) ++ l.drop k
theorem mulTo_length (b : Int) (l : List Int) (k : Nat) : (mulTo b l k).length = l.length := by simp [mulTo]; omega
theorem mulTo_get (b : Int) {l : List Int} {k : Nat} (h : k < l.length) : (mulTo b l k).getD k 0 = l.getD k 0 := by
  unfold mulTo
  simp [List.getD, List.getElem?_append_right, show min k l.length = k by omega]
theorem mulTo_set (b : Int) {l : List Int} {k : Nat} (h : k < l.length) : (mulTo b l k).set k (l.getD k 0 * b) = mulTo b l (k + 1) := by
  unfold mulTo
  have e1 : (l.take (k + 1)) = l.take k ++ [l.getD k 0] := by rw [List.take_add_one]; simp [List.getD, List.getElem?_eq_getElem h]
  have e2 : l.drop k = l.getD k 0 :: l.drop (k + 1) := by rw [List.drop_eq_getElem_cons h]; simp [List.getD, List.getElem?_eq_getElem h]
  rw [e1, e2, List.map_append]
  have hl : ((l.take k).map (· * b)).length = k := by simp; omega
  rw [List.set_append_right _ _ (by omega), hl, Nat.sub_self]
  simp
end Go.SX.We

/- Chapter 08: the law of Erdos, what is asked. -/
namespace Go.SX.We
open Go Go.Proofs
noncomputable section
@[reducible] def p37 : PC := ⟨37, [aWs, aB], [aIs], fun p => ∀ v ∈ p.1, 0 ≤ v ∧ v ≤ 65535, fun p => dblF p.1 p.2⟩
@[reducible] def A37a (b : Int) (l : List Int) : Ann where
  τ := Nat
  pre := []
  preC := []
  keep := [6]
  slots k := [(7, .c (.int .i64 k)), (5, .c (.int .i64 b))]
  ents k := [(0, .row 3 (.int .i64) 1 (mulTo b l k))]
  ok k := k ≤ l.length
  m k := l.length - k
@[reducible] def A37b (x : List Int) : Ann where
  τ := Nat
  pre := []
  preC := []
  keep := [0]
  slots k := [(8, .c (.own 0 1)), (9, .c (.int .i64 (dbS x k))), (10, .c (.int .i64 k))]
  ents k := [(0, .row 3 (.int .i64) 0 (dbL x k))]
  ok k := k ≤ min x.length 12
  m k := min x.length 12 - k
@[reducible] def C37 (p : List Int × Bool) : Ctx := cx [inl 31 Try.f31 (C31 ((min p.1.length 11 + 1 : Nat) : Int))] [(0, fun _ => A37a (byF p.1) (setF (min p.1.length 11 + 1))), (1, fun _ => A37b p.1)]
def g37 (x : List Int) (g : Bool) : Prop := p37.VC (C37 (x, g)) Try.f37 (x, g)
@[reducible] def p9 : PC := ⟨9, [aWs, aU8], [aB], fun p => (∀ v ∈ p.1, 0 ≤ v ∧ v ≤ 65535) ∧ 0 ≤ p.2 ∧ p.2 ≤ 255, fun _ => true⟩
/-- The list of the law. -/
def lF (x : List Int) (k : Int) : List Int := if 0 < k % 3 then dblF x (decide (k % 3 = 1)) else madeF x 12
@[reducible] def C9 (p : List Int × Int) : Ctx := cx [p32.ci, p37.ci, p18.ci, p16.ci, p19.ci] [(0, fun _ => upToS (lF p.1 p.2).length 9 [1, 6, 7] (fun _ => True) fun k => [(8, .c (.int .i64 (sq ((lF p.1 p.2).take k)))), (5, .c (.ro (.int .i64) (lF p.1 p.2)))])]
def g9 (x : List Int) (k : Int) : Prop := p9.VC (C9 (x, k)) Try.f9 (x, k)
end
end Go.SX.We

/- Printed by VC.lean: what the executor asks. -/
namespace Go.SX.We
open Go Go.Proofs
theorem g37_eq (x : List Int) (g : Bool) : g37 x g = (
 (g = true →
 g = true ∧
 ((0 : Int) < (↑x.length : Int) →
 (0 : Int) < (↑x.length : Int) ∧
 ((0 : Int) ≤ (0 : Int) ∧ (0 : Int) < (↑x.length : Int)) ∧
 Fits IntKind.i64 (x.getD (Int.toNat (0 : Int)) (0 : Int)) ∧
 ((0 : Int) ≤ x.getD (Int.toNat (0 : Int)) (0 : Int) ∧ (0 : Int) < (40 : Int)) ∧
 Fits IntKind.i64 (x.getD (Int.toNat (0 : Int)) (0 : Int) % (40 : Int) + (1 : Int)) ∧
 Fits IntKind.i64 (min (↑x.length : Int) (11 : Int) + (1 : Int)) ∧
 min (↑x.length : Int) (11 : Int) + (1 : Int) ≤ (60 : Int) ∧
 Fits IntKind.i64 (min (↑x.length : Int) (11 : Int) + (1 : Int) - (1 : Int)) ∧
 (∃ (x0 : Nat),
 x0 ≤ (↑(min x.length (11 : Nat) + (1 : Nat)) : Int).toNat ∧
 (nilT Int =
 List.map
 (fun (j : Nat) =>
 guyF (↑(min x.length (11 : Nat) + (1 : Nat)) : Int).toNat - guyF ((↑(min x.length (11 : Nat) + (1 : Nat)) : Int).toNat - (1 : Nat) - j))
 (List.range x0) ∧
 True) ∧
 True ∧
 min (↑x.length : Int) (11 : Int) + (1 : Int) - (1 : Int) =
 (↑(↑(min x.length (11 : Nat) + (1 : Nat)) : Int).toNat : Int) - (1 : Int) - (↑x0 : Int) ∧
 uL ((min (↑x.length : Int) (11 : Int) + (1 : Int)).toNat - (1 : Nat)) =
 uL ((min (↑x.length : Int) (11 : Int) + (1 : Int)).toNat - (1 : Nat)) ∧
 min (↑x.length : Int) (11 : Int) + (1 : Int) = min (↑x.length : Int) (11 : Int) + (1 : Int) ∧ True) ∧
 ∀ (x_1 : Nat),
 x_1 ≤ (↑(min x.length (11 : Nat) + (1 : Nat)) : Int).toNat →
 ((0 : Int) ≤ (↑(↑(min x.length (11 : Nat) + (1 : Nat)) : Int).toNat : Int) - (1 : Int) - (↑x_1 : Int) →
 (0 : Int) ≤ (↑(↑(min x.length (11 : Nat) + (1 : Nat)) : Int).toNat : Int) - (1 : Int) - (↑x_1 : Int) ∧
 ((0 : Int) ≤ min (↑x.length : Int) (11 : Int) + (1 : Int) ∧
 min (↑x.length : Int) (11 : Int) + (1 : Int) < (↑(uL ((min (↑x.length : Int) (11 : Int) + (1 : Int)).toNat - (1 : Nat))).length : Int)) ∧
 ((0 : Int) ≤ (↑(↑(min x.length (11 : Nat) + (1 : Nat)) : Int).toNat : Int) - (1 : Int) - (↑x_1 : Int) ∧
 (↑(↑(min x.length (11 : Nat) + (1 : Nat)) : Int).toNat : Int) - (1 : Int) - (↑x_1 : Int) <
 (↑(uL ((min (↑x.length : Int) (11 : Int) + (1 : Int)).toNat - (1 : Nat))).length : Int)) ∧
 Fits IntKind.i64
 ((uL ((min (↑x.length : Int) (11 : Int) + (1 : Int)).toNat - (1 : Nat))).getD (min (↑x.length : Int) (11 : Int) + (1 : Int)).toNat
 (0 : Int) -
 (uL ((min (↑x.length : Int) (11 : Int) + (1 : Int)).toNat - (1 : Nat))).getD
 ((↑(↑(min x.length (11 : Nat) + (1 : Nat)) : Int).toNat : Int) - (1 : Int) - (↑x_1 : Int)).toNat (0 : Int)) ∧
 Small
 ((List.map
 (fun (j : Nat) =>
 guyF (↑(min x.length (11 : Nat) + (1 : Nat)) : Int).toNat -
 guyF ((↑(min x.length (11 : Nat) + (1 : Nat)) : Int).toNat - (1 : Nat) - j))
 (List.range x_1)).length +
 ((0 : Nat) + (1 : Nat))) ∧
 Fits IntKind.i64 ((↑(↑(min x.length (11 : Nat) + (1 : Nat)) : Int).toNat : Int) - (1 : Int) - (↑x_1 : Int) - (1 : Int)) ∧
 ∃ (x' : Nat),
 x' ≤ (↑(min x.length (11 : Nat) + (1 : Nat)) : Int).toNat ∧
 (↑(min x.length (11 : Nat) + (1 : Nat)) : Int).toNat - x' < (↑(min x.length (11 : Nat) + (1 : Nat)) : Int).toNat - x_1 ∧
 (List.map
 (fun (j : Nat) =>
 guyF (↑(min x.length (11 : Nat) + (1 : Nat)) : Int).toNat -
 guyF ((↑(min x.length (11 : Nat) + (1 : Nat)) : Int).toNat - (1 : Nat) - j))
 (List.range x_1) ++
 [(uL ((min (↑x.length : Int) (11 : Int) + (1 : Int)).toNat - (1 : Nat))).getD
 (min (↑x.length : Int) (11 : Int) + (1 : Int)).toNat (0 : Int) -
 (uL ((min (↑x.length : Int) (11 : Int) + (1 : Int)).toNat - (1 : Nat))).getD
 ((↑(↑(min x.length (11 : Nat) + (1 : Nat)) : Int).toNat : Int) - (1 : Int) - (↑x_1 : Int)).toNat (0 : Int)] =
 List.map
 (fun (j : Nat) =>
 guyF (↑(min x.length (11 : Nat) + (1 : Nat)) : Int).toNat -
 guyF ((↑(min x.length (11 : Nat) + (1 : Nat)) : Int).toNat - (1 : Nat) - j))
 (List.range x') ∧
 True) ∧
 True ∧
 (↑(↑(min x.length (11 : Nat) + (1 : Nat)) : Int).toNat : Int) - (1 : Int) - (↑x_1 : Int) - (1 : Int) =
 (↑(↑(min x.length (11 : Nat) + (1 : Nat)) : Int).toNat : Int) - (1 : Int) - (↑x' : Int) ∧
 uL ((min (↑x.length : Int) (11 : Int) + (1 : Int)).toNat - (1 : Nat)) =
 uL ((min (↑x.length : Int) (11 : Int) + (1 : Int)).toNat - (1 : Nat)) ∧
 min (↑x.length : Int) (11 : Int) + (1 : Int) = min (↑x.length : Int) (11 : Int) + (1 : Int) ∧ True) ∧
 (¬(0 : Int) ≤ (↑(↑(min x.length (11 : Nat) + (1 : Nat)) : Int).toNat : Int) - (1 : Int) - (↑x_1 : Int) →
 ¬(0 : Int) ≤ (↑(↑(min x.length (11 : Nat) + (1 : Nat)) : Int).toNat : Int) - (1 : Int) - (↑x_1 : Int) ∧
 (∃ (x0 : Nat),
 x0 ≤ (setF (min x.length (11 : Nat) + (1 : Nat))).length ∧
 (List.map
 (fun (j : Nat) =>
 guyF (↑(min x.length (11 : Nat) + (1 : Nat)) : Int).toNat -
 guyF ((↑(min x.length (11 : Nat) + (1 : Nat)) : Int).toNat - (1 : Nat) - j))
 (List.range x_1) =
 mulTo (byF x) (setF (min x.length (11 : Nat) + (1 : Nat))) x0 ∧
 True) ∧
 (0 : Int) = (↑x0 : Int) ∧ x.getD (Int.toNat (0 : Int)) (0 : Int) % (40 : Int) + (1 : Int) = byF x ∧ True ∧ True) ∧
 ∀ (x_2 : Nat),
 x_2 ≤ (setF (min x.length (11 : Nat) + (1 : Nat))).length →
 ((↑x_2 : Int) < (↑(mulTo (byF x) (setF (min x.length (11 : Nat) + (1 : Nat))) x_2).length : Int) →
 (↑x_2 : Int) < (↑(mulTo (byF x) (setF (min x.length (11 : Nat) + (1 : Nat))) x_2).length : Int) ∧
 ((0 : Int) ≤ (↑x_2 : Int) ∧ (↑x_2 : Int) < (↑(mulTo (byF x) (setF (min x.length (11 : Nat) + (1 : Nat))) x_2).length : Int)) ∧
 Fits IntKind.i64 ((mulTo (byF x) (setF (min x.length (11 : Nat) + (1 : Nat))) x_2).getD (↑x_2 : Int).toNat (0 : Int) * byF x) ∧
 ((0 : Int) ≤ (↑x_2 : Int) ∧ (↑x_2 : Int) < (↑(mulTo (byF x) (setF (min x.length (11 : Nat) + (1 : Nat))) x_2).length : Int)) ∧
 Fits IntKind.i64 ((↑x_2 : Int) + (1 : Int)) ∧
 ∃ (x' : Nat),
 x' ≤ (setF (min x.length (11 : Nat) + (1 : Nat))).length ∧
 (setF (min x.length (11 : Nat) + (1 : Nat))).length - x' < (setF (min x.length (11 : Nat) + (1 : Nat))).length - x_2 ∧
 ((mulTo (byF x) (setF (min x.length (11 : Nat) + (1 : Nat))) x_2).set (↑x_2 : Int).toNat
 ((mulTo (byF x) (setF (min x.length (11 : Nat) + (1 : Nat))) x_2).getD (↑x_2 : Int).toNat (0 : Int) *
 byF x) =
 mulTo (byF x) (setF (min x.length (11 : Nat) + (1 : Nat))) x' ∧
 True) ∧
 (↑x_2 : Int) + (1 : Int) = (↑x' : Int) ∧ byF x = byF x ∧ True ∧ True) ∧
 (¬(↑x_2 : Int) < (↑(mulTo (byF x) (setF (min x.length (11 : Nat) + (1 : Nat))) x_2).length : Int) →
 ¬(↑x_2 : Int) < (↑(mulTo (byF x) (setF (min x.length (11 : Nat) + (1 : Nat))) x_2).length : Int) ∧
 mulTo (byF x) (setF (min x.length (11 : Nat) + (1 : Nat))) x_2 = dblF x g))) ∧
 (¬(0 : Int) < (↑x.length : Int) →
 ¬(0 : Int) < (↑x.length : Int) ∧
 Fits IntKind.i64 (min (↑x.length : Int) (11 : Int) + (1 : Int)) ∧
 min (↑x.length : Int) (11 : Int) + (1 : Int) ≤ (60 : Int) ∧
 Fits IntKind.i64 (min (↑x.length : Int) (11 : Int) + (1 : Int) - (1 : Int)) ∧
 (∃ (x0 : Nat),
 x0 ≤ (↑(min x.length (11 : Nat) + (1 : Nat)) : Int).toNat ∧
 (nilT Int =
 List.map
 (fun (j : Nat) =>
 guyF (↑(min x.length (11 : Nat) + (1 : Nat)) : Int).toNat - guyF ((↑(min x.length (11 : Nat) + (1 : Nat)) : Int).toNat - (1 : Nat) - j))
 (List.range x0) ∧
 True) ∧
 True ∧
 min (↑x.length : Int) (11 : Int) + (1 : Int) - (1 : Int) = (↑(↑(min x.length (11 : Nat) + (1 : Nat)) : Int).toNat : Int) - (1 : Int) - (↑x0 : Int) ∧
 uL ((min (↑x.length : Int) (11 : Int) + (1 : Int)).toNat - (1 : Nat)) = uL ((min (↑x.length : Int) (11 : Int) + (1 : Int)).toNat - (1 : Nat)) ∧
 min (↑x.length : Int) (11 : Int) + (1 : Int) = min (↑x.length : Int) (11 : Int) + (1 : Int) ∧ True) ∧
 ∀ (x_1 : Nat),
 x_1 ≤ (↑(min x.length (11 : Nat) + (1 : Nat)) : Int).toNat →
 ((0 : Int) ≤ (↑(↑(min x.length (11 : Nat) + (1 : Nat)) : Int).toNat : Int) - (1 : Int) - (↑x_1 : Int) →
 (0 : Int) ≤ (↑(↑(min x.length (11 : Nat) + (1 : Nat)) : Int).toNat : Int) - (1 : Int) - (↑x_1 : Int) ∧
 ((0 : Int) ≤ min (↑x.length : Int) (11 : Int) + (1 : Int) ∧
 min (↑x.length : Int) (11 : Int) + (1 : Int) < (↑(uL ((min (↑x.length : Int) (11 : Int) + (1 : Int)).toNat - (1 : Nat))).length : Int)) ∧
 ((0 : Int) ≤ (↑(↑(min x.length (11 : Nat) + (1 : Nat)) : Int).toNat : Int) - (1 : Int) - (↑x_1 : Int) ∧
 (↑(↑(min x.length (11 : Nat) + (1 : Nat)) : Int).toNat : Int) - (1 : Int) - (↑x_1 : Int) <
 (↑(uL ((min (↑x.length : Int) (11 : Int) + (1 : Int)).toNat - (1 : Nat))).length : Int)) ∧
 Fits IntKind.i64
 ((uL ((min (↑x.length : Int) (11 : Int) + (1 : Int)).toNat - (1 : Nat))).getD (min (↑x.length : Int) (11 : Int) + (1 : Int)).toNat (0 : Int) -
 (uL ((min (↑x.length : Int) (11 : Int) + (1 : Int)).toNat - (1 : Nat))).getD
 ((↑(↑(min x.length (11 : Nat) + (1 : Nat)) : Int).toNat : Int) - (1 : Int) - (↑x_1 : Int)).toNat (0 : Int)) ∧
 Small
 ((List.map
 (fun (j : Nat) =>
 guyF (↑(min x.length (11 : Nat) + (1 : Nat)) : Int).toNat -
 guyF ((↑(min x.length (11 : Nat) + (1 : Nat)) : Int).toNat - (1 : Nat) - j))
 (List.range x_1)).length +
 ((0 : Nat) + (1 : Nat))) ∧
 Fits IntKind.i64 ((↑(↑(min x.length (11 : Nat) + (1 : Nat)) : Int).toNat : Int) - (1 : Int) - (↑x_1 : Int) - (1 : Int)) ∧
 ∃ (x' : Nat),
 x' ≤ (↑(min x.length (11 : Nat) + (1 : Nat)) : Int).toNat ∧
 (↑(min x.length (11 : Nat) + (1 : Nat)) : Int).toNat - x' < (↑(min x.length (11 : Nat) + (1 : Nat)) : Int).toNat - x_1 ∧
 (List.map
 (fun (j : Nat) =>
 guyF (↑(min x.length (11 : Nat) + (1 : Nat)) : Int).toNat -
 guyF ((↑(min x.length (11 : Nat) + (1 : Nat)) : Int).toNat - (1 : Nat) - j))
 (List.range x_1) ++
 [(uL ((min (↑x.length : Int) (11 : Int) + (1 : Int)).toNat - (1 : Nat))).getD
 (min (↑x.length : Int) (11 : Int) + (1 : Int)).toNat (0 : Int) -
 (uL ((min (↑x.length : Int) (11 : Int) + (1 : Int)).toNat - (1 : Nat))).getD
 ((↑(↑(min x.length (11 : Nat) + (1 : Nat)) : Int).toNat : Int) - (1 : Int) - (↑x_1 : Int)).toNat (0 : Int)] =
 List.map
 (fun (j : Nat) =>
 guyF (↑(min x.length (11 : Nat) + (1 : Nat)) : Int).toNat -
 guyF ((↑(min x.length (11 : Nat) + (1 : Nat)) : Int).toNat - (1 : Nat) - j))
 (List.range x') ∧
 True) ∧
 True ∧
 (↑(↑(min x.length (11 : Nat) + (1 : Nat)) : Int).toNat : Int) - (1 : Int) - (↑x_1 : Int) - (1 : Int) =
 (↑(↑(min x.length (11 : Nat) + (1 : Nat)) : Int).toNat : Int) - (1 : Int) - (↑x' : Int) ∧
 uL ((min (↑x.length : Int) (11 : Int) + (1 : Int)).toNat - (1 : Nat)) =
 uL ((min (↑x.length : Int) (11 : Int) + (1 : Int)).toNat - (1 : Nat)) ∧
 min (↑x.length : Int) (11 : Int) + (1 : Int) = min (↑x.length : Int) (11 : Int) + (1 : Int) ∧ True) ∧
 (¬(0 : Int) ≤ (↑(↑(min x.length (11 : Nat) + (1 : Nat)) : Int).toNat : Int) - (1 : Int) - (↑x_1 : Int) →
 ¬(0 : Int) ≤ (↑(↑(min x.length (11 : Nat) + (1 : Nat)) : Int).toNat : Int) - (1 : Int) - (↑x_1 : Int) ∧
 (∃ (x0 : Nat),
 x0 ≤ (setF (min x.length (11 : Nat) + (1 : Nat))).length ∧
 (List.map
 (fun (j : Nat) =>
 guyF (↑(min x.length (11 : Nat) + (1 : Nat)) : Int).toNat -
 guyF ((↑(min x.length (11 : Nat) + (1 : Nat)) : Int).toNat - (1 : Nat) - j))
 (List.range x_1) =
 mulTo (byF x) (setF (min x.length (11 : Nat) + (1 : Nat))) x0 ∧
 True) ∧
 (0 : Int) = (↑x0 : Int) ∧ (1 : Int) = byF x ∧ True ∧ True) ∧
 ∀ (x_2 : Nat),
 x_2 ≤ (setF (min x.length (11 : Nat) + (1 : Nat))).length →
 ((↑x_2 : Int) < (↑(mulTo (byF x) (setF (min x.length (11 : Nat) + (1 : Nat))) x_2).length : Int) →
 (↑x_2 : Int) < (↑(mulTo (byF x) (setF (min x.length (11 : Nat) + (1 : Nat))) x_2).length : Int) ∧
 ((0 : Int) ≤ (↑x_2 : Int) ∧ (↑x_2 : Int) < (↑(mulTo (byF x) (setF (min x.length (11 : Nat) + (1 : Nat))) x_2).length : Int)) ∧
 Fits IntKind.i64 ((mulTo (byF x) (setF (min x.length (11 : Nat) + (1 : Nat))) x_2).getD (↑x_2 : Int).toNat (0 : Int) * byF x) ∧
 ((0 : Int) ≤ (↑x_2 : Int) ∧ (↑x_2 : Int) < (↑(mulTo (byF x) (setF (min x.length (11 : Nat) + (1 : Nat))) x_2).length : Int)) ∧
 Fits IntKind.i64 ((↑x_2 : Int) + (1 : Int)) ∧
 ∃ (x' : Nat),
 x' ≤ (setF (min x.length (11 : Nat) + (1 : Nat))).length ∧
 (setF (min x.length (11 : Nat) + (1 : Nat))).length - x' < (setF (min x.length (11 : Nat) + (1 : Nat))).length - x_2 ∧
 ((mulTo (byF x) (setF (min x.length (11 : Nat) + (1 : Nat))) x_2).set (↑x_2 : Int).toNat
 ((mulTo (byF x) (setF (min x.length (11 : Nat) + (1 : Nat))) x_2).getD (↑x_2 : Int).toNat (0 : Int) * byF x) =
 mulTo (byF x) (setF (min x.length (11 : Nat) + (1 : Nat))) x' ∧
 True) ∧
 (↑x_2 : Int) + (1 : Int) = (↑x' : Int) ∧ byF x = byF x ∧ True ∧ True) ∧
 (¬(↑x_2 : Int) < (↑(mulTo (byF x) (setF (min x.length (11 : Nat) + (1 : Nat))) x_2).length : Int) →
 ¬(↑x_2 : Int) < (↑(mulTo (byF x) (setF (min x.length (11 : Nat) + (1 : Nat))) x_2).length : Int) ∧
 mulTo (byF x) (setF (min x.length (11 : Nat) + (1 : Nat))) x_2 = dblF x g)))) ∧
 (g = false →
 g = false ∧
 (∃ (x0 : Nat), x0 ≤ min x.length (12 : Nat) ∧ (nilT Int = dbL x x0 ∧ True) ∧ True ∧ (0 : Int) = dbS x x0 ∧ (0 : Int) = (↑x0 : Int) ∧ x = x ∧ True) ∧
 ∀ (x_1 : Nat),
 x_1 ≤ min x.length (12 : Nat) →
 ((↑x_1 : Int) < (↑x.length : Int) →
 (↑x_1 : Int) < (↑x.length : Int) ∧
 (↑x_1 : Int) < (↑x.length : Int) ∧
 ((↑x_1 : Int) < (12 : Int) →
 (↑x_1 : Int) < (12 : Int) ∧
 (↑x_1 : Int) < (12 : Int) ∧
 Fits IntKind.i64 (dbS x x_1 + (1 : Int)) ∧
 ((0 : Int) ≤ (↑x_1 : Int) ∧ (↑x_1 : Int) < (↑x.length : Int)) ∧
 Fits IntKind.i64 (x.getD (↑x_1 : Int).toNat (0 : Int)) ∧
 ((0 : Int) ≤ x.getD (↑x_1 : Int).toNat (0 : Int) ∧ (0 : Int) < (12 : Int)) ∧
 Fits IntKind.i64 (dbS x x_1 + (1 : Int) + x.getD (↑x_1 : Int).toNat (0 : Int) % (12 : Int)) ∧
 Small ((dbL x x_1).length + ((0 : Nat) + (1 : Nat))) ∧
 ((0 : Int) ≤ (↑x_1 : Int) ∧
 (↑x_1 : Int) < (↑(dbL x x_1 ++ [dbS x x_1 + (1 : Int) + x.getD (↑x_1 : Int).toNat (0 : Int) % (12 : Int)]).length : Int)) ∧
 Fits IntKind.i64
 (dbS x x_1 +
 (dbL x x_1 ++ [dbS x x_1 + (1 : Int) + x.getD (↑x_1 : Int).toNat (0 : Int) % (12 : Int)]).getD (↑x_1 : Int).toNat (0 : Int)) ∧
 Fits IntKind.i64 ((↑x_1 : Int) + (1 : Int)) ∧
 ∃ (x' : Nat),
 x' ≤ min x.length (12 : Nat) ∧
 min x.length (12 : Nat) - x' < min x.length (12 : Nat) - x_1 ∧
 (dbL x x_1 ++ [dbS x x_1 + (1 : Int) + x.getD (↑x_1 : Int).toNat (0 : Int) % (12 : Int)] = dbL x x' ∧ True) ∧
 True ∧
 dbS x x_1 +
 (dbL x x_1 ++ [dbS x x_1 + (1 : Int) + x.getD (↑x_1 : Int).toNat (0 : Int) % (12 : Int)]).getD (↑x_1 : Int).toNat
 (0 : Int) =
 dbS x x' ∧
 (↑x_1 : Int) + (1 : Int) = (↑x' : Int) ∧ x = x ∧ True) ∧
 (¬(↑x_1 : Int) < (12 : Int) →
 ¬(↑x_1 : Int) < (12 : Int) ∧
 ¬(↑x_1 : Int) < (12 : Int) ∧
 ((↑(dbL x x_1).length : Int) = (0 : Int) → (↑(dbL x x_1).length : Int) = (0 : Int) ∧ [(1 : Int)] = dblF x g) ∧
 (¬(↑(dbL x x_1).length : Int) = (0 : Int) → ¬(↑(dbL x x_1).length : Int) = (0 : Int) ∧ dbL x x_1 = dblF x g))) ∧
 (¬(↑x_1 : Int) < (↑x.length : Int) →
 ¬(↑x_1 : Int) < (↑x.length : Int) ∧
 ¬(↑x_1 : Int) < (↑x.length : Int) ∧
 ((↑(dbL x x_1).length : Int) = (0 : Int) → (↑(dbL x x_1).length : Int) = (0 : Int) ∧ [(1 : Int)] = dblF x g) ∧
 (¬(↑(dbL x x_1).length : Int) = (0 : Int) → ¬(↑(dbL x x_1).length : Int) = (0 : Int) ∧ dbL x x_1 = dblF x g)))) := by
 kernel_rfl

theorem g9_eq (x : List Int) (k : Int) : g9 x k = (
 ((∀ (v : Int), v ∈ x → (0 : Int) ≤ v ∧ v ≤ (65535 : Int)) ∧ (1 : Int) ≤ (12 : Int) ∧ (12 : Int) ≤ (12 : Int)) ∧
 ((0 : Int) ≤ k ∧ (0 : Int) < (3 : Int)) ∧
 ((0 : Int) < k % (3 : Int) →
 (0 : Int) < k % (3 : Int) ∧
 ((0 : Int) ≤ k ∧ (0 : Int) < (3 : Int)) ∧
 (∀ (v : Int), v ∈ x → (0 : Int) ≤ v ∧ v ≤ (65535 : Int)) ∧
 (dblF x (decide (k % (3 : Int) = (1 : Int)))).length ≤ (1000 : Nat) ∧
 (¬checkF (dblF x (decide (k % (3 : Int) = (1 : Int)))) (12 : Int) = (0 : Int) →
 ¬checkF (dblF x (decide (k % (3 : Int) = (1 : Int)))) (12 : Int) = (0 : Int) ∧ True ∧ true = true) ∧
 (¬¬checkF (dblF x (decide (k % (3 : Int) = (1 : Int)))) (12 : Int) = (0 : Int) →
 ¬¬checkF (dblF x (decide (k % (3 : Int) = (1 : Int)))) (12 : Int) = (0 : Int) ∧
 (dblF x (decide (k % (3 : Int) = (1 : Int)))).length ≤ (1000 : Nat) ∧
 (∃ (x0 : Nat),
 (x0 ≤ (lF x k).length ∧ True) ∧
 True ∧
 (0 : Int) = (↑x0 : Int) ∧
 (0 : Int) = sq (List.take x0 (lF x k)) ∧
 dblF x (decide (k % (3 : Int) = (1 : Int))) = lF x k ∧
 (distinctF (dblF x (decide (k % (3 : Int) = (1 : Int))))).snd = (distinctF (dblF x (decide (k % (3 : Int) = (1 : Int))))).snd ∧
 (distinctF (dblF x (decide (k % (3 : Int) = (1 : Int))))).fst = (distinctF (dblF x (decide (k % (3 : Int) = (1 : Int))))).fst ∧
 k = k ∧ True) ∧
 ∀ (x_1 : Nat),
 x_1 ≤ (lF x k).length ∧ True →
 ((↑x_1 : Int) < (↑(lF x k).length : Int) →
 (↑x_1 : Int) < (↑(lF x k).length : Int) ∧
 ((0 : Int) ≤ (↑x_1 : Int) ∧ (↑x_1 : Int) < (↑(lF x k).length : Int)) ∧
 ((0 : Int) ≤ (↑x_1 : Int) ∧ (↑x_1 : Int) < (↑(lF x k).length : Int)) ∧
 Fits IntKind.i64 ((lF x k).getD (↑x_1 : Int).toNat (0 : Int) * (lF x k).getD (↑x_1 : Int).toNat (0 : Int)) ∧
 Fits IntKind.i64 (sq (List.take x_1 (lF x k)) + (lF x k).getD (↑x_1 : Int).toNat (0 : Int) * (lF x k).getD (↑x_1 : Int).toNat (0 : Int)) ∧
 Fits IntKind.i64 ((↑x_1 : Int) + (1 : Int)) ∧
 ∃ (x' : Nat),
 (x' ≤ (lF x k).length ∧ True) ∧
 (lF x k).length - x' < (lF x k).length - x_1 ∧
 True ∧
 (↑x_1 : Int) + (1 : Int) = (↑x' : Int) ∧
 sq (List.take x_1 (lF x k)) + (lF x k).getD (↑x_1 : Int).toNat (0 : Int) * (lF x k).getD (↑x_1 : Int).toNat (0 : Int) =
 sq (List.take x' (lF x k)) ∧
 lF x k = lF x k ∧
 (distinctF (dblF x (decide (k % (3 : Int) = (1 : Int))))).snd =
 (distinctF (dblF x (decide (k % (3 : Int) = (1 : Int))))).snd ∧
 (distinctF (dblF x (decide (k % (3 : Int) = (1 : Int))))).fst =
 (distinctF (dblF x (decide (k % (3 : Int) = (1 : Int))))).fst ∧
 k = k ∧ True) ∧
 (¬(↑x_1 : Int) < (↑(lF x k).length : Int) →
 ¬(↑x_1 : Int) < (↑(lF x k).length : Int) ∧
 ((distinctF (dblF x (decide (k % (3 : Int) = (1 : Int))))).snd = (0 : Int) →
 (distinctF (dblF x (decide (k % (3 : Int) = (1 : Int))))).snd = (0 : Int) ∧
 (distinctF (dblF x (decide (k % (3 : Int) = (1 : Int))))).snd = (0 : Int) ∧
 ((0 : Int) ≤ k ∧ (0 : Int) < (3 : Int)) ∧
 (k % (3 : Int) = (0 : Int) →
 k % (3 : Int) = (0 : Int) ∧
 k % (3 : Int) = (0 : Int) ∧
 ((!(distinctF (dblF x (decide (k % (3 : Int) = (1 : Int))))).fst) = true →
 (!(distinctF (dblF x (decide (k % (3 : Int) = (1 : Int))))).fst) = true ∧
 (!(distinctF (dblF x (decide (k % (3 : Int) = (1 : Int))))).fst) = true ∧ True ∧ true = true) ∧
 ((!(distinctF (dblF x (decide (k % (3 : Int) = (1 : Int))))).fst) = false →
 (!(distinctF (dblF x (decide (k % (3 : Int) = (1 : Int))))).fst) = false ∧
 (!(distinctF (dblF x (decide (k % (3 : Int) = (1 : Int))))).fst) = false ∧
 Fits IntKind.i64 ((3 : Int) * sq (List.take x_1 (lF x k))) ∧
 Fits IntKind.i64 ((2 : Int) * (↑(lF x k).length : Int)) ∧
 ((0 : Int) ≤ (2 : Int) * (↑(lF x k).length : Int) ∧ (2 : Int) * (↑(lF x k).length : Int) < (64 : Int)) ∧
 Fits IntKind.i64 ((1 : Int) * (2 : Int) ^ ((2 : Int) * (↑(lF x k).length : Int)).toNat) ∧
 Fits IntKind.i64 ((1 : Int) * (2 : Int) ^ ((2 : Int) * (↑(lF x k).length : Int)).toNat - (1 : Int)) ∧
 ((1 : Int) * (2 : Int) ^ ((2 : Int) * (↑(lF x k).length : Int)).toNat - (1 : Int) ≤
 (3 : Int) * sq (List.take x_1 (lF x k)) →
 (1 : Int) * (2 : Int) ^ ((2 : Int) * (↑(lF x k).length : Int)).toNat - (1 : Int) ≤
 (3 : Int) * sq (List.take x_1 (lF x k)) ∧
 (1 : Int) * (2 : Int) ^ ((2 : Int) * (↑(lF x k).length : Int)).toNat - (1 : Int) ≤
 (3 : Int) * sq (List.take x_1 (lF x k)) ∧
 (1 : Int) * (2 : Int) ^ ((2 : Int) * (↑(lF x k).length : Int)).toNat - (1 : Int) ≤
 (3 : Int) * sq (List.take x_1 (lF x k)) ∧
 (1 : Int) * (2 : Int) ^ ((2 : Int) * (↑(lF x k).length : Int)).toNat - (1 : Int) ≤
 (3 : Int) * sq (List.take x_1 (lF x k)) ∧
 True ∧ true = true) ∧
 (¬(1 : Int) * (2 : Int) ^ ((2 : Int) * (↑(lF x k).length : Int)).toNat - (1 : Int) ≤
 (3 : Int) * sq (List.take x_1 (lF x k)) →
 ¬(1 : Int) * (2 : Int) ^ ((2 : Int) * (↑(lF x k).length : Int)).toNat - (1 : Int) ≤
 (3 : Int) * sq (List.take x_1 (lF x k)) ∧
 ¬(1 : Int) * (2 : Int) ^ ((2 : Int) * (↑(lF x k).length : Int)).toNat - (1 : Int) ≤
 (3 : Int) * sq (List.take x_1 (lF x k)) ∧
 ¬(1 : Int) * (2 : Int) ^ ((2 : Int) * (↑(lF x k).length : Int)).toNat - (1 : Int) ≤
 (3 : Int) * sq (List.take x_1 (lF x k)) ∧
 ¬(1 : Int) * (2 : Int) ^ ((2 : Int) * (↑(lF x k).length : Int)).toNat - (1 : Int) ≤
 (3 : Int) * sq (List.take x_1 (lF x k)) ∧
 false = true))) ∧
 (¬k % (3 : Int) = (0 : Int) →
 ¬k % (3 : Int) = (0 : Int) ∧
 ¬k % (3 : Int) = (0 : Int) ∧
 ((distinctF (dblF x (decide (k % (3 : Int) = (1 : Int))))).fst = true →
 (distinctF (dblF x (decide (k % (3 : Int) = (1 : Int))))).fst = true ∧
 (distinctF (dblF x (decide (k % (3 : Int) = (1 : Int))))).fst = true ∧
 (distinctF (dblF x (decide (k % (3 : Int) = (1 : Int))))).fst = true ∧
 (distinctF (dblF x (decide (k % (3 : Int) = (1 : Int))))).fst = true ∧
 (distinctF (dblF x (decide (k % (3 : Int) = (1 : Int))))).fst = true ∧
 Fits IntKind.i64 ((3 : Int) * sq (List.take x_1 (lF x k))) ∧
 Fits IntKind.i64 ((2 : Int) * (↑(lF x k).length : Int)) ∧
 ((0 : Int) ≤ (2 : Int) * (↑(lF x k).length : Int) ∧ (2 : Int) * (↑(lF x k).length : Int) < (64 : Int)) ∧
 Fits IntKind.i64 ((1 : Int) * (2 : Int) ^ ((2 : Int) * (↑(lF x k).length : Int)).toNat) ∧
 Fits IntKind.i64 ((1 : Int) * (2 : Int) ^ ((2 : Int) * (↑(lF x k).length : Int)).toNat - (1 : Int)) ∧
 ((1 : Int) * (2 : Int) ^ ((2 : Int) * (↑(lF x k).length : Int)).toNat - (1 : Int) ≤
 (3 : Int) * sq (List.take x_1 (lF x k)) →
 (1 : Int) * (2 : Int) ^ ((2 : Int) * (↑(lF x k).length : Int)).toNat - (1 : Int) ≤
 (3 : Int) * sq (List.take x_1 (lF x k)) ∧
 (1 : Int) * (2 : Int) ^ ((2 : Int) * (↑(lF x k).length : Int)).toNat - (1 : Int) ≤
 (3 : Int) * sq (List.take x_1 (lF x k)) ∧
 (1 : Int) * (2 : Int) ^ ((2 : Int) * (↑(lF x k).length : Int)).toNat - (1 : Int) ≤
 (3 : Int) * sq (List.take x_1 (lF x k)) ∧
 (1 : Int) * (2 : Int) ^ ((2 : Int) * (↑(lF x k).length : Int)).toNat - (1 : Int) ≤
 (3 : Int) * sq (List.take x_1 (lF x k)) ∧
 True ∧ true = true) ∧
 (¬(1 : Int) * (2 : Int) ^ ((2 : Int) * (↑(lF x k).length : Int)).toNat - (1 : Int) ≤
 (3 : Int) * sq (List.take x_1 (lF x k)) →
 ¬(1 : Int) * (2 : Int) ^ ((2 : Int) * (↑(lF x k).length : Int)).toNat - (1 : Int) ≤
 (3 : Int) * sq (List.take x_1 (lF x k)) ∧
 ¬(1 : Int) * (2 : Int) ^ ((2 : Int) * (↑(lF x k).length : Int)).toNat - (1 : Int) ≤
 (3 : Int) * sq (List.take x_1 (lF x k)) ∧
 ¬(1 : Int) * (2 : Int) ^ ((2 : Int) * (↑(lF x k).length : Int)).toNat - (1 : Int) ≤
 (3 : Int) * sq (List.take x_1 (lF x k)) ∧
 ¬(1 : Int) * (2 : Int) ^ ((2 : Int) * (↑(lF x k).length : Int)).toNat - (1 : Int) ≤
 (3 : Int) * sq (List.take x_1 (lF x k)) ∧
 false = true)) ∧
 ((distinctF (dblF x (decide (k % (3 : Int) = (1 : Int))))).fst = false →
 (distinctF (dblF x (decide (k % (3 : Int) = (1 : Int))))).fst = false ∧
 (distinctF (dblF x (decide (k % (3 : Int) = (1 : Int))))).fst = false ∧
 (distinctF (dblF x (decide (k % (3 : Int) = (1 : Int))))).fst = false ∧
 (distinctF (dblF x (decide (k % (3 : Int) = (1 : Int))))).fst = false ∧
 (distinctF (dblF x (decide (k % (3 : Int) = (1 : Int))))).fst = false ∧ false = true))) ∧
 (¬(distinctF (dblF x (decide (k % (3 : Int) = (1 : Int))))).snd = (0 : Int) →
 ¬(distinctF (dblF x (decide (k % (3 : Int) = (1 : Int))))).snd = (0 : Int) ∧
 ¬(distinctF (dblF x (decide (k % (3 : Int) = (1 : Int))))).snd = (0 : Int) ∧ false = true)))) ∧
 (¬(0 : Int) < k % (3 : Int) →
 ¬(0 : Int) < k % (3 : Int) ∧
 (madeF x (Int.toNat (12 : Int))).length ≤ (1000 : Nat) ∧
 (¬checkF (madeF x (Int.toNat (12 : Int))) (12 : Int) = (0 : Int) → ¬checkF (madeF x (Int.toNat (12 : Int))) (12 : Int) = (0 : Int) ∧ True ∧ true = true) ∧
 (¬¬checkF (madeF x (Int.toNat (12 : Int))) (12 : Int) = (0 : Int) →
 ¬¬checkF (madeF x (Int.toNat (12 : Int))) (12 : Int) = (0 : Int) ∧
 (madeF x (Int.toNat (12 : Int))).length ≤ (1000 : Nat) ∧
 (∃ (x0 : Nat),
 (x0 ≤ (lF x k).length ∧ True) ∧
 True ∧
 (0 : Int) = (↑x0 : Int) ∧
 (0 : Int) = sq (List.take x0 (lF x k)) ∧
 madeF x (Int.toNat (12 : Int)) = lF x k ∧
 (distinctF (madeF x (Int.toNat (12 : Int)))).snd = (distinctF (madeF x (Int.toNat (12 : Int)))).snd ∧
 (distinctF (madeF x (Int.toNat (12 : Int)))).fst = (distinctF (madeF x (Int.toNat (12 : Int)))).fst ∧ k = k ∧ True) ∧
 ∀ (x_1 : Nat),
 x_1 ≤ (lF x k).length ∧ True →
 ((↑x_1 : Int) < (↑(lF x k).length : Int) →
 (↑x_1 : Int) < (↑(lF x k).length : Int) ∧
 ((0 : Int) ≤ (↑x_1 : Int) ∧ (↑x_1 : Int) < (↑(lF x k).length : Int)) ∧
 ((0 : Int) ≤ (↑x_1 : Int) ∧ (↑x_1 : Int) < (↑(lF x k).length : Int)) ∧
 Fits IntKind.i64 ((lF x k).getD (↑x_1 : Int).toNat (0 : Int) * (lF x k).getD (↑x_1 : Int).toNat (0 : Int)) ∧
 Fits IntKind.i64 (sq (List.take x_1 (lF x k)) + (lF x k).getD (↑x_1 : Int).toNat (0 : Int) * (lF x k).getD (↑x_1 : Int).toNat (0 : Int)) ∧
 Fits IntKind.i64 ((↑x_1 : Int) + (1 : Int)) ∧
 ∃ (x' : Nat),
 (x' ≤ (lF x k).length ∧ True) ∧
 (lF x k).length - x' < (lF x k).length - x_1 ∧
 True ∧
 (↑x_1 : Int) + (1 : Int) = (↑x' : Int) ∧
 sq (List.take x_1 (lF x k)) + (lF x k).getD (↑x_1 : Int).toNat (0 : Int) * (lF x k).getD (↑x_1 : Int).toNat (0 : Int) =
 sq (List.take x' (lF x k)) ∧
 lF x k = lF x k ∧
 (distinctF (madeF x (Int.toNat (12 : Int)))).snd = (distinctF (madeF x (Int.toNat (12 : Int)))).snd ∧
 (distinctF (madeF x (Int.toNat (12 : Int)))).fst = (distinctF (madeF x (Int.toNat (12 : Int)))).fst ∧ k = k ∧ True) ∧
 (¬(↑x_1 : Int) < (↑(lF x k).length : Int) →
 ¬(↑x_1 : Int) < (↑(lF x k).length : Int) ∧
 ((distinctF (madeF x (Int.toNat (12 : Int)))).snd = (0 : Int) →
 (distinctF (madeF x (Int.toNat (12 : Int)))).snd = (0 : Int) ∧
 (distinctF (madeF x (Int.toNat (12 : Int)))).snd = (0 : Int) ∧
 ((0 : Int) ≤ k ∧ (0 : Int) < (3 : Int)) ∧
 (k % (3 : Int) = (0 : Int) →
 k % (3 : Int) = (0 : Int) ∧
 k % (3 : Int) = (0 : Int) ∧
 ((!(distinctF (madeF x (Int.toNat (12 : Int)))).fst) = true →
 (!(distinctF (madeF x (Int.toNat (12 : Int)))).fst) = true ∧
 (!(distinctF (madeF x (Int.toNat (12 : Int)))).fst) = true ∧ True ∧ true = true) ∧
 ((!(distinctF (madeF x (Int.toNat (12 : Int)))).fst) = false →
 (!(distinctF (madeF x (Int.toNat (12 : Int)))).fst) = false ∧
 (!(distinctF (madeF x (Int.toNat (12 : Int)))).fst) = false ∧
 Fits IntKind.i64 ((3 : Int) * sq (List.take x_1 (lF x k))) ∧
 Fits IntKind.i64 ((2 : Int) * (↑(lF x k).length : Int)) ∧
 ((0 : Int) ≤ (2 : Int) * (↑(lF x k).length : Int) ∧ (2 : Int) * (↑(lF x k).length : Int) < (64 : Int)) ∧
 Fits IntKind.i64 ((1 : Int) * (2 : Int) ^ ((2 : Int) * (↑(lF x k).length : Int)).toNat) ∧
 Fits IntKind.i64 ((1 : Int) * (2 : Int) ^ ((2 : Int) * (↑(lF x k).length : Int)).toNat - (1 : Int)) ∧
 ((1 : Int) * (2 : Int) ^ ((2 : Int) * (↑(lF x k).length : Int)).toNat - (1 : Int) ≤
 (3 : Int) * sq (List.take x_1 (lF x k)) →
 (1 : Int) * (2 : Int) ^ ((2 : Int) * (↑(lF x k).length : Int)).toNat - (1 : Int) ≤
 (3 : Int) * sq (List.take x_1 (lF x k)) ∧
 (1 : Int) * (2 : Int) ^ ((2 : Int) * (↑(lF x k).length : Int)).toNat - (1 : Int) ≤
 (3 : Int) * sq (List.take x_1 (lF x k)) ∧
 (1 : Int) * (2 : Int) ^ ((2 : Int) * (↑(lF x k).length : Int)).toNat - (1 : Int) ≤
 (3 : Int) * sq (List.take x_1 (lF x k)) ∧
 (1 : Int) * (2 : Int) ^ ((2 : Int) * (↑(lF x k).length : Int)).toNat - (1 : Int) ≤
 (3 : Int) * sq (List.take x_1 (lF x k)) ∧
 True ∧ true = true) ∧
 (¬(1 : Int) * (2 : Int) ^ ((2 : Int) * (↑(lF x k).length : Int)).toNat - (1 : Int) ≤
 (3 : Int) * sq (List.take x_1 (lF x k)) →
 ¬(1 : Int) * (2 : Int) ^ ((2 : Int) * (↑(lF x k).length : Int)).toNat - (1 : Int) ≤
 (3 : Int) * sq (List.take x_1 (lF x k)) ∧
 ¬(1 : Int) * (2 : Int) ^ ((2 : Int) * (↑(lF x k).length : Int)).toNat - (1 : Int) ≤
 (3 : Int) * sq (List.take x_1 (lF x k)) ∧
 ¬(1 : Int) * (2 : Int) ^ ((2 : Int) * (↑(lF x k).length : Int)).toNat - (1 : Int) ≤
 (3 : Int) * sq (List.take x_1 (lF x k)) ∧
 ¬(1 : Int) * (2 : Int) ^ ((2 : Int) * (↑(lF x k).length : Int)).toNat - (1 : Int) ≤
 (3 : Int) * sq (List.take x_1 (lF x k)) ∧
 false = true))) ∧
 (¬k % (3 : Int) = (0 : Int) →
 ¬k % (3 : Int) = (0 : Int) ∧
 ¬k % (3 : Int) = (0 : Int) ∧
 ((distinctF (madeF x (Int.toNat (12 : Int)))).fst = true →
 (distinctF (madeF x (Int.toNat (12 : Int)))).fst = true ∧
 (distinctF (madeF x (Int.toNat (12 : Int)))).fst = true ∧
 (distinctF (madeF x (Int.toNat (12 : Int)))).fst = true ∧
 (distinctF (madeF x (Int.toNat (12 : Int)))).fst = true ∧
 (distinctF (madeF x (Int.toNat (12 : Int)))).fst = true ∧
 Fits IntKind.i64 ((3 : Int) * sq (List.take x_1 (lF x k))) ∧
 Fits IntKind.i64 ((2 : Int) * (↑(lF x k).length : Int)) ∧
 ((0 : Int) ≤ (2 : Int) * (↑(lF x k).length : Int) ∧ (2 : Int) * (↑(lF x k).length : Int) < (64 : Int)) ∧
 Fits IntKind.i64 ((1 : Int) * (2 : Int) ^ ((2 : Int) * (↑(lF x k).length : Int)).toNat) ∧
 Fits IntKind.i64 ((1 : Int) * (2 : Int) ^ ((2 : Int) * (↑(lF x k).length : Int)).toNat - (1 : Int)) ∧
 ((1 : Int) * (2 : Int) ^ ((2 : Int) * (↑(lF x k).length : Int)).toNat - (1 : Int) ≤
 (3 : Int) * sq (List.take x_1 (lF x k)) →
 (1 : Int) * (2 : Int) ^ ((2 : Int) * (↑(lF x k).length : Int)).toNat - (1 : Int) ≤
 (3 : Int) * sq (List.take x_1 (lF x k)) ∧
 (1 : Int) * (2 : Int) ^ ((2 : Int) * (↑(lF x k).length : Int)).toNat - (1 : Int) ≤
 (3 : Int) * sq (List.take x_1 (lF x k)) ∧
 (1 : Int) * (2 : Int) ^ ((2 : Int) * (↑(lF x k).length : Int)).toNat - (1 : Int) ≤
 (3 : Int) * sq (List.take x_1 (lF x k)) ∧
 (1 : Int) * (2 : Int) ^ ((2 : Int) * (↑(lF x k).length : Int)).toNat - (1 : Int) ≤
 (3 : Int) * sq (List.take x_1 (lF x k)) ∧
 True ∧ true = true) ∧
 (¬(1 : Int) * (2 : Int) ^ ((2 : Int) * (↑(lF x k).length : Int)).toNat - (1 : Int) ≤
 (3 : Int) * sq (List.take x_1 (lF x k)) →
 ¬(1 : Int) * (2 : Int) ^ ((2 : Int) * (↑(lF x k).length : Int)).toNat - (1 : Int) ≤
 (3 : Int) * sq (List.take x_1 (lF x k)) ∧
 ¬(1 : Int) * (2 : Int) ^ ((2 : Int) * (↑(lF x k).length : Int)).toNat - (1 : Int) ≤
 (3 : Int) * sq (List.take x_1 (lF x k)) ∧
 ¬(1 : Int) * (2 : Int) ^ ((2 : Int) * (↑(lF x k).length : Int)).toNat - (1 : Int) ≤
 (3 : Int) * sq (List.take x_1 (lF x k)) ∧
 ¬(1 : Int) * (2 : Int) ^ ((2 : Int) * (↑(lF x k).length : Int)).toNat - (1 : Int) ≤
 (3 : Int) * sq (List.take x_1 (lF x k)) ∧
 false = true)) ∧
 ((distinctF (madeF x (Int.toNat (12 : Int)))).fst = false →
 (distinctF (madeF x (Int.toNat (12 : Int)))).fst = false ∧
 (distinctF (madeF x (Int.toNat (12 : Int)))).fst = false ∧
 (distinctF (madeF x (Int.toNat (12 : Int)))).fst = false ∧
 (distinctF (madeF x (Int.toNat (12 : Int)))).fst = false ∧
 (distinctF (madeF x (Int.toNat (12 : Int)))).fst = false ∧ false = true))) ∧
 (¬(distinctF (madeF x (Int.toNat (12 : Int)))).snd = (0 : Int) →
 ¬(distinctF (madeF x (Int.toNat (12 : Int)))).snd = (0 : Int) ∧ ¬(distinctF (madeF x (Int.toNat (12 : Int)))).snd = (0 : Int) ∧ false = true))))) := by
 kernel_rfl

end Go.SX.We

/- Chapter 08: the law of Erdos, proved. -/
namespace Go.SX.We
open Go Go.Proofs

theorem c31_ok (n : Int) : (inl 31 Try.f31 (C31 n)).OK Try.prog := inl_ok (cx_ok (cs := [p30.ci]) ⟨PC.OK.ci ok30, trivial⟩ _) (by kernel_rfl) (by kernel_rfl) (by kernel_rfl)
theorem mul_fit {a b : Int} (h1 : -100000 ≤ a) (h2 : a ≤ 100000) (h3 : 0 ≤ b) (h4 : b ≤ 100000) : Fits .i64 (a * b) := by
  have h5 : a * b ≤ 100000 * 100000 := Int.le_trans (Int.mul_le_mul_of_nonneg_right h2 h3) (Int.mul_le_mul_of_nonneg_left h4 (by decide))
  have h6 : -(100000 * 100000) ≤ a * b := by
    have : -100000 * b ≤ a * b := Int.mul_le_mul_of_nonneg_right h1 h3
    omega
  exact fi (by omega) (by omega)
theorem ok37 : p37.OK Try.prog := p37.ok (fn := Try.f37) C37 (fun p => cx_ok (cs := [inl 31 Try.f31 (C31 ((min p.1.length 11 + 1 : Nat) : Int))]) ⟨c31_ok _, trivial⟩ _) (by kernel_rfl) (by kernel_rfl) (by kernel_rfl) fun p hp => by
  have key : ∀ (x : List Int) (g : Bool), (∀ v ∈ x, 0 ≤ v ∧ v ≤ 65535) → g37 x g := fun x g hx => by
    refine (g37_eq x g).mpr ?_
    have e0 : Int.toNat 0 = 0 := rfl
    simp only [pp1, eq_self, and_true, true_and, Int.toNat_natCast, e0, setF_length, mulTo_length, nilT]
    refine ⟨fun hg => ?_, fun hg => ?_⟩
    · subst hg
      obtain ⟨n, hn⟩ : ∃ n, min x.length 11 + 1 = n := ⟨_, rfl⟩
      have en : min (x.length : Int) 11 + 1 = (n : Int) := by omega
      rw [hn, en, Int.toNat_natCast]
      have hn1 : 1 ≤ n := by omega
      have hn2 : n ≤ 12 := by omega
      have hs := setF_small (n := n) hn2
      have hb := byF_pos x
      refine ⟨fun hl => ⟨by omega, ?_, ?_, ?_, ?_⟩, fun hl => ?_⟩
      · have := hx _ (getD_mem x 0 (k := 0) (by omega)); exact fi (by omega) (by omega)
      · have := hx _ (getD_mem x 0 (k := 0) (by omega)); omega
      · exact fi (by omega) (by omega)
      · have eb : x.getD 0 0 % 40 + 1 = byF x := by unfold byF; rw [if_neg (by intro e; rw [e] at hl; simp at hl)]
        rw [eb]
        refine ⟨fi (by omega) (by omega), by omega, fi (by omega) (by omega), ⟨0, by omega, rfl, by omega⟩, fun k hk => ⟨fun h3 => ?_, fun h3 => ?_⟩⟩
        · have e1 : ((n : Int) - 1 - (k : Int)).toNat = n - 1 - k := by omega
          have g1 := uL_get (m := n - 1) (i := n) (by omega)
          have g2 := uL_get (m := n - 1) (i := n - 1 - k) (by omega)
          rw [e1, g1, g2, uL_length]
          exact ⟨by omega, by omega, (guy_fits (by omega) (by omega)).2.2, by unfold Small; simp; omega, fi (by omega) (by omega), k + 1, by omega, by omega, by rw [List.range_succ, List.map_append]; rfl, by push_cast; omega⟩
        · have ek : k = n := by omega
          subst ek
          refine ⟨⟨0, by omega, by simp [mulTo, setF], rfl, rfl⟩, fun j hj => ⟨fun h4 => ?_, fun h4 => ?_⟩⟩
          · have hlen : j < (setF k).length := by rw [setF_length]; omega
            have hv := hs _ (getD_mem (setF k) 0 hlen)
            rw [mulTo_get _ hlen]
            exact ⟨by omega, mul_fit (by omega) (by omega) (by omega) (by omega), by omega, fi (by omega) (by omega), j + 1, by omega, by omega, mulTo_set _ hlen, by omega⟩
          · have ej : j = k := by omega
            subst ej
            unfold dblF
            rw [hn]
            simp only [cond_true]
            unfold mulTo
            have hlen := setF_length j
            rw [List.take_of_length_le (by omega), List.drop_of_length_le (by omega), List.append_nil]
      · have eb : (1 : Int) = byF x := by unfold byF; rw [if_pos (List.eq_nil_of_length_eq_zero (by omega))]
        refine ⟨fi (by omega) (by omega), by omega, fi (by omega) (by omega), ⟨0, by omega, rfl, by omega⟩, fun k hk => ⟨fun h3 => ?_, fun h3 => ?_⟩⟩
        · have e1 : ((n : Int) - 1 - (k : Int)).toNat = n - 1 - k := by omega
          have g1 := uL_get (m := n - 1) (i := n) (by omega)
          have g2 := uL_get (m := n - 1) (i := n - 1 - k) (by omega)
          rw [e1, g1, g2, uL_length]
          exact ⟨by omega, by omega, (guy_fits (by omega) (by omega)).2.2, by unfold Small; simp; omega, fi (by omega) (by omega), k + 1, by omega, by omega, by rw [List.range_succ, List.map_append]; rfl, by push_cast; omega⟩
        · have ek : k = n := by omega
          subst ek
          refine ⟨⟨0, by omega, by simp [mulTo, setF], rfl, eb⟩, fun j hj => ⟨fun h4 => ?_, fun h4 => ?_⟩⟩
          · have hlen : j < (setF k).length := by rw [setF_length]; omega
            have hv := hs _ (getD_mem (setF k) 0 hlen)
            rw [mulTo_get _ hlen]
            exact ⟨by omega, mul_fit (by omega) (by omega) (by omega) (by omega), by omega, fi (by omega) (by omega), j + 1, by omega, by omega, mulTo_set _ hlen, by omega⟩
          · have ej : j = k := by omega
            subst ej
            unfold dblF
            rw [hn]
            simp only [cond_true]
            unfold mulTo
            have hlen := setF_length j
            rw [List.take_of_length_le (by omega), List.drop_of_length_le (by omega), List.append_nil]
    · subst hg
      have fin : ∀ k : Nat, k = min x.length 12 → ((k : Int) = 0 → [1] = dblF x false) ∧ (¬ (k : Int) = 0 → dbL x k = dblF x false) := fun k hk => by
        unfold dblF
        rw [← hk]
        exact ⟨fun h => by rw [decide_eq_true (show k = 0 by omega)]; rfl, fun h => by rw [decide_eq_false (show ¬ k = 0 by omega)]; rfl⟩
      refine ⟨⟨0, by omega, rfl, rfl, rfl⟩, fun k hk => ?_⟩
      rw [dbL_length]
      refine ⟨fun h3 => ⟨fun h4 => ?_, fun h4 => fin k (by omega)⟩, fun h3 => fin k (by omega)⟩
      have hv := hx _ (getD_mem x 0 (k := k) (by omega))
      have hs := dbS_small x k
      have hp := pow2_12 k (by omega)
      have hg : (dbL x k ++ [dbS x k + 1 + x.getD k 0 % 12]).getD k 0 = dbS x k + 1 + x.getD k 0 % 12 := by
        have : (dbL x k).length = k := dbL_length x k
        simp [List.getD, this]
      rw [hg]
      refine ⟨fi (by omega) (by omega), by omega, fi (by omega) (by omega), by omega, fi (by omega) (by omega), by unfold Small; omega, ⟨by omega, by rw [List.length_append, dbL_length]; simp; omega⟩, fi (by omega) (by omega), fi (by omega) (by omega), k + 1, by omega, by omega, (dbL_snoc x k).symm, rfl, by omega⟩
  exact key p.1 p.2 hp

theorem sq_take {l : List Int} {k : Nat} (hk : k < l.length) : sq (l.take (k + 1)) = sq (l.take k) + l.getD k 0 * l.getD k 0 := by
  rw [List.take_add_one, List.getElem?_eq_getElem hk, Option.toList, sq_append]
  simp [sq, List.getD, List.getElem?_eq_getElem hk]
theorem sq_bound : ∀ l : List Int, (∀ v ∈ l, 0 ≤ v ∧ v ≤ 100000) → 0 ≤ sq l ∧ sq l ≤ 10000000000 * (l.length : Int)
  | [], _ => by simp [sq]
  | x :: r, h => by
    have ih := sq_bound r fun v hv => h v (List.mem_cons_of_mem _ hv)
    have hx := h x (by simp)
    have h1 : x * x ≤ 100000 * 100000 := Int.mul_le_mul hx.2 hx.2 hx.1 (by decide)
    have h2 : 0 ≤ x * x := Int.mul_nonneg hx.1 hx.1
    simp only [sq, List.length_cons]
    omega
theorem ok9 : p9.OK Try.prog := p9.ok (fn := Try.f9) C9 (fun _ => cx_ok (cs := [p32.ci, p37.ci, p18.ci, p16.ci, p19.ci]) ⟨PC.OK.ci ok32, PC.OK.ci ok37, PC.OK.ci ok18, PC.OK.ci ok16, PC.OK.ci ok19, trivial⟩ _) (by kernel_rfl) (by kernel_rfl) (by kernel_rfl) fun p hp => by
  have key : ∀ (x : List Int) (k : Int), (∀ v ∈ x, 0 ≤ v ∧ v ≤ 65535) → 0 ≤ k → g9 x k := fun x k hx hk => by
    refine (g9_eq x k).mpr ?_
    have e12 : Int.toNat 12 = 12 := rfl
    simp only [pp1, eq_self, and_true, true_and, Int.toNat_natCast, e12]
    have hlen : (lF x k).length ≤ 1000 := by
      unfold lF dblF
      split
      · cases decide (k % 3 = 1) with
        | true => simp [setF]; omega
        | false =>
          simp only [cond_false]
          cases decide (min x.length 12 = 0) with
          | true => simp
          | false => simp only [cond_false]; rw [dbL_length]; omega
      · have := (made_wts x (m := 12) (by decide) (by decide)).len; omega
    refine ⟨⟨hx, by decide, by decide⟩, by omega, fun h3 => ?_, fun h3 => ?_⟩
    · have eL : dblF x (decide (k % 3 = 1)) = lF x k := by unfold lF; rw [if_pos h3]
      have hd : distF (lF x k) = true := by rw [← eL]; exact dist_dbl _ _
      rw [eL]
      generalize lF x k = L at hlen hd
      refine ⟨by omega, hx, hlen, fun h => h, fun h => ⟨hlen, ⟨0, by omega, rfl, rfl, rfl⟩, fun j hj => ?_⟩⟩
      have hw := check_ok.1 (Classical.not_not.1 h)
      have hl := hw.len
      have hv : ∀ v ∈ L, 0 ≤ v ∧ v ≤ 100000 := fun v h => ⟨by have := hw.lo v h; omega, hw.hi v h⟩
      refine ⟨fun h4 => ?_, fun h4 => ?_⟩
      · have h5 := hv _ (getD_mem L 0 (k := j) (by omega))
        have h6 := sq_bound (L.take (j + 1)) fun v h => hv v (List.mem_of_mem_take h)
        rw [List.length_take, sq_take (by omega)] at h6
        exact ⟨by omega, by omega, mul_fit (by omega) (by omega) (by omega) (by omega), fi (by omega) (by omega), fi (by omega) (by omega), j + 1, by omega, by omega, by omega, (sq_take (by omega)).symm⟩
      · have ej : j = L.length := by omega
        subst ej
        rw [List.take_length, dist_of hw, hd]
        have h6 := sq_bound L hv
        have hE := erdos hd
        have e4 : (2 : Int) ^ (2 * (L.length : Int)).toNat = 4 ^ L.length := by
          rw [show (2 * (L.length : Int)).toNat = 2 * L.length by omega, Int.pow_mul]; rfl
        have hp : (4 : Int) ^ L.length ≤ 4 ^ 12 := by
          have : (4 : Nat) ^ L.length ≤ 4 ^ 12 := Nat.pow_le_pow_right (by decide) hl
          exact_mod_cast this
        have hp0 : (0 : Int) ≤ 4 ^ L.length := Int.pow_nonneg (by decide)
        rw [e4]
        have fin : Fits .i64 (3 * sq L) ∧ Fits .i64 (2 * (L.length : Int)) ∧ (0 ≤ 2 * (L.length : Int) ∧ 2 * (L.length : Int) < 64) ∧ Fits .i64 (1 * 4 ^ L.length) ∧ Fits .i64 (1 * 4 ^ L.length - 1) :=
          ⟨fi (by omega) (by omega), fi (by omega) (by omega), by omega, fi (by omega) (by omega), fi (by omega) (by omega)⟩
        obtain ⟨f1, f2, f3, f4, f5⟩ := fin
        refine ⟨fun _ => ⟨by omega, fun _ => ⟨fun h => h, fun _ => ⟨f1, f2, f3, f4, f5, fun h => h, fun h => absurd (by omega) h⟩⟩, fun _ => ⟨fun _ => ⟨f1, f2, f3, f4, f5, fun h => h, fun h => absurd (by omega) h⟩, fun h => by cases h⟩⟩, fun h => absurd rfl h⟩
    · have eL : madeF x 12 = lF x k := by unfold lF; rw [if_neg h3]
      rw [eL]
      have h30 : k % 3 = 0 := by omega
      generalize lF x k = L at hlen
      refine ⟨hlen, fun h => h, fun h => ⟨hlen, ⟨0, by omega, rfl, rfl, rfl⟩, fun j hj => ?_⟩⟩
      have hw := check_ok.1 (Classical.not_not.1 h)
      have hl := hw.len
      have hv : ∀ v ∈ L, 0 ≤ v ∧ v ≤ 100000 := fun v h => ⟨by have := hw.lo v h; omega, hw.hi v h⟩
      refine ⟨fun h4 => ?_, fun h4 => ?_⟩
      · have h5 := hv _ (getD_mem L 0 (k := j) (by omega))
        have h6 := sq_bound (L.take (j + 1)) fun v h => hv v (List.mem_of_mem_take h)
        rw [List.length_take, sq_take (by omega)] at h6
        exact ⟨by omega, by omega, mul_fit (by omega) (by omega) (by omega) (by omega), fi (by omega) (by omega), fi (by omega) (by omega), j + 1, by omega, by omega, by omega, (sq_take (by omega)).symm⟩
      · have ej : j = L.length := by omega
        subst ej
        rw [List.take_length, dist_of hw]
        have h6 := sq_bound L hv
        have e4 : (2 : Int) ^ (2 * (L.length : Int)).toNat = 4 ^ L.length := by
          rw [show (2 * (L.length : Int)).toNat = 2 * L.length by omega, Int.pow_mul]; rfl
        have hp : (4 : Int) ^ L.length ≤ 4 ^ 12 := by
          have : (4 : Nat) ^ L.length ≤ 4 ^ 12 := Nat.pow_le_pow_right (by decide) hl
          exact_mod_cast this
        have hp0 : (0 : Int) ≤ 4 ^ L.length := Int.pow_nonneg (by decide)
        rw [e4]
        refine ⟨fun _ => ⟨by omega, fun _ => ⟨fun h => h, fun hd => ?_⟩, fun h => absurd h30 h⟩, fun h => absurd rfl h⟩
        have hd : distF L = true := by simpa using hd
        have hE := erdos hd
        exact ⟨fi (by omega) (by omega), fi (by omega) (by omega), by omega, fi (by omega) (by omega), fi (by omega) (by omega), fun h => h, fun h => absurd (by omega) h⟩
  exact key p.1 p.2 hp.1 hp.2.1
end Go.SX.We
