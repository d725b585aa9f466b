/- Parts of the proof, one after the other: WeNu WeNv WeNw WeNx WeNy WeNz WeZa. -/
import Derived.Test.YtgbnkmhabhgigaaGreatM4
/- Chapter 08: numbers by their figures, in any base. -/
namespace Go.SX.We.Nm
def valF (b : Int) : List Int → Int
  | [] => 0
  | x :: r => x + b * valF b r
def FigsF (b : Int) (xs : List Int) : Prop := ∀ x ∈ xs, 0 ≤ x ∧ x < b
def digs (b : Int) : Int → Nat → List Int
  | _, 0 => []
  | z, n + 1 => z % b :: digs b (z / b) n
def trimF : List Int → List Int
  | [] => []
  | x :: r => match trimF r with
    | [] => if x = 0 then [] else [x]
    | y :: t => x :: y :: t
def CanF (b : Int) (xs : List Int) : Prop := FigsF b xs ∧ xs.getLast? ≠ some 0
def limA (b : Int) : Nat → Int → List Int
  | 0, _ => []
  | f + 1, z => if z ≤ 0 then [] else z % b :: limA b f (z / b)
def lim (b z : Int) : List Int := limA b z.toNat z
abbrev vQ (xs : List Int) : Int := valF 4294967296 xs
abbrev dQ (z : Int) (n : Nat) : List Int := digs 4294967296 z n
abbrev lQ (z : Int) : List Int := lim 4294967296 z
section
variable {b : Int}
theorem figs_cons {x : Int} {xs : List Int} : FigsF b (x :: xs) ↔ (0 ≤ x ∧ x < b) ∧ FigsF b xs := by simp [FigsF]
theorem figs_app {xs ys : List Int} : FigsF b (xs ++ ys) ↔ FigsF b xs ∧ FigsF b ys := by
  constructor
  · intro h
    exact ⟨fun x hx => h x (List.mem_append_left _ hx), fun x hx => h x (List.mem_append_right _ hx)⟩
  · rintro ⟨h1, h2⟩ x hx
    exact (List.mem_append.1 hx).elim (h1 x) (h2 x)
theorem figs_take {xs : List Int} (h : FigsF b xs) (n : Nat) : FigsF b (xs.take n) := fun x hx => h x (List.mem_of_mem_take hx)
theorem figs_drop {xs : List Int} (h : FigsF b xs) (n : Nat) : FigsF b (xs.drop n) := fun x hx => h x (List.mem_of_mem_drop hx)
theorem figs_getD {xs : List Int} (hb : 0 < b) (h : FigsF b xs) (i : Nat) : 0 ≤ xs.getD i 0 ∧ xs.getD i 0 < b := by
  rw [List.getD_eq_getElem?_getD]
  cases e : xs[i]? with
  | none => simp; exact hb
  | some x => exact h x (List.mem_of_getElem? e)
theorem pow_pos' (hb : 0 < b) (n : Nat) : 0 < b ^ n := by
  induction n with
  | zero => simp
  | succ n ih => rw [Int.pow_succ]; exact Int.mul_pos ih hb
theorem val_app (xs ys : List Int) : valF b (xs ++ ys) = valF b xs + b ^ xs.length * valF b ys := by
  induction xs with
  | nil => simp [valF]
  | cons x xs ih =>
    simp only [List.cons_append, valF, ih, List.length_cons, Int.pow_succ, Int.mul_add]
    rw [Int.mul_comm (b ^ xs.length) b, Int.mul_assoc]; omega
theorem val_rep0 (n : Nat) : valF b (List.replicate n 0) = 0 := by
  induction n with
  | zero => rfl
  | succ n ih => simp [List.replicate_succ, valF, ih]
theorem val_range {xs : List Int} (hb : 0 < b) (h : FigsF b xs) : 0 ≤ valF b xs ∧ valF b xs < b ^ xs.length := by
  induction xs with
  | nil => simp [valF]
  | cons x xs ih =>
    obtain ⟨⟨h1, h2⟩, h3⟩ := figs_cons.1 h
    obtain ⟨i1, i2⟩ := ih h3
    simp only [valF, List.length_cons, Int.pow_succ]
    have a1 : 0 ≤ b * valF b xs := Int.mul_nonneg (by omega) i1
    have a2 : b * (valF b xs + 1) ≤ b * b ^ xs.length := Int.mul_le_mul_of_nonneg_left i2 (by omega)
    rw [Int.mul_add, Int.mul_comm b (b ^ xs.length)] at a2
    omega
theorem val_take_succ {xs : List Int} {i : Nat} (hi : i < xs.length) : valF b (xs.take (i + 1)) = valF b (xs.take i) + xs.getD i 0 * b ^ i := by
  have e : xs.take (i + 1) = xs.take i ++ [xs.getD i 0] := by
    rw [List.take_add_one, List.getD_eq_getElem?_getD, List.getElem?_eq_getElem hi]; rfl
  rw [e, val_app]
  simp [valF, Int.mul_comm, Nat.min_eq_left (Nat.le_of_lt hi)]
theorem val_drop {xs : List Int} {i : Nat} (hi : i < xs.length) : valF b (xs.drop i) = xs.getD i 0 + b * valF b (xs.drop (i + 1)) := by
  rw [List.drop_eq_getElem_cons hi, List.getD_eq_getElem?_getD, List.getElem?_eq_getElem hi]; rfl
theorem val_split (xs : List Int) (i : Nat) : valF b xs = valF b (xs.take i) + b ^ i * valF b (xs.drop i) := by
  rcases Nat.lt_or_ge i xs.length with h | h
  · conv => lhs; rw [← List.take_append_drop i xs]
    rw [val_app]; simp [Nat.min_eq_left (Nat.le_of_lt h)]
  · rw [List.take_of_length_le h, List.drop_eq_nil_of_le h]; simp [valF]
theorem digs_len (z : Int) (n : Nat) : (digs b z n).length = n := by
  induction n generalizing z with
  | zero => rfl
  | succ n ih => simp [digs, ih]
theorem digs_figs (hb : 0 < b) (z : Int) (n : Nat) : FigsF b (digs b z n) := by
  induction n generalizing z with
  | zero => intro x hx; cases hx
  | succ n ih => exact figs_cons.2 ⟨⟨Int.emod_nonneg _ (by omega), Int.emod_lt_of_pos _ hb⟩, ih _⟩
theorem div_div (hb : 0 < b) (z c : Int) : z / b / c = z / (b * c) := by
  rw [Int.ediv_ediv_of_nonneg (by omega)]
theorem digs_app (hb : 0 < b) (z : Int) (i n : Nat) : digs b z (i + n) = digs b z i ++ digs b (z / b ^ i) n := by
  induction i generalizing z with
  | zero => simp [digs]
  | succ i ih =>
    rw [Nat.succ_add]
    simp only [digs, ih, List.cons_append, div_div hb, Int.pow_succ, Int.mul_comm]
theorem digs_snoc (hb : 0 < b) (z : Int) (n : Nat) : digs b z (n + 1) = digs b z n ++ [z / b ^ n % b] := by rw [digs_app hb]; rfl
theorem digs_take (hb : 0 < b) (z : Int) {i n : Nat} (h : i ≤ n) : (digs b z n).take i = digs b z i := by
  obtain ⟨k, rfl⟩ := Nat.le.dest h
  rw [digs_app hb, List.take_left' (digs_len z i)]
theorem digs_drop (hb : 0 < b) (z : Int) {i n : Nat} (h : i ≤ n) : (digs b z n).drop i = digs b (z / b ^ i) (n - i) := by
  obtain ⟨k, rfl⟩ := Nat.le.dest h
  rw [digs_app hb, List.drop_left' (digs_len z i)]
  simp
theorem digs_get (hb : 0 < b) (z : Int) {i n : Nat} (h : i < n) : (digs b z n).getD i 0 = z / b ^ i % b := by
  obtain ⟨k, rfl⟩ := Nat.le.dest h
  rw [show i.succ + k = i + (k + 1) by omega, digs_app hb, List.getD_eq_getElem?_getD, List.getElem?_append_right (by rw [digs_len]; omega), digs_len]
  simp [digs]
theorem val_digs (hb : 0 < b) (z : Int) (n : Nat) : valF b (digs b z n) = z % b ^ n := by
  induction n generalizing z with
  | zero => simp [digs, valF, Int.emod_one]
  | succ n ih =>
    simp only [digs, valF, ih]
    have e1 := Int.emod_add_mul_ediv z b
    have e2 := Int.emod_add_mul_ediv (z / b) (b ^ n)
    have e3 := Int.emod_add_mul_ediv z (b ^ (n + 1))
    rw [Int.pow_succ, Int.mul_comm (b ^ n) b, ← div_div hb, Int.mul_assoc] at e3
    rw [← e2, Int.mul_add] at e1
    rw [Int.pow_succ, Int.mul_comm (b ^ n) b]
    omega
theorem digs_val {xs : List Int} (h : FigsF b xs) : digs b (valF b xs) xs.length = xs := by
  induction xs with
  | nil => rfl
  | cons x xs ih =>
    obtain ⟨⟨h1, h2⟩, h3⟩ := figs_cons.1 h
    have hb : b ≠ 0 := by omega
    simp only [List.length_cons, digs, valF]
    rw [Int.add_mul_emod_self_left, Int.emod_eq_of_lt h1 h2, Int.add_mul_ediv_left _ _ hb, Int.ediv_eq_zero_of_lt h1 h2, Int.zero_add, ih h3]
theorem figs_ext {xs ys : List Int} (hx : FigsF b xs) (hy : FigsF b ys) (hl : xs.length = ys.length) (hv : valF b xs = valF b ys) : xs = ys := by
  rw [← digs_val hx, ← digs_val hy, hl, hv]
theorem digs_congr (hb : 0 < b) {z y : Int} {n : Nat} (h : z % b ^ n = y % b ^ n) : digs b z n = digs b y n :=
  figs_ext (digs_figs hb _ _) (digs_figs hb _ _) (by simp [digs_len]) (by rw [val_digs hb, val_digs hb, h])
theorem digs_add (hb : 0 < b) (z c : Int) (n : Nat) : digs b (z + c * b ^ n) n = digs b z n := digs_congr hb (by rw [Int.add_mul_emod_self_right])
theorem digs_step (hb : 0 < b) (S c : Int) (i : Nat) : digs b (S + c * b ^ i) (i + 1) = digs b S i ++ [(S / b ^ i + c) % b] := by
  have hp := pow_pos' hb i
  rw [digs_snoc hb, digs_add hb, Int.add_mul_ediv_right _ _ (by omega)]
theorem div_step (hb : 0 < b) (S c : Int) (i : Nat) : (S + c * b ^ i) / b ^ (i + 1) = (S / b ^ i + c) / b := by
  have hp := pow_pos' hb i
  rw [Int.pow_succ, ← div_div hp, Int.add_mul_ediv_right _ _ (by omega)]
theorem digs_zero (hb : 0 < b) (n : Nat) : digs b 0 n = List.replicate n 0 := by
  induction n with
  | zero => rfl
  | succ n ih => simp [digs, ih, List.replicate_succ]
theorem digs_more (hb : 0 < b) {z : Int} {i : Nat} (h0 : 0 ≤ z) (h : z < b ^ i) (n : Nat) : digs b z (i + n) = digs b z i ++ List.replicate n 0 := by
  rw [digs_app hb, Int.ediv_eq_zero_of_lt h0 h, digs_zero hb]
theorem trim_cons (x : Int) (r : List Int) : trimF (x :: r) = if x = 0 ∧ trimF r = [] then [] else x :: trimF r := by
  rw [trimF]
  cases trimF r with
  | nil => by_cases h : x = 0 <;> simp [h]
  | cons y t => simp
theorem trim_snoc0 (xs : List Int) : trimF (xs ++ [0]) = trimF xs := by
  induction xs with
  | nil => simp [trimF]
  | cons x xs ih => rw [List.cons_append, trim_cons, trim_cons, ih]
theorem trim_snoc (xs : List Int) {x : Int} (h : x ≠ 0) : trimF (xs ++ [x]) = xs ++ [x] := by
  induction xs with
  | nil => simp [trimF, h]
  | cons y xs ih => rw [List.cons_append, trim_cons, ih]; simp
theorem trim_sub (xs : List Int) : ∃ k, xs = trimF xs ++ List.replicate k 0 := by
  induction xs with
  | nil => exact ⟨0, rfl⟩
  | cons x xs ih =>
    obtain ⟨k, hk⟩ := ih
    rw [trim_cons]
    by_cases h : x = 0 ∧ trimF xs = []
    · rw [if_pos h]
      refine ⟨k + 1, ?_⟩
      rw [h.2] at hk
      rw [h.1, hk, List.replicate_succ]; rfl
    · rw [if_neg h]; exact ⟨k, by rw [List.cons_append, ← hk]⟩
theorem val_trim (xs : List Int) : valF b (trimF xs) = valF b xs := by
  obtain ⟨k, hk⟩ := trim_sub xs
  conv => rhs; rw [hk]
  rw [val_app, val_rep0]; simp
theorem trim_figs {xs : List Int} (h : FigsF b xs) : FigsF b (trimF xs) := by
  obtain ⟨k, hk⟩ := trim_sub xs
  rw [hk] at h
  exact (figs_app.1 h).1
theorem trim_len (xs : List Int) : (trimF xs).length ≤ xs.length := by
  obtain ⟨k, hk⟩ := trim_sub xs
  conv => rhs; rw [hk]
  simp
theorem trim_last (xs : List Int) : (trimF xs).getLast? ≠ some 0 := by
  induction xs with
  | nil => simp [trimF]
  | cons x xs ih =>
    rw [trim_cons]
    by_cases h : x = 0 ∧ trimF xs = []
    · rw [if_pos h]; simp
    · rw [if_neg h]
      cases e : trimF xs with
      | nil => simp [e] at h; simp [h]
      | cons y t => rw [e] at ih; simpa using ih
theorem trim_can {xs : List Int} (h : FigsF b xs) : CanF b (trimF xs) := ⟨trim_figs h, trim_last xs⟩
theorem can_cons {x : Int} {xs : List Int} (h : CanF b (x :: xs)) : (0 ≤ x ∧ x < b) ∧ CanF b xs ∧ (xs = [] → x ≠ 0) := by
  obtain ⟨h1, h2⟩ := h
  obtain ⟨h3, h4⟩ := figs_cons.1 h1
  refine ⟨h3, ⟨h4, fun e => ?_⟩, fun e => ?_⟩
  · cases xs with
    | nil => simp at e
    | cons y t => rw [List.getLast?_cons_cons] at h2; exact h2 e
  · subst e; simpa using h2
theorem can_pos {xs : List Int} (hb : 0 < b) (h : CanF b xs) (hne : xs ≠ []) : 0 < valF b xs := by
  induction xs with
  | nil => exact absurd rfl hne
  | cons x xs ih =>
    obtain ⟨h1, h2, h3⟩ := can_cons h
    simp only [valF]
    cases xs with
    | nil => have := h3 rfl; simp [valF]; omega
    | cons y t =>
      have := ih h2 (by simp)
      have : 0 < b * valF b (y :: t) := Int.mul_pos hb this
      omega
theorem can_low {xs : List Int} (hb : 0 < b) (h : CanF b xs) {n : Nat} (hl : xs.length = n + 1) : b ^ n ≤ valF b xs := by
  induction xs generalizing n with
  | nil => cases hl
  | cons x xs ih =>
    obtain ⟨h1, h2, h3⟩ := can_cons h
    simp only [valF]
    cases n with
    | zero =>
      have : xs = [] := List.eq_nil_of_length_eq_zero (by simpa using hl)
      subst this
      have := h3 rfl
      simp [valF]; omega
    | succ n =>
      have := ih h2 (n := n) (by simpa using hl)
      have : b * b ^ n ≤ b * valF b xs := Int.mul_le_mul_of_nonneg_left this (by omega)
      rw [Int.pow_succ, Int.mul_comm]; omega
theorem limA_can (hb : 2 ≤ b) {xs : List Int} (h : CanF b xs) : ∀ f : Nat, valF b xs ≤ f → limA b f (valF b xs) = xs := by
  induction xs with
  | nil => intro f _; cases f <;> simp [limA, valF]
  | cons x xs ih =>
    intro f hf
    have hp := can_pos (by omega) h (by simp)
    obtain ⟨⟨h1, h1'⟩, h2, h3⟩ := can_cons h
    have hr := val_range (b := b) (by omega) h2.1
    cases f with
    | zero => omega
    | succ f =>
      rw [limA, if_neg (by omega)]
      simp only [valF] at hf hp ⊢
      have : 2 * valF b xs ≤ b * valF b xs := Int.mul_le_mul_of_nonneg_right hb hr.1
      rw [Int.add_mul_emod_self_left, Int.emod_eq_of_lt h1 h1', Int.add_mul_ediv_left _ _ (by omega), Int.ediv_eq_zero_of_lt h1 h1', Int.zero_add, ih h2 f (by omega)]
theorem lim_val (hb : 2 ≤ b) {xs : List Int} (h : CanF b xs) : lim b (valF b xs) = xs := by
  have := val_range (b := b) (by omega) h.1
  exact limA_can hb h _ (by omega)
theorem trim_lim (hb : 2 ≤ b) {xs : List Int} (h : FigsF b xs) : trimF xs = lim b (valF b xs) := by
  rw [← lim_val hb (trim_can h), val_trim]
theorem lt_pow (hb : 2 ≤ b) (n : Nat) : (n : Int) < b ^ n := by
  induction n with
  | zero => simp
  | succ n ih =>
    rw [Int.pow_succ]
    have : b ^ n * 2 ≤ b ^ n * b := Int.mul_le_mul_of_nonneg_left hb (by omega)
    omega
theorem lim_digs (hb : 2 ≤ b) {z : Int} {n : Nat} (h0 : 0 ≤ z) (h : z < b ^ n) : lim b z = trimF (digs b z n) := by
  rw [trim_lim hb (digs_figs (by omega) z n), val_digs (by omega), Int.emod_eq_of_lt h0 h]
theorem lim_digs' (hb : 2 ≤ b) {z : Int} (h0 : 0 ≤ z) : lim b z = trimF (digs b z z.toNat) := lim_digs hb h0 (by have := lt_pow hb z.toNat; omega)
theorem lim_can (hb : 2 ≤ b) {z : Int} (h0 : 0 ≤ z) : CanF b (lim b z) := by
  rw [lim_digs' hb h0]; exact trim_can (digs_figs (by omega) _ _)
theorem val_lim (hb : 2 ≤ b) {z : Int} (h0 : 0 ≤ z) : valF b (lim b z) = z := by
  have := lt_pow hb z.toNat
  rw [lim_digs' hb h0, val_trim, val_digs (by omega), Int.emod_eq_of_lt h0 (by omega)]
theorem lim_len (hb : 2 ≤ b) {z : Int} {n : Nat} (h0 : 0 ≤ z) (h : z < b ^ n) : (lim b z).length ≤ n := by
  rw [lim_digs hb h0 h]
  exact Nat.le_trans (trim_len _) (Nat.le_of_eq (digs_len _ _))
theorem lim_nil (hb : 2 ≤ b) {z : Int} (h0 : 0 ≤ z) : lim b z = [] ↔ z = 0 := by
  constructor
  · intro h
    have := val_lim hb h0
    rw [h] at this
    exact this.symm
  · rintro rfl; rfl
theorem lim_pos (hb : 2 ≤ b) {z : Int} (h0 : 0 ≤ z) : 0 < (lim b z).length ↔ 0 < z := by
  have := lim_nil hb h0
  rw [List.length_pos_iff]
  constructor
  · intro h
    have : z ≠ 0 := fun e => h (this.2 e)
    omega
  · intro h e
    have := this.1 e
    omega
theorem lim_digs_len (hb : 2 ≤ b) {z : Int} (h0 : 0 ≤ z) : digs b z (lim b z).length = lim b z := by
  have := digs_val (lim_can hb h0).1
  rwa [val_lim hb h0] at this
theorem lim_lt (hb : 2 ≤ b) {z : Int} (h0 : 0 ≤ z) : z < b ^ (lim b z).length := by
  have := (val_range (by omega) (lim_can hb h0).1).2
  rwa [val_lim hb h0] at this
theorem lim_step (hb : 2 ≤ b) {z : Int} (h : 0 < z) : lim b z = z % b :: lim b (z / b) := by
  have hc : CanF b (z % b :: lim b (z / b)) := by
    have hd : 0 ≤ z / b := Int.ediv_nonneg (by omega) (by omega)
    have hc := lim_can hb hd
    refine ⟨figs_cons.2 ⟨⟨Int.emod_nonneg _ (by omega), Int.emod_lt_of_pos _ (by omega)⟩, hc.1⟩, ?_⟩
    cases e : lim b (z / b) with
    | nil =>
      have h0 := (lim_nil hb hd).1 e
      have := Int.emod_add_mul_ediv z b
      rw [h0, Int.mul_zero] at this
      simp; omega
    | cons y t => rw [List.getLast?_cons_cons, ← e]; exact hc.2
  have := lim_val hb hc
  rw [← this]
  congr 1
  simp only [valF]
  rw [val_lim hb (Int.ediv_nonneg (by omega) (by omega))]
  have := Int.emod_add_mul_ediv z b
  omega
def cmpD (a c : List Int) : Nat → Int
  | 0 => 0
  | m + 1 => if a.getD m 0 = c.getD m 0 then cmpD a c m else if a.getD m 0 < c.getD m 0 then -1 else 1
def cmpN (a c : List Int) : Int := if a.length = c.length then cmpD a c a.length else if a.length < c.length then -1 else 1
def sgnF (z : Int) : Int := if z < 0 then -1 else if z = 0 then 0 else 1
theorem cmpD_sgn (hb : 0 < b) {a c : List Int} (ha : FigsF b a) (hc : FigsF b c) {m : Nat} (h1 : m ≤ a.length) (h2 : m ≤ c.length) : cmpD a c m = sgnF (valF b (a.take m) - valF b (c.take m)) := by
  induction m with
  | zero => simp [cmpD, valF, sgnF]
  | succ m ih =>
    rw [cmpD, val_take_succ (by omega), val_take_succ (by omega)]
    have r1 := val_range hb (figs_take ha m)
    have r2 := val_range hb (figs_take hc m)
    rw [List.length_take, Nat.min_eq_left (by omega)] at r1 r2
    have hp := pow_pos' hb m
    by_cases h : a.getD m 0 = c.getD m 0
    · rw [if_pos h, ih (by omega) (by omega), h]; congr 1; omega
    · rw [if_neg h]
      by_cases h' : a.getD m 0 < c.getD m 0
      · rw [if_pos h']
        have : (a.getD m 0 + 1) * b ^ m ≤ c.getD m 0 * b ^ m := Int.mul_le_mul_of_nonneg_right h' (by omega)
        rw [Int.add_mul, Int.one_mul] at this
        rw [sgnF, if_pos (by omega)]
      · rw [if_neg h']
        have : (c.getD m 0 + 1) * b ^ m ≤ a.getD m 0 * b ^ m := Int.mul_le_mul_of_nonneg_right (by omega) (by omega)
        rw [Int.add_mul, Int.one_mul] at this
        rw [sgnF, if_neg (by omega), if_neg (by omega)]
theorem cmpN_sgn (hb : 0 < b) {a c : List Int} (ha : CanF b a) (hc : CanF b c) : cmpN a c = sgnF (valF b a - valF b c) := by
  have key : ∀ {a c : List Int}, CanF b a → CanF b c → a.length < c.length → valF b a < valF b c := fun {a c} ha hc h => by
    have r1 := val_range hb ha.1
    have r2 := can_low hb hc (n := c.length - 1) (by omega)
    have : b ^ a.length ≤ b ^ (c.length - 1) := by
      obtain ⟨k, hk⟩ := Nat.le.dest (show a.length ≤ c.length - 1 by omega)
      rw [← hk, Int.pow_add]
      have := Int.mul_le_mul_of_nonneg_left (show (1 : Int) ≤ b ^ k from pow_pos' hb k) (show 0 ≤ b ^ a.length by have := pow_pos' hb a.length; omega)
      omega
    omega
  unfold cmpN
  by_cases h : a.length = c.length
  · rw [if_pos h, cmpD_sgn hb ha.1 hc.1 (Nat.le_refl _) (by omega), List.take_length, h, List.take_length]
  · rw [if_neg h]
    by_cases h' : a.length < c.length
    · have := key ha hc h'
      rw [if_pos h', sgnF, if_pos (by omega)]
    · have := key hc ha (by omega)
      rw [if_neg h', sgnF, if_neg (by omega), if_neg (by omega)]
end
end Go.SX.We.Nm

/- Chapter 08: the steps of the programs on figures. -/
namespace Go.SX.We.Nm
open Go
theorem w32 (n : Int) : IntKind.u32.wrap n = n % 4294967296 := by
  unfold IntKind.wrap IntKind.signed IntKind.bits
  simp
theorem w64 (n : Int) : IntKind.u64.wrap n = n % 18446744073709551616 := by
  unfold IntKind.wrap IntKind.signed IntKind.bits
  simp
theorem w64_id {n : Int} (h : 0 ≤ n) (h' : n < 18446744073709551616) : IntKind.u64.wrap n = n := by rw [w64]; omega
theorem w32_id {n : Int} (h : 0 ≤ n) (h' : n < 4294967296) : IntKind.u32.wrap n = n := by rw [w32]; omega
section
variable {b : Int}
theorem pow_mono' (hb : 0 < b) {m n : Nat} (h : m ≤ n) : b ^ m ≤ b ^ n := by
  obtain ⟨k, rfl⟩ := Nat.le.dest h
  rw [Int.pow_add]
  have h1 := pow_pos' hb m
  have := Int.mul_le_mul_of_nonneg_left (show (1 : Int) ≤ b ^ k from pow_pos' hb k) (show 0 ≤ b ^ m by omega)
  omega
theorem val_take_range (hb : 0 < b) {xs : List Int} (h : FigsF b xs) (k : Nat) : 0 ≤ valF b (xs.take k) ∧ valF b (xs.take k) < b ^ k := by
  have r := val_range hb (figs_take h k)
  have : b ^ (xs.take k).length ≤ b ^ k := pow_mono' hb (by rw [List.length_take]; omega)
  omega
theorem val_take_succ' (xs : List Int) (i : Nat) : valF b (xs.take (i + 1)) = valF b (xs.take i) + xs.getD i 0 * b ^ i := by
  rcases Nat.lt_or_ge i xs.length with h | h
  · exact val_take_succ h
  · rw [List.take_of_length_le (by omega), List.take_of_length_le h, List.getD_eq_getElem?_getD, List.getElem?_eq_none (by omega)]
    simp
theorem val_div (hb : 0 < b) {xs : List Int} (h : FigsF b xs) (i : Nat) : valF b xs / b ^ i = valF b (xs.drop i) := by
  have hp := pow_pos' hb i
  have r := val_take_range hb h i
  rw [val_split xs i, Int.add_mul_ediv_left _ _ (by omega), Int.ediv_eq_zero_of_lt r.1 r.2, Int.zero_add]
theorem step_row (hb : 0 < b) {S c v : Int} {k m : Nat} (hv : v = (S / b ^ k + c) % b) : (digs b S k ++ List.replicate (m + 1) 0).set k v = digs b (S + c * b ^ k) (k + 1) ++ List.replicate m 0 := by
  rw [digs_step hb, hv]
  have e : ∀ (xs : List Int) (v : Int), xs.length = k → (xs ++ List.replicate (m + 1) 0).set k v = xs ++ [v] ++ List.replicate m 0 := by
    intro xs v hl
    rw [List.set_append_right _ _ (by omega), hl, Nat.sub_self, List.replicate_succ, List.set_cons_zero, List.append_assoc]; rfl
  exact e _ _ (digs_len _ _)
theorem last_row (hb : 0 < b) {S : Int} {k : Nat} (h0 : 0 ≤ S / b ^ k) (h1 : S / b ^ k < b) {m : Nat} : (digs b S k ++ List.replicate (m + 1) 0).set k (S / b ^ k) = digs b S (k + 1) ++ List.replicate m 0 := by
  have := step_row (S := S) (c := 0) (k := k) (m := m) (v := S / b ^ k) hb (by rw [Int.add_zero, Int.emod_eq_of_lt h0 h1])
  simpa using this
theorem div_le_one (hb : 0 < b) {S : Int} {k : Nat} (h0 : 0 ≤ S) (h1 : S < 2 * b ^ k) : 0 ≤ S / b ^ k ∧ S / b ^ k ≤ 1 := by
  have hp := pow_pos' hb k
  refine ⟨Int.ediv_nonneg h0 (by omega), ?_⟩
  have := Int.ediv_lt_of_lt_mul hp h1
  omega
theorem div_neg_one (hb : 0 < b) {S : Int} {k : Nat} (h0 : -b ^ k ≤ S) (h1 : S < b ^ k) : -1 ≤ S / b ^ k ∧ S / b ^ k ≤ 0 := by
  have hp := pow_pos' hb k
  refine ⟨?_, ?_⟩
  · exact (Int.le_ediv_iff_mul_le hp).2 (by omega)
  · have := Int.ediv_lt_of_lt_mul hp (a := S) (b := 1) (by omega)
    omega
end
theorem ofInt_nat {w a : Nat} (h : a < 2 ^ w) : (BitVec.ofInt w (a : Int)).toNat = a := by
  rw [BitVec.ofInt_natCast, BitVec.toNat_ofNat, Nat.mod_eq_of_lt h]
theorem wrap_nat {k : IntKind} (hs : k.signed = false) {a : Nat} (h : a < 2 ^ k.bits) : k.wrap (a : Int) = (a : Int) := by
  unfold IntKind.wrap
  simp only [hs, Bool.false_and, Bool.false_eq_true, if_false]
  have : ((2 ^ k.bits : Nat) : Int) = (2 : Int) ^ k.bits := by rw [Int.natCast_pow]; rfl
  exact Int.emod_eq_of_lt (by omega) (by omega)
theorem or_nat {k : IntKind} (hs : k.signed = false) {a c : Nat} (ha : a < 2 ^ k.bits) (hc : c < 2 ^ k.bits) : bitsF .or k (a : Int) (c : Int) = ((a ||| c : Nat) : Int) := by
  simp only [bitsF, BitVec.toNat_or, ofInt_nat ha, ofInt_nat hc]
  exact wrap_nat hs (Nat.or_lt_two_pow ha hc)
theorem and_nat {k : IntKind} (hs : k.signed = false) {a c : Nat} (ha : a < 2 ^ k.bits) (hc : c < 2 ^ k.bits) : bitsF .and k (a : Int) (c : Int) = ((a &&& c : Nat) : Int) := by
  simp only [bitsF, BitVec.toNat_and, ofInt_nat ha, ofInt_nat hc]
  exact wrap_nat hs (Nat.and_lt_two_pow _ hc)
theorem xor_nat {k : IntKind} (hs : k.signed = false) {a c : Nat} (ha : a < 2 ^ k.bits) (hc : c < 2 ^ k.bits) : bitsF .xor k (a : Int) (c : Int) = ((a ^^^ c : Nat) : Int) := by
  simp only [bitsF, BitVec.toNat_xor, ofInt_nat ha, ofInt_nat hc]
  exact wrap_nat hs (Nat.xor_lt_two_pow ha hc)
theorem or_add {n a c : Nat} (h : c < 2 ^ n) : a * 2 ^ n ||| c = a * 2 ^ n + c := by
  rw [← Nat.shiftLeft_eq, Nat.shiftLeft_add_eq_or_of_lt h]
theorem bits_or {k : IntKind} (hs : k.signed = false) {n : Nat} {a c : Int} (ha : 0 ≤ a) (hc : 0 ≤ c) (h1 : a * 2 ^ n < 2 ^ k.bits) (h2 : c < 2 ^ n) (h3 : n ≤ k.bits) :
    bitsF .or k (a * 2 ^ n) c = a * 2 ^ n + c ∧ bitsF .or k c (a * 2 ^ n) = a * 2 ^ n + c := by
  obtain ⟨x, rfl⟩ := Int.eq_ofNat_of_zero_le ha
  obtain ⟨y, rfl⟩ := Int.eq_ofNat_of_zero_le hc
  have e : ∀ m : Nat, ((2 ^ m : Nat) : Int) = (2 : Int) ^ m := fun m => by rw [Int.natCast_pow]; rfl
  rw [← e, ← Int.natCast_mul] at *
  have q1 : x * 2 ^ n < 2 ^ k.bits := Int.ofNat_lt.1 h1
  have q2 : y < 2 ^ n := Int.ofNat_lt.1 h2
  have q3 : y < 2 ^ k.bits := Nat.lt_of_lt_of_le q2 (Nat.pow_le_pow_right (by omega) h3)
  rw [or_nat hs q1 q3, or_nat hs q3 q1, Nat.or_comm y, or_add q2]
  exact ⟨by omega, by omega⟩
theorem bit31 {n : Nat} (h : n < 4294967296) : n / 2147483648 = (n.testBit 31).toNat := by
  rw [Nat.testBit_eq_decide_div_mod_eq]
  have e : 2 ^ 31 = 2147483648 := by decide
  rw [e]
  rcases Nat.lt_or_ge n 2147483648 with q | q
  · have : n / 2147483648 = 0 := by omega
    rw [this]; rfl
  · have : n / 2147483648 = 1 := by omega
    rw [this]; rfl
theorem bit31' {n : Nat} (h : n < 4294967296) : n.testBit 31 = decide (2147483648 ≤ n) := by
  have := bit31 h
  rcases Nat.lt_or_ge n 2147483648 with q | q
  · rw [decide_eq_false (by omega)]
    cases hb : n.testBit 31 with
    | false => rfl
    | true => rw [hb] at this; simp at this; omega
  · rw [decide_eq_true q]
    cases hb : n.testBit 31 with
    | true => rfl
    | false => rw [hb] at this; simp at this; omega
theorem sub32 {x y c : Int} (hx : 0 ≤ x ∧ x < 4294967296) (hy : 0 ≤ y ∧ y < 4294967296) (hc : 0 ≤ c ∧ c ≤ 1) :
    bitsF BinOp.or IntKind.u32 (bitsF BinOp.and IntKind.u32 (bitsF BinOp.xor IntKind.u32 4294967295 x) y)
        (bitsF BinOp.and IntKind.u32 (bitsF BinOp.xor IntKind.u32 4294967295 (bitsF BinOp.xor IntKind.u32 x y)) ((x - y - c) % 4294967296)) / 2147483648 = -((x - y - c) / 4294967296) := by
  obtain ⟨d, hd⟩ : ∃ d, d = (x - y - c) % 4294967296 := ⟨_, rfl⟩
  rw [← hd]
  have hd' : 0 ≤ d ∧ d < 4294967296 := by omega
  have hr : x - y - c = d - 4294967296 * (-((x - y - c) / 4294967296)) := by omega
  obtain ⟨r, hr'⟩ : ∃ r, r = -((x - y - c) / 4294967296) := ⟨_, rfl⟩
  rw [← hr'] at hr ⊢
  clear hd hr'
  obtain ⟨X, rfl⟩ := Int.eq_ofNat_of_zero_le hx.1
  obtain ⟨Y, rfl⟩ := Int.eq_ofNat_of_zero_le hy.1
  obtain ⟨D, rfl⟩ := Int.eq_ofNat_of_zero_le hd'.1
  have hs : IntKind.u32.signed = false := rfl
  have hb : 2 ^ IntKind.u32.bits = 4294967296 := by decide
  have gX : X < 2 ^ IntKind.u32.bits := by omega
  have gY : Y < 2 ^ IntKind.u32.bits := by omega
  have gD : D < 2 ^ IntKind.u32.bits := by omega
  have gM : 4294967295 < 2 ^ IntKind.u32.bits := by omega
  have m : (4294967295 : Int) = ((4294967295 : Nat) : Int) := rfl
  rw [m, xor_nat hs gM gX, xor_nat hs gX gY, xor_nat hs gM (Nat.xor_lt_two_pow gX gY), and_nat hs (Nat.xor_lt_two_pow gM gX) gY, and_nat hs (Nat.xor_lt_two_pow gM (Nat.xor_lt_two_pow gX gY)) gD,
    or_nat hs (Nat.and_lt_two_pow _ gY) (Nat.and_lt_two_pow _ gD)]
  have g := Nat.or_lt_two_pow (Nat.and_lt_two_pow (4294967295 ^^^ X) gY) (Nat.and_lt_two_pow (4294967295 ^^^ (X ^^^ Y)) gD)
  rw [hb] at gX gY gD g
  rw [show (2147483648 : Int) = ((2147483648 : Nat) : Int) from rfl, ← Int.natCast_ediv, bit31 g]
  rw [Nat.testBit_or, Nat.testBit_and, Nat.testBit_and, Nat.testBit_xor, Nat.testBit_xor, Nat.testBit_xor, bit31' gX, bit31' gY, bit31' gD, bit31' (n := 4294967295) (by omega)]
  by_cases h1 : 2147483648 ≤ X <;> by_cases h2 : 2147483648 ≤ Y <;> by_cases h3 : 2147483648 ≤ D <;> simp [h1, h2, h3] <;> omega
end Go.SX.We.Nm

/- Chapter 08: one figure of a quotient. -/
namespace Go.SX.We.Nm
def putF (us : List Int) (j : Nat) (ys : List Int) : List Int := us.take j ++ (ys ++ us.drop (j + ys.length))
def midF (us : List Int) (j n : Nat) : List Int := (us.drop j).take (n + 1)
def dU (us : List Int) (j : Nat) (v : List Int) : Int := valF 4294967296 (midF us j v.length)
def dV (v : List Int) : Int := valF 4294967296 v
def dTop (us : List Int) (j : Nat) (v : List Int) : Int := us.getD (j + v.length) 0 * 4294967296 + us.getD (j + (v.length - 1)) 0
def dV1 (v : List Int) : Int := v.getD (v.length - 1) 0
def dP (v : List Int) (g : Int) (i : Nat) : Int := g * valF 4294967296 (v.take i)
def dD (us : List Int) (j : Nat) (v : List Int) (g : Int) (i : Nat) : Int := valF 4294967296 ((midF us j v.length).take i) - dP v g i % 4294967296 ^ i
def dW (us : List Int) (j : Nat) (v : List Int) (g : Int) : Int := dU us j v - g * dV v
def dS (us : List Int) (j : Nat) (v : List Int) (g : Int) (i : Nat) : Int := dW us j v g % 4294967296 ^ i + valF 4294967296 (v.take i)
theorem cw0 : (0 : Int) < 4294967296 := by decide
section
variable {us ys : List Int} {j : Nat}
theorem putF_len (h : j + ys.length ≤ us.length) : (putF us j ys).length = us.length := by
  simp [putF]; omega
theorem putF_nil : putF us j [] = us := by simp [putF]
theorem putF_lt (hj : j ≤ us.length) {i : Nat} (hi : i < ys.length) : (putF us j ys).getD (j + i) 0 = ys.getD i 0 := by
  rw [List.getD_eq_getElem?_getD, putF, List.getElem?_append_right (by simp; omega), List.length_take, Nat.min_eq_left hj, Nat.add_sub_cancel_left, List.getElem?_append_left hi, ← List.getD_eq_getElem?_getD]
theorem putF_ge (hj : j + ys.length ≤ us.length) {i : Nat} (hi : ys.length ≤ i) : (putF us j ys).getD (j + i) 0 = us.getD (j + i) 0 := by
  rw [List.getD_eq_getElem?_getD, putF, List.getElem?_append_right (by simp; omega), List.length_take, Nat.min_eq_left (by omega), Nat.add_sub_cancel_left, List.getElem?_append_right hi, List.getElem?_drop, ← List.getD_eq_getElem?_getD]
  congr 1; omega
theorem putF_set (hj : j ≤ us.length) {i : Nat} (hi : i < ys.length) (v : Int) : (putF us j ys).set (j + i) v = putF us j (ys.set i v) := by
  rw [putF, putF, List.set_append_right _ _ (by simp; omega), List.length_take, Nat.min_eq_left hj, Nat.add_sub_cancel_left, List.set_append_left _ _ hi, List.length_set]
theorem putF_set_end (hj : j + ys.length < us.length) (v : Int) : (putF us j ys).set (j + ys.length) v = putF us j (ys ++ [v]) := by
  rw [putF, putF, List.set_append_right _ _ (by simp; omega), List.length_take, Nat.min_eq_left (by omega), Nat.add_sub_cancel_left, List.set_append_right _ _ (Nat.le_refl _), Nat.sub_self, List.drop_eq_getElem_cons hj, List.set_cons_zero, List.append_assoc]
  simp [Nat.add_assoc]
theorem mid_len {n : Nat} (h : j + n + 1 ≤ us.length) : (midF us j n).length = n + 1 := by simp [midF]; omega
theorem mid_get {n i : Nat} (hi : i ≤ n) : (midF us j n).getD i 0 = us.getD (j + i) 0 := by
  rw [List.getD_eq_getElem?_getD, midF, List.getElem?_take_of_lt (by omega), List.getElem?_drop, ← List.getD_eq_getElem?_getD]
theorem mid_figs {b : Int} {n : Nat} (h : FigsF b us) : FigsF b (midF us j n) := figs_take (figs_drop h j) _
end
theorem mod_step {b : Int} (hb : 0 < b) (S c : Int) (i : Nat) : (S + c * b ^ i) % b ^ (i + 1) = S % b ^ i + (S / b ^ i + c) % b * b ^ i := by
  rw [← val_digs hb, digs_step hb, val_app, val_digs hb, digs_len]
  simp [valF, Int.mul_comm]
structure DigP (us : List Int) (j : Nat) (v : List Int) : Prop where
  fu : FigsF 4294967296 us
  fv : FigsF 4294967296 v
  n2 : 2 ≤ v.length
  nv : v.length ≤ 200000
  nu : us.length ≤ 200000
  room : j + v.length + 1 ≤ us.length
  top : 1 ≤ dV1 v
  less : dU us j v < dV v * 4294967296
section
variable {us v : List Int} {j : Nat}
theorem DigP.ml (h : DigP us j v) : (midF us j v.length).length = v.length + 1 := mid_len h.room
theorem DigP.fm (h : DigP us j v) : FigsF 4294967296 (midF us j v.length) := mid_figs h.fu
theorem DigP.v1 (h : DigP us j v) : dV1 v < 4294967296 := (figs_getD cw0 h.fv _).2
theorem DigP.u0 (h : DigP us j v) : 0 ≤ dU us j v := (val_range cw0 h.fm).1
theorem DigP.split1 (h : DigP us j v) : ∃ l L : Int, (0 ≤ l ∧ l < 4294967296 ^ (v.length - 1)) ∧ (0 ≤ L ∧ L < 4294967296 ^ (v.length - 1)) ∧ dV v = l + dV1 v * 4294967296 ^ (v.length - 1) ∧ dU us j v = L + dTop us j v * 4294967296 ^ (v.length - 1) := by
  have hn := h.n2
  have hm := h.ml
  refine ⟨_, _, val_take_range cw0 h.fv _, val_take_range cw0 h.fm _, ?_, ?_⟩
  · have := val_take_succ' (b := 4294967296) v (v.length - 1)
    rw [show v.length - 1 + 1 = v.length by omega, List.take_length] at this
    exact this
  · have e1 := val_take_succ' (b := 4294967296) (midF us j v.length) (v.length - 1)
    have e2 := val_take_succ' (b := 4294967296) (midF us j v.length) v.length
    rw [show v.length - 1 + 1 = v.length by omega] at e1
    rw [List.take_of_length_le (by omega), e1, mid_get (by omega), mid_get (by omega)] at e2
    rw [dU, e2, dTop, Int.add_mul, show (4294967296 : Int) ^ v.length = 4294967296 * 4294967296 ^ (v.length - 1) by rw [Int.mul_comm, ← Int.pow_succ]; congr 1; omega, Int.mul_assoc]
    omega
theorem DigP.split2 (h : DigP us j v) : ∃ l L : Int, (0 ≤ l ∧ l < 4294967296 ^ (v.length - 2)) ∧ (0 ≤ L ∧ L < 4294967296 ^ (v.length - 2)) ∧ dV v = l + (v.getD (v.length - 2) 0 + 4294967296 * dV1 v) * 4294967296 ^ (v.length - 2) ∧
    dU us j v = L + (us.getD (j + (v.length - 2)) 0 + 4294967296 * dTop us j v) * 4294967296 ^ (v.length - 2) := by
  have hn := h.n2
  obtain ⟨l, L, h1, h2, h3, h4⟩ := h.split1
  have hp : (4294967296 : Int) ^ (v.length - 1) = 4294967296 * 4294967296 ^ (v.length - 2) := by rw [Int.mul_comm, ← Int.pow_succ]; congr 1; omega
  have e1 := val_take_succ' (b := 4294967296) v (v.length - 2)
  have e2 := val_take_succ' (b := 4294967296) (midF us j v.length) (v.length - 2)
  have e3 := val_take_succ' (b := 4294967296) v (v.length - 1)
  have e4 := val_take_succ' (b := 4294967296) (midF us j v.length) (v.length - 1)
  have e5 := val_take_succ' (b := 4294967296) (midF us j v.length) v.length
  rw [show v.length - 2 + 1 = v.length - 1 by omega] at e1 e2
  rw [show v.length - 1 + 1 = v.length by omega] at e3 e4
  rw [List.take_length, e1] at e3
  rw [List.take_of_length_le (by rw [h.ml]; omega), e4, e2] at e5
  rw [mid_get (by omega), mid_get (by omega), mid_get (by omega)] at e5
  refine ⟨_, _, val_take_range cw0 h.fv _, val_take_range cw0 h.fm (v.length - 2), ?_, ?_⟩
  · rw [dV, e3, Int.add_mul, dV1, hp, Int.mul_left_comm, ← Int.mul_assoc]; omega
  · rw [dU, e5, Int.add_mul, dTop, Int.mul_add, Int.add_mul, hp, show (4294967296 : Int) ^ v.length = 4294967296 * (4294967296 * 4294967296 ^ (v.length - 2)) by rw [← hp, Int.mul_comm, ← Int.pow_succ]; congr 1; omega]
    have : ∀ a b p : Int, 4294967296 * (a * 4294967296) * p = a * (4294967296 * (4294967296 * p)) := fun a b p => by rw [Int.mul_comm 4294967296 (a * 4294967296), Int.mul_assoc, Int.mul_assoc]
    rw [this _ 0, Int.mul_left_comm (us.getD (j + (v.length - 1)) 0), Int.mul_assoc 4294967296 (us.getD (j + (v.length - 1)) 0)]
    omega
theorem DigP.vpos (h : DigP us j v) : 4294967296 ^ (v.length - 1) ≤ dV v ∧ dV v < 4294967296 ^ v.length := by
  obtain ⟨l, L, h1, h2, h3, h4⟩ := h.split1
  have hp := pow_pos' cw0 (v.length - 1)
  have : 1 * (4294967296 : Int) ^ (v.length - 1) ≤ dV1 v * 4294967296 ^ (v.length - 1) := Int.mul_le_mul_of_nonneg_right h.top (by omega)
  exact ⟨by omega, (val_range cw0 h.fv).2⟩
theorem DigP.v0 (h : DigP us j v) : 0 < dV v := by
  have := h.vpos.1
  have hp := pow_pos' cw0 (v.length - 1)
  omega
theorem DigP.q0 (h : DigP us j v) : 0 ≤ dU us j v / dV v ∧ dU us j v / dV v < 4294967296 :=
  ⟨Int.ediv_nonneg h.u0 (Int.le_of_lt h.v0), Int.ediv_lt_of_lt_mul h.v0 (by rw [Int.mul_comm]; exact h.less)⟩
theorem DigP.top_le (h : DigP us j v) : 0 ≤ dTop us j v ∧ dTop us j v < (dV1 v + 1) * 4294967296 := by
  obtain ⟨l, L, h1, h2, h3, h4⟩ := h.split1
  have hp := pow_pos' cw0 (v.length - 1)
  have a1 := figs_getD cw0 h.fu (j + v.length)
  have a2 := figs_getD cw0 h.fu (j + (v.length - 1))
  refine ⟨by unfold dTop; omega, ?_⟩
  have hl := h.less
  have b1 : dV v * 4294967296 < (dV1 v + 1) * 4294967296 ^ (v.length - 1) * 4294967296 := by
    apply Int.mul_lt_mul_of_pos_right _ (by decide)
    rw [h3, Int.add_mul]; omega
  have b2 : dTop us j v * 4294967296 ^ (v.length - 1) < (dV1 v + 1) * 4294967296 * 4294967296 ^ (v.length - 1) := by
    rw [Int.mul_right_comm]; omega
  exact Int.lt_of_mul_lt_mul_right b2 (by omega)
theorem DigP.first (h : DigP us j v) : dU us j v / dV v ≤ dTop us j v / dV1 v := by
  obtain ⟨l, L, h1, h2, h3, h4⟩ := h.split1
  have hp := pow_pos' cw0 (v.length - 1)
  have ht := h.top
  rw [Int.le_ediv_iff_mul_le (by omega)]
  have q := h.q0.1
  have a1 : dU us j v / dV v * dV v ≤ dU us j v := Int.ediv_mul_le _ (by have := h.v0; omega)
  have a2 : dU us j v / dV v * (dV1 v * 4294967296 ^ (v.length - 1)) ≤ dU us j v / dV v * dV v := Int.mul_le_mul_of_nonneg_left (by omega) q
  have a3 : (dU us j v / dV v * dV1 v) * 4294967296 ^ (v.length - 1) < (dTop us j v + 1) * 4294967296 ^ (v.length - 1) := by
    rw [Int.mul_assoc, Int.add_mul]; omega
  have := Int.lt_of_mul_lt_mul_right a3 (by omega)
  omega
theorem DigP.great (h : DigP us j v) {g : Int} (hg : us.getD (j + (v.length - 2)) 0 + 4294967296 * (dTop us j v - g * dV1 v) < g * v.getD (v.length - 2) 0) : dU us j v / dV v ≤ g - 1 := by
  obtain ⟨l, L, h1, h2, h3, h4⟩ := h.split2
  have hp := pow_pos' cw0 (v.length - 2)
  have q := h.q0.1
  rcases Int.lt_or_le (dU us j v / dV v) g with hlt | hge
  · omega
  exfalso
  have f1 := figs_getD cw0 h.fv (v.length - 2)
  have ht := h.top
  obtain ⟨y, hy⟩ : ∃ y, y = v.getD (v.length - 2) 0 + 4294967296 * dV1 v := ⟨_, rfl⟩
  obtain ⟨u3, hu3⟩ : ∃ u3, u3 = us.getD (j + (v.length - 2)) 0 + 4294967296 * dTop us j v := ⟨_, rfl⟩
  rw [← hy] at h3
  rw [← hu3] at h4
  have a1 : dU us j v / dV v * dV v ≤ dU us j v := Int.ediv_mul_le _ (by have := h.v0; omega)
  have a2 : g * y ≤ dU us j v / dV v * y := Int.mul_le_mul_of_nonneg_right hge (by omega)
  have a3 : u3 + 1 ≤ g * y := by
    rw [hy, hu3, Int.mul_add]
    have : g * (4294967296 * dV1 v) = 4294967296 * (g * dV1 v) := Int.mul_left_comm _ _ _
    omega
  have a4 : (u3 + 1) * 4294967296 ^ (v.length - 2) ≤ dU us j v / dV v * y * 4294967296 ^ (v.length - 2) := Int.mul_le_mul_of_nonneg_right (by omega) (by omega)
  have a5 : dU us j v / dV v * (y * 4294967296 ^ (v.length - 2)) ≤ dU us j v / dV v * dV v := Int.mul_le_mul_of_nonneg_left (by omega) q
  rw [Int.add_mul] at a4
  rw [← Int.mul_assoc] at a5
  omega
theorem DigP.fine (h : DigP us j v) {g : Int} (g0 : 0 ≤ g) (g1 : g < 4294967296) (hg : g * v.getD (v.length - 2) 0 ≤ us.getD (j + (v.length - 2)) 0 + 4294967296 * (dTop us j v - g * dV1 v)) : g ≤ dU us j v / dV v + 1 := by
  obtain ⟨l, L, h1, h2, h3, h4⟩ := h.split2
  have hn := h.n2
  have hp := pow_pos' cw0 (v.length - 2)
  have hv := h.vpos.1
  have he : (4294967296 : Int) ^ (v.length - 1) = 4294967296 * 4294967296 ^ (v.length - 2) := by rw [Int.mul_comm, ← Int.pow_succ]; congr 1; omega
  obtain ⟨y, hy⟩ : ∃ y, y = v.getD (v.length - 2) 0 + 4294967296 * dV1 v := ⟨_, rfl⟩
  obtain ⟨u3, hu3⟩ : ∃ u3, u3 = us.getD (j + (v.length - 2)) 0 + 4294967296 * dTop us j v := ⟨_, rfl⟩
  rw [← hy] at h3
  rw [← hu3] at h4
  have a3 : g * y ≤ u3 := by
    rw [hy, hu3, Int.mul_add]
    have : g * (4294967296 * dV1 v) = 4294967296 * (g * dV1 v) := Int.mul_left_comm _ _ _
    omega
  have a4 : g * y * 4294967296 ^ (v.length - 2) ≤ u3 * 4294967296 ^ (v.length - 2) := Int.mul_le_mul_of_nonneg_right a3 (by omega)
  have a5 : g * l ≤ g * 4294967296 ^ (v.length - 2) := Int.mul_le_mul_of_nonneg_left (by omega) g0
  have a6 : g * 4294967296 ^ (v.length - 2) ≤ 4294967296 * 4294967296 ^ (v.length - 2) := Int.mul_le_mul_of_nonneg_right (by omega) (by omega)
  have a7 : g * dV v = g * l + g * y * 4294967296 ^ (v.length - 2) := by rw [h3, Int.mul_add, Int.mul_assoc]
  have : g - 1 ≤ dU us j v / dV v := by
    rw [Int.le_ediv_iff_mul_le h.v0, Int.sub_mul]
    omega
  omega
theorem DigP.p_range (h : DigP us j v) {g : Int} (g0 : 0 ≤ g) (g1 : g < 4294967296) (i : Nat) : 0 ≤ dP v g i / 4294967296 ^ i ∧ dP v g i / 4294967296 ^ i < 4294967296 := by
  have hp := pow_pos' cw0 i
  have r := val_take_range cw0 h.fv i
  refine ⟨Int.ediv_nonneg (Int.mul_nonneg g0 r.1) (by omega), Int.ediv_lt_of_lt_mul hp ?_⟩
  have a1 : g * valF 4294967296 (v.take i) ≤ g * 4294967296 ^ i := Int.mul_le_mul_of_nonneg_left (by omega) g0
  have a2 : g * 4294967296 ^ i < 4294967296 * 4294967296 ^ i := Int.mul_lt_mul_of_pos_right g1 hp
  unfold dP; omega
theorem dP_succ (v : List Int) (g : Int) (i : Nat) : dP v g (i + 1) = dP v g i + g * v.getD i 0 * 4294967296 ^ i := by
  rw [dP, dP, val_take_succ', Int.mul_add, Int.mul_assoc]
theorem dD_succ (us : List Int) (j : Nat) (v : List Int) (g : Int) {i : Nat} (hi : i ≤ v.length) : dD us j v g (i + 1) = dD us j v g i + (us.getD (j + i) 0 - (dP v g i / 4294967296 ^ i + g * v.getD i 0) % 4294967296) * 4294967296 ^ i := by
  rw [dD, dD, dP_succ, mod_step cw0, val_take_succ', mid_get hi, Int.sub_mul]; omega
theorem DigP.d_range (h : DigP us j v) (g : Int) (i : Nat) : 0 ≤ -(dD us j v g i / 4294967296 ^ i) ∧ -(dD us j v g i / 4294967296 ^ i) ≤ 1 := by
  have hp := pow_pos' cw0 i
  have r := val_take_range cw0 h.fm i
  have m0 : 0 ≤ dP v g i % 4294967296 ^ i := Int.emod_nonneg _ (by omega)
  have m1 : dP v g i % 4294967296 ^ i < 4294967296 ^ i := Int.emod_lt_of_pos _ hp
  have := div_neg_one cw0 (S := dD us j v g i) (k := i) (by unfold dD; omega) (by unfold dD; omega)
  omega
theorem dD_zero (us : List Int) (j : Nat) (v : List Int) (g : Int) : dD us j v g 0 = 0 := by simp [dD, dP, valF]
theorem dW_eq (h : DigP us j v) (g : Int) : dW us j v g = dD us j v g v.length + (us.getD (j + v.length) 0 - dP v g v.length / 4294967296 ^ v.length) * 4294967296 ^ v.length := by
  have e2 := val_take_succ' (b := 4294967296) (midF us j v.length) v.length
  rw [List.take_of_length_le (by rw [h.ml]; omega), mid_get (by omega)] at e2
  have e3 := Int.emod_add_mul_ediv (dP v g v.length) (4294967296 ^ v.length)
  have e4 : g * dV v = dP v g v.length := by rw [dP, List.take_length]; rfl
  rw [dW, dU, e2, e4, dD, Int.sub_mul, Int.mul_comm (dP v g v.length / 4294967296 ^ v.length)]
  omega
theorem DigP.w_range (h : DigP us j v) {g : Int} (g0 : dU us j v / dV v ≤ g) (g1 : g ≤ dU us j v / dV v + 1) :
    (0 ≤ dW us j v g → g = dU us j v / dV v ∧ dW us j v g = dU us j v % dV v) ∧ (dW us j v g < 0 → g = dU us j v / dV v + 1 ∧ dW us j v g + dV v = dU us j v % dV v) ∧ -(4294967296 ^ (v.length + 1)) ≤ dW us j v g ∧ dW us j v g < 4294967296 ^ (v.length + 1) := by
  have hv := h.v0
  have hp := h.vpos.2
  have hm : (4294967296 : Int) ^ v.length ≤ 4294967296 ^ (v.length + 1) := pow_mono' cw0 (by omega)
  have e := Int.emod_add_mul_ediv (dU us j v) (dV v)
  have r0 : 0 ≤ dU us j v % dV v := Int.emod_nonneg _ (by omega)
  have r1 : dU us j v % dV v < dV v := Int.emod_lt_of_pos _ hv
  rw [Int.mul_comm] at e
  have hw : dW us j v g = dU us j v - g * dV v := rfl
  rcases Int.lt_or_eq_of_le g0 with hlt | heq
  · have : g = dU us j v / dV v + 1 := by omega
    have hg : g * dV v = dU us j v / dV v * dV v + dV v := by rw [this, Int.add_mul, Int.one_mul]
    refine ⟨fun _ => by omega, fun _ => ⟨this, by omega⟩, by omega, by omega⟩
  · have hg : g * dV v = dU us j v / dV v * dV v := by rw [heq]
    refine ⟨fun _ => ⟨heq.symm, by omega⟩, fun _ => by omega, by omega, by omega⟩
theorem dS_succ (us : List Int) (j : Nat) (v : List Int) (g : Int) (i : Nat) : dS us j v g (i + 1) = dS us j v g i + (dW us j v g / 4294967296 ^ i % 4294967296 + v.getD i 0) * 4294967296 ^ i := by
  have := mod_step cw0 (dW us j v g) 0 i
  rw [Int.zero_mul, Int.add_zero, Int.add_zero] at this
  rw [dS, dS, this, val_take_succ', Int.add_mul]; omega
theorem DigP.s_range (h : DigP us j v) (g : Int) (i : Nat) : 0 ≤ dS us j v g i / 4294967296 ^ i ∧ dS us j v g i / 4294967296 ^ i ≤ 1 := by
  have hp := pow_pos' cw0 i
  have r := val_take_range cw0 h.fv i
  have m0 : 0 ≤ dW us j v g % 4294967296 ^ i := Int.emod_nonneg _ (by omega)
  have m1 : dW us j v g % 4294967296 ^ i < 4294967296 ^ i := Int.emod_lt_of_pos _ hp
  exact div_le_one cw0 (by unfold dS; omega) (by unfold dS; omega)
theorem dW_back (h : DigP us j v) (g : Int) : dW us j v g + dV v = dS us j v g v.length + dW us j v g / 4294967296 ^ v.length * 4294967296 ^ v.length := by
  have e := Int.emod_add_mul_ediv (dW us j v g) (4294967296 ^ v.length)
  rw [dS, List.take_length, dV, Int.mul_comm (dW us j v g / 4294967296 ^ v.length)]; omega
end
end Go.SX.We.Nm

/- Chapter 08: quotient and remainder, figure by figure. -/
namespace Go.SX.We.Nm
def pQ (A V : Int) (m : Nat) : Int := A / (V * 4294967296 ^ m)
def pR (A V : Int) (m : Nat) : Int := A % (V * 4294967296 ^ m)
theorem cw2 : (2 : Int) ≤ 4294967296 := by decide
theorem digs_cons' {b : Int} (z x : Int) (n : Nat) (hb : 0 < b) (h0 : 0 ≤ x) (h1 : x < b) : digs b (x + b * z) (n + 1) = x :: digs b z n := by
  rw [digs, Int.add_mul_emod_self_left, Int.emod_eq_of_lt h0 h1, Int.add_mul_ediv_left _ _ (by omega), Int.ediv_eq_zero_of_lt h0 h1, Int.zero_add]
theorem can_last {v : List Int} (hv : CanF 4294967296 v) (hn : 1 ≤ v.length) : 1 ≤ v.getD (v.length - 1) 0 := by
  have h := figs_getD cw0 hv.1 (v.length - 1)
  have hl := hv.2
  rw [List.getLast?_eq_getElem?] at hl
  rw [List.getD_eq_getElem?_getD] at h ⊢
  rw [List.getElem?_eq_getElem (by omega)] at h hl ⊢
  simp only [Option.getD_some] at h ⊢
  have : v[v.length - 1] ≠ 0 := fun e => hl (by rw [e])
  omega
theorem lim_len_eq {z : Int} {n : Nat} (h0 : 4294967296 ^ n ≤ z) (h1 : z < 4294967296 ^ (n + 1)) : (lim 4294967296 z).length = n + 1 := by
  have hp := pow_pos' cw0 n
  have a1 := lim_len cw2 (by omega) h1
  have a2 := lim_lt cw2 (z := z) (by omega)
  rcases Nat.lt_or_ge n (lim 4294967296 z).length with h | h
  · omega
  · have : (4294967296 : Int) ^ (lim 4294967296 z).length ≤ 4294967296 ^ n := pow_mono' cw0 h
    omega
section
variable {A V : Int} {v : List Int} {la i k : Nat}
theorem part_step (hA : 0 ≤ A) (hv : CanF 4294967296 v) (hV : valF 4294967296 v = V) (hn : 2 ≤ v.length) (hi : i + v.length ≤ la) :
    (1 ≤ dV1 v ∧ dU (digs 4294967296 (pR A V (i + 1)) (la + 1)) i v < dV v * 4294967296) ∧
    putF (digs 4294967296 (pR A V (i + 1)) (la + 1)) i (digs 4294967296 (dU (digs 4294967296 (pR A V (i + 1)) (la + 1)) i v % dV v) (v.length + 1)) = digs 4294967296 (pR A V i) (la + 1) ∧
    (List.replicate (i + 1) 0 ++ digs 4294967296 (pQ A V (i + 1)) k).set i (dU (digs 4294967296 (pR A V (i + 1)) (la + 1)) i v / dV v) = List.replicate i 0 ++ digs 4294967296 (pQ A V i) (k + 1) := by
  have hr := val_range cw0 hv.1
  have hlow := can_low cw0 hv (n := v.length - 1) (by omega)
  have p0 := pow_pos' cw0 (v.length - 1)
  have pi := pow_pos' cw0 i
  rw [hV] at hr hlow
  have hV0 : 0 < V := by omega
  have hVi : 0 < V * 4294967296 ^ i := Int.mul_pos hV0 pi
  have hdV : dV v = V := hV
  obtain ⟨R, hR⟩ : ∃ R, R = pR A V (i + 1) := ⟨_, rfl⟩
  obtain ⟨Q, hQ⟩ : ∃ Q, Q = pQ A V (i + 1) := ⟨_, rfl⟩
  have eB : V * 4294967296 ^ (i + 1) = V * 4294967296 * 4294967296 ^ i := by rw [Int.pow_succ, Int.mul_comm (4294967296 ^ i), Int.mul_assoc]
  have hB0 : 0 < V * 4294967296 ^ (i + 1) := by rw [eB]; exact Int.mul_pos (by omega) pi
  have r0 : 0 ≤ R := by rw [hR]; exact Int.emod_nonneg _ (by omega)
  have r1 : R < V * 4294967296 * 4294967296 ^ i := by rw [hR, ← eB]; exact Int.emod_lt_of_pos _ hB0
  obtain ⟨y, hy⟩ : ∃ y, y = R / 4294967296 ^ i := ⟨_, rfl⟩
  have y0 : 0 ≤ y := by rw [hy]; exact Int.ediv_nonneg r0 (by omega)
  have y1 : y < V * 4294967296 := by rw [hy]; exact Int.ediv_lt_of_lt_mul pi r1
  have y2 : y < 4294967296 ^ (v.length + 1) := by rw [Int.pow_succ]; omega
  have hU : dU (digs 4294967296 R (la + 1)) i v = y := by
    rw [dU, midF, digs_drop cw0 _ (by omega), digs_take cw0 _ (by omega), val_digs cw0, ← hy, Int.emod_eq_of_lt y0 y2]
  have eA : R + V * 4294967296 ^ (i + 1) * Q = A := by rw [hR, hQ]; exact Int.emod_add_mul_ediv _ _
  have eA' : A = R + 4294967296 * Q * (V * 4294967296 ^ i) := by
    rw [← eA, eB, Int.mul_assoc V, Int.mul_left_comm V, Int.mul_assoc 4294967296, Int.mul_assoc 4294967296 Q, Int.mul_comm Q]
  have eRd : R / (V * 4294967296 ^ i) = y / V := by rw [Int.mul_comm, ← div_div pi, ← hy]
  have eQ : pQ A V i = y / V + 4294967296 * Q := by
    rw [pQ]; conv => lhs; rw [eA']
    rw [Int.add_mul_ediv_right _ _ (by omega), eRd]
  have ePm : pR A V i = R % (V * 4294967296 ^ i) := by
    rw [pR]; conv => lhs; rw [eA']
    rw [Int.add_mul_emod_self_right]
  have d0 := Int.emod_add_mul_ediv R (V * 4294967296 ^ i)
  have d1 := Int.emod_add_mul_ediv R (4294967296 ^ i)
  have d2 := Int.emod_add_mul_ediv y V
  rw [eRd] at d0
  rw [← hy] at d1
  have eP : pR A V i = R % 4294967296 ^ i + y % V * 4294967296 ^ i := by
    rw [ePm]
    have : 4294967296 ^ i * y = y % V * 4294967296 ^ i + V * 4294967296 ^ i * (y / V) := by
      conv => lhs; rw [← d2]
      rw [Int.mul_add, Int.mul_comm (4294967296 ^ i) (y % V), Int.mul_comm V (4294967296 ^ i), Int.mul_assoc]
    omega
  have m0 : 0 ≤ y % V := Int.emod_nonneg _ (by omega)
  have m1 : y % V < V := Int.emod_lt_of_pos _ hV0
  have q0 : 0 ≤ y / V := Int.ediv_nonneg y0 (by omega)
  have q1 : y / V < 4294967296 := Int.ediv_lt_of_lt_mul hV0 (by omega)
  have s0 : 0 ≤ R % 4294967296 ^ i := Int.emod_nonneg _ (by omega)
  have s1 : R % 4294967296 ^ i < 4294967296 ^ i := Int.emod_lt_of_pos _ pi
  rw [← hR, ← hQ, hU, hdV]
  refine ⟨⟨can_last hv (by omega), y1⟩, ?_, ?_⟩
  · obtain ⟨m, hm⟩ : ∃ m, la + 1 = i + ((v.length + 1) + m) := ⟨la - i - v.length, by omega⟩
    rw [putF, digs_len, digs_take cw0 _ (by omega), digs_drop cw0 _ (by omega), hm, digs_app cw0 (pR A V i), digs_app cw0 (pR A V i / 4294967296 ^ i)]
    have e1 : pR A V i / 4294967296 ^ i = y % V := by rw [eP, Int.add_mul_ediv_right _ _ (by omega), Int.ediv_eq_zero_of_lt s0 s1, Int.zero_add]
    have e2 : digs 4294967296 R i = digs 4294967296 (pR A V i) i := digs_congr cw0 (by rw [eP, Int.add_mul_emod_self_right, Int.emod_emod])
    have e3 : R / 4294967296 ^ (i + (v.length + 1)) = 0 := by
      rw [Int.pow_add, ← div_div pi, ← hy]
      exact Int.ediv_eq_zero_of_lt y0 y2
    have e4 : y % V / 4294967296 ^ (v.length + 1) = 0 := Int.ediv_eq_zero_of_lt m0 (by
      have : (4294967296 : Int) ^ v.length ≤ 4294967296 ^ (v.length + 1) := pow_mono' cw0 (by omega)
      omega)
    rw [e1, e2, e3, e4]
    congr 3; omega
  · rw [eQ, digs_cons' _ _ _ cw0 q0 q1, List.replicate_succ', List.append_assoc, List.set_append_right _ _ (by simp), List.length_replicate, Nat.sub_self]
    rfl
theorem part_first (hA : 0 ≤ A) (hlt : A < V * 4294967296 ^ i) : pR A V i = A ∧ pQ A V i = 0 :=
  ⟨Int.emod_eq_of_lt hA hlt, Int.ediv_eq_zero_of_lt hA hlt⟩
theorem part_last (hA : 0 ≤ A) (hV : 0 < V) (hlt : A < V * 4294967296 ^ k) {n : Nat} (hn : V < 4294967296 ^ n) (hl : n ≤ la + 1) :
    trimF (List.take n (digs 4294967296 (pR A V 0) (la + 1))) = lim 4294967296 (A % V) ∧ trimF (digs 4294967296 (pQ A V 0) k) = lim 4294967296 (A / V) := by
  have e1 : pR A V 0 = A % V := by simp [pR]
  have e2 : pQ A V 0 = A / V := by simp [pQ]
  have m0 : 0 ≤ A % V := Int.emod_nonneg _ (by omega)
  have m1 : A % V < V := Int.emod_lt_of_pos _ hV
  rw [e1, e2, digs_take cw0 _ hl]
  exact ⟨(lim_digs cw2 m0 (by omega)).symm, (lim_digs cw2 (Int.ediv_nonneg hA (by omega)) (Int.ediv_lt_of_lt_mul hV (by rw [Int.mul_comm]; exact hlt))).symm⟩
end
theorem top_up {b : List Int} (hb : CanF 4294967296 b) (hl : 1 ≤ b.length) {s : Nat} (hs : (b.getD (b.length - 1) 0 + 1) * 2 ^ s ≤ 4294967296) :
    4294967296 ^ (b.length - 1) ≤ valF 4294967296 b * 2 ^ s ∧ valF 4294967296 b * 2 ^ s < 4294967296 ^ b.length := by
  have hlow := can_low cw0 hb (n := b.length - 1) (by omega)
  have hr := val_take_range cw0 hb.1 (b.length - 1)
  have ht := val_take_succ' (b := 4294967296) b (b.length - 1)
  rw [show b.length - 1 + 1 = b.length by omega, List.take_length] at ht
  have p2 := pow_pos' (b := 2) (by decide) s
  have p0 := pow_pos' cw0 (b.length - 1)
  have e : (4294967296 : Int) ^ b.length = 4294967296 * 4294967296 ^ (b.length - 1) := by rw [Int.mul_comm, ← Int.pow_succ]; congr 1; omega
  refine ⟨?_, ?_⟩
  · have : valF 4294967296 b * 1 ≤ valF 4294967296 b * 2 ^ s := Int.mul_le_mul_of_nonneg_left (by omega) (by omega)
    omega
  · have h1 : valF 4294967296 b < (b.getD (b.length - 1) 0 + 1) * 4294967296 ^ (b.length - 1) := by rw [ht, Int.add_mul]; omega
    have h2 : valF 4294967296 b * 2 ^ s < (b.getD (b.length - 1) 0 + 1) * 4294967296 ^ (b.length - 1) * 2 ^ s := Int.mul_lt_mul_of_pos_right h1 p2
    have h3 : (b.getD (b.length - 1) 0 + 1) * 2 ^ s * 4294967296 ^ (b.length - 1) ≤ 4294967296 * 4294967296 ^ (b.length - 1) := Int.mul_le_mul_of_nonneg_right hs (by omega)
    rw [Int.mul_right_comm] at h3
    omega
theorem len_of_le {a b : List Int} (ha : FigsF 4294967296 a) (hb : CanF 4294967296 b) (hl : 1 ≤ b.length) (h : valF 4294967296 b ≤ valF 4294967296 a) : b.length ≤ a.length := by
  have hlow := can_low cw0 hb (n := b.length - 1) (by omega)
  have hr := val_range cw0 ha
  rcases Nat.lt_or_ge a.length b.length with h1 | h1
  · have : (4294967296 : Int) ^ a.length ≤ 4294967296 ^ (b.length - 1) := pow_mono' cw0 (by omega)
    omega
  · exact h1
end Go.SX.We.Nm

/- Chapter 08: integers and fractions by sign and figures. -/
namespace Go.SX.We.Nm
def absI (z : Int) : Int := if z < 0 then -z else z
def intB (b z : Int) : Bool × List Int := (decide (z < 0), lim b (absI z))
def vB (b : Int) (p : Bool × List Int) : Int := if p.1 = true then -valF b p.2 else valF b p.2
def OkB (b : Int) (k : Nat) (p : Bool × List Int) : Prop := ∃ z : Int, p = intB b z ∧ absI z < b ^ k
abbrev iN (z : Int) : Bool × List Int := intB 4294967296 z
abbrev vN (p : Bool × List Int) : Int := vB 4294967296 p
abbrev OkN (k : Nat) (p : Bool × List Int) : Prop := OkB 4294967296 k p
def gcdI (x y : Int) : Int := ((Nat.gcd x.toNat y.toNat : Nat) : Int)
theorem absI_nonneg (z : Int) : 0 ≤ absI z := by unfold absI; split <;> omega
section
variable {b : Int} (hb : 2 ≤ b)
include hb
theorem vB_int (z : Int) : vB b (intB b z) = z := by
  rw [vB, intB, val_lim hb (absI_nonneg z)]
  unfold absI
  by_cases h : z < 0
  · rw [if_pos (by simpa using h), if_pos h]; omega
  · rw [if_neg (by simpa using h), if_neg h]
theorem int_made {n : Bool} {z : Int} (h0 : 0 ≤ z) : ((n && decide (0 < ((lim b z).length : Int))), lim b z) = intB b (if n = true then -z else z) := by
  have hp : (0 : Int) < ((lim b z).length : Int) ↔ 0 < z := by
    have := lim_pos hb h0
    omega
  cases n with
  | false =>
    have e : absI z = z := by unfold absI; rw [if_neg (by omega)]
    have e2 : decide (z < 0) = false := by simpa using h0
    simp only [intB, Bool.false_and, Bool.false_eq_true, if_false, e, e2]
  | true =>
    by_cases hz : 0 < z
    · have e : absI (-z) = z := by unfold absI; rw [if_pos (by omega)]; omega
      simp only [intB, if_true, e, Bool.true_and]
      rw [decide_eq_true (hp.2 hz), decide_eq_true (by omega)]
    · have : z = 0 := by omega
      subst this
      have e : lim b 0 = [] := rfl
      simp [intB, absI, e]
end
theorem gcdI_zero (x : Int) (h : 0 ≤ x) : gcdI x 0 = x := by
  unfold gcdI
  simp; omega
theorem gcdI_step {x y : Int} (hx : 0 ≤ x) (hy : 0 < y) : gcdI y (x % y) = gcdI x y := by
  unfold gcdI
  have e : (x % y).toNat = x.toNat % y.toNat := by
    obtain ⟨m, rfl⟩ := Int.eq_ofNat_of_zero_le hx
    obtain ⟨n, rfl⟩ := Int.eq_ofNat_of_zero_le (Int.le_of_lt hy)
    rw [← Int.natCast_emod]; rfl
  rw [e, Nat.gcd_comm, ← Nat.gcd_rec, Nat.gcd_comm]
theorem gcdI_pos {x y : Int} (hy : 0 < y) : 0 < gcdI x y := by
  unfold gcdI
  have := Nat.gcd_pos_of_pos_right x.toNat (show 0 < y.toNat by omega)
  omega
theorem gcdI_dvd {x y : Int} (hx : 0 ≤ x) (hy : 0 ≤ y) : gcdI x y ∣ x ∧ gcdI x y ∣ y := by
  unfold gcdI
  have h1 := Nat.gcd_dvd_left x.toNat y.toNat
  have h2 := Nat.gcd_dvd_right x.toNat y.toNat
  have e1 : ((x.toNat : Nat) : Int) = x := Int.toNat_of_nonneg hx
  have e2 : ((y.toNat : Nat) : Int) = y := Int.toNat_of_nonneg hy
  exact ⟨by conv => rhs; rw [← e1]
            exact Int.natCast_dvd_natCast.2 h1, by conv => rhs; rw [← e2]
                                                   exact Int.natCast_dvd_natCast.2 h2⟩
theorem gcdI_one (x : Int) : gcdI x 1 = 1 := by
  unfold gcdI
  have : (1 : Int).toNat = 1 := rfl
  rw [this, Nat.gcd_one_right]; rfl
def lowI (n d : Int) : Int × Int := (n / gcdI n d, d / gcdI n d)
end Go.SX.We.Nm

/- Chapter 08: decimal digits; a list turned round. -/
namespace Go.SX.We.Nm
def turnF (xs : List Int) (k : Nat) : List Int := (List.range xs.length).map fun p => if p < k ∨ xs.length - k ≤ p then xs.getD (xs.length - 1 - p) 0 else xs.getD p 0
theorem turn_len (xs : List Int) (k : Nat) : (turnF xs k).length = xs.length := by simp [turnF]
theorem turn_get {xs : List Int} {k p : Nat} (hp : p < xs.length) : (turnF xs k).getD p 0 = if p < k ∨ xs.length - k ≤ p then xs.getD (xs.length - 1 - p) 0 else xs.getD p 0 := by
  rw [List.getD_eq_getElem?_getD, turnF, List.getElem?_map, List.getElem?_range hp]; rfl
theorem ext_getD {a c : List Int} (hl : a.length = c.length) (h : ∀ p, p < a.length → a.getD p 0 = c.getD p 0) : a = c := by
  apply List.ext_getElem hl
  intro p h1 h2
  have := h p h1
  rw [List.getD_eq_getElem?_getD, List.getD_eq_getElem?_getD, List.getElem?_eq_getElem h1, List.getElem?_eq_getElem h2] at this
  exact this
theorem set_getD (l : List Int) (i p : Nat) (v : Int) (hi : i < l.length) : (l.set i v).getD p 0 = if p = i then v else l.getD p 0 := by
  rw [List.getD_eq_getElem?_getD, List.getElem?_set]
  by_cases h : i = p
  · subst h; simp [hi]
  · rw [if_neg h, if_neg (fun e => h e.symm), List.getD_eq_getElem?_getD]
theorem turn_zero (xs : List Int) : turnF xs 0 = xs := by
  refine ext_getD (turn_len xs 0) fun p hp => ?_
  rw [turn_len] at hp
  rw [turn_get hp, if_neg (by omega)]
theorem turn_step {xs : List Int} {k : Nat} (hk : 2 * k + 1 < xs.length) : ((turnF xs k).set k ((turnF xs k).getD (xs.length - 1 - k) 0)).set (xs.length - 1 - k) ((turnF xs k).getD k 0) = turnF xs (k + 1) := by
  refine ext_getD (by simp [turn_len]) fun p hp => ?_
  have hp' : p < xs.length := by simpa [turn_len] using hp
  have g1 : (turnF xs k).getD k 0 = xs.getD k 0 := by rw [turn_get (by omega), if_neg (by omega)]
  have g2 : (turnF xs k).getD (xs.length - 1 - k) 0 = xs.getD (xs.length - 1 - k) 0 := by rw [turn_get (by omega), if_neg (by omega)]
  rw [set_getD _ _ _ _ (by simp [turn_len]; omega), set_getD _ _ _ _ (by rw [turn_len]; omega), g1, g2, turn_get hp', turn_get hp']
  by_cases h1 : p = xs.length - 1 - k
  · subst h1
    rw [if_pos rfl, if_pos (by omega)]
    congr 1; omega
  · rw [if_neg h1]
    by_cases h2 : p = k
    · subst h2
      rw [if_pos rfl, if_pos (by omega)]
    · rw [if_neg h2]
      by_cases h3 : p < k ∨ xs.length - k ≤ p
      · rw [if_pos h3, if_pos (by omega)]
      · rw [if_neg h3, if_neg (by omega)]
theorem turn_all {xs : List Int} {k : Nat} (hk : xs.length ≤ 2 * k + 1) : turnF xs k = xs.reverse := by
  refine ext_getD (by simp [turn_len]) fun p hp => ?_
  rw [turn_len] at hp
  have e : xs.reverse.getD p 0 = xs.getD (xs.length - 1 - p) 0 := by
    rw [List.getD_eq_getElem?_getD, List.getElem?_reverse hp, ← List.getD_eq_getElem?_getD]
  rw [turn_get hp, e]
  by_cases h3 : p < k ∨ xs.length - k ≤ p
  · rw [if_pos h3]
  · rw [if_neg h3]; congr 1; omega
theorem lim_drop {b : Int} (hb : 2 ≤ b) {z : Int} (h0 : 0 ≤ z) (k : Nat) : (lim b z).drop k = lim b (z / b ^ k) := by
  induction k generalizing z with
  | zero => simp
  | succ k ih =>
    rcases Int.lt_or_eq_of_le h0 with h | h
    · rw [lim_step hb h, List.drop_succ_cons, ih (Int.ediv_nonneg h0 (by omega)), div_div (by omega), Int.pow_succ, Int.mul_comm]
    · subst h
      have e : lim b 0 = [] := rfl
      rw [Int.zero_ediv, e, List.drop_nil]
theorem lim_take {b : Int} (hb : 2 ≤ b) {z : Int} (h0 : 0 ≤ z) {k : Nat} (h : k ≤ (lim b z).length) : (lim b z).take k = digs b z k := by
  conv => lhs; rw [← lim_digs_len hb h0]
  exact digs_take (by omega) z h
def dec9 (N : Int) (k : Nat) : List Int := ((lim 10 N).take (9 * k)).map (48 + ·)
theorem dec_zero (N : Int) : dec9 N 0 = [] := by simp [dec9]
theorem pow9 : (10 : Int) ^ 9 = 1000000000 := by decide
theorem p10 (k : Nat) : 0 < (10 : Int) ^ k := pow_pos' (by decide) k
theorem dec_step {N : Int} (h0 : 0 ≤ N) {k i : Nat} (hi : i ≤ 9)
    (hlast : i = 9 ∨ (N / 10 ^ (9 * k) / 1000000000 = 0 ∧ N / 10 ^ (9 * k) % 1000000000 / 10 ^ i = 0))
    (hall : ∀ j, j < i → 0 < N / 10 ^ (9 * k) / 1000000000 ∨ 0 < N / 10 ^ (9 * k) % 1000000000 / 10 ^ j) :
    dec9 N k ++ (digs 10 (N / 10 ^ (9 * k) % 1000000000) i).map (48 + ·) = dec9 N (k + 1) := by
  have hb : (2 : Int) ≤ 10 := by decide
  have hb0 : (0 : Int) < 10 := by decide
  have e1 : dec9 N (k + 1) = dec9 N k ++ ((lim 10 (N / 10 ^ (9 * k))).take 9).map (48 + ·) := by
    rw [dec9, dec9, ← List.map_append, ← lim_drop hb h0, show 9 * (k + 1) = 9 * k + 9 by omega, List.take_add]
  rw [e1]
  obtain ⟨M, hM⟩ : ∃ M, M = N / 10 ^ (9 * k) := ⟨_, rfl⟩
  rw [← hM] at hlast hall ⊢
  have m0 : 0 ≤ M := by rw [hM]; exact Int.ediv_nonneg h0 (Int.le_of_lt (p10 _))
  congr 2
  rcases Int.lt_or_le 0 (M / 1000000000) with hq | hq
  · have hi9 : i = 9 := by
      rcases hlast with h | ⟨h, _⟩
      · exact h
      · omega
    subst hi9
    have hl : 9 ≤ (lim 10 M).length := by
      rcases Nat.lt_or_ge (lim 10 M).length 9 with h | h
      · have h1 := lim_lt hb m0
        have h2 : (10 : Int) ^ (lim 10 M).length ≤ 10 ^ 9 := pow_mono' hb0 (by omega)
        rw [pow9] at h2
        omega
      · exact h
    rw [lim_take hb m0 hl]
    exact digs_congr hb0 (by rw [pow9]; omega)
  · have hM9 : M < 1000000000 := by omega
    have hr : M % 1000000000 = M := Int.emod_eq_of_lt m0 hM9
    rw [hr] at hlast hall ⊢
    have hlen : (lim 10 M).length ≤ 9 := lim_len hb m0 (by rw [pow9]; exact hM9)
    have hz : M / 10 ^ i = 0 := by
      rcases hlast with h | ⟨_, h⟩
      · subst h; rw [pow9]; omega
      · exact h
    have hle : (lim 10 M).length ≤ i := lim_len hb m0 (by
      have e := Int.emod_add_mul_ediv M (10 ^ i)
      rw [hz, Int.mul_zero, Int.add_zero] at e
      rw [← e]; exact Int.emod_lt_of_pos _ (p10 i))
    have hge : i ≤ (lim 10 M).length := by
      rcases Nat.lt_or_ge (lim 10 M).length i with h | h
      · have := hall _ h
        have h1 := lim_lt hb m0
        have : M / 10 ^ (lim 10 M).length = 0 := Int.ediv_eq_zero_of_lt m0 h1
        omega
      · exact h
    rw [List.take_of_length_le hlen, show i = (lim 10 M).length by omega, lim_digs_len hb m0]
theorem dec_end {N : Int} (h0 : 0 ≤ N) {k : Nat} (h : N / 10 ^ (9 * k) = 0) : dec9 N k = (lim 10 N).map (48 + ·) := by
  have hb : (2 : Int) ≤ 10 := by decide
  have : (lim 10 N).length ≤ 9 * k := lim_len hb h0 (by
    have e := Int.emod_add_mul_ediv N (10 ^ (9 * k))
    rw [h, Int.mul_zero, Int.add_zero] at e
    rw [← e]; exact Int.emod_lt_of_pos _ (p10 _))
  rw [dec9, List.take_of_length_le this]
theorem dec_len (N : Int) (k : Nat) : (dec9 N k).length ≤ (lim 10 N).length := by simp [dec9]; omega
theorem ten_len {N : Int} {k : Nat} (h0 : 0 ≤ N) (h : N < 4294967296 ^ k) : (lim 10 N).length ≤ 10 * k := by
  refine lim_len (by decide) h0 (Int.lt_of_lt_of_le h ?_)
  have : ∀ k : Nat, (4294967296 : Int) ^ k ≤ 10 ^ (10 * k) := by
    intro k
    induction k with
    | zero => simp
    | succ k ih =>
      have e1 : (10 : Int) ^ (10 * (k + 1)) = 10 ^ (10 * k) * 10 ^ 10 := by rw [show 10 * (k + 1) = 10 * k + 10 by omega]; exact Int.pow_add 10 (10 * k) 10
      have e2 : (4294967296 : Int) ^ (k + 1) = 4294967296 ^ k * 4294967296 := Int.pow_succ ..
      rw [e1, e2]
      have p := p10 (10 * k)
      have a1 : (4294967296 : Int) ^ k * 4294967296 ≤ 10 ^ (10 * k) * 4294967296 := Int.mul_le_mul_of_nonneg_right ih (by decide)
      have a2 : (10 : Int) ^ (10 * k) * 4294967296 ≤ 10 ^ (10 * k) * 10 ^ 10 := Int.mul_le_mul_of_nonneg_left (by decide) (by omega)
      exact Int.le_trans a1 a2
  exact this k
end Go.SX.We.Nm

/- Chapter 08: bytes as text; digits, the greatest first. -/
namespace Go.SX.We.Nm
open Go
theorem low_gcd {n d : Int} (hn : 0 ≤ n) (hd : 0 < d) : gcdI (lowI n d).1 (lowI n d).2 = 1 := by
  obtain ⟨m, rfl⟩ := Int.eq_ofNat_of_zero_le hn
  obtain ⟨k, rfl⟩ := Int.eq_ofNat_of_zero_le (Int.le_of_lt hd)
  have e : gcdI (m : Int) (k : Int) = ((Nat.gcd m k : Nat) : Int) := rfl
  unfold lowI
  rw [e, ← Int.natCast_ediv, ← Int.natCast_ediv]
  show ((Nat.gcd (m / Nat.gcd m k) (k / Nat.gcd m k) : Nat) : Int) = 1
  rw [Nat.gcd_div (Nat.gcd_dvd_left m k) (Nat.gcd_dvd_right m k), Nat.div_self (Nat.gcd_pos_of_pos_right m (by omega))]; rfl
end Go.SX.We.Nm
