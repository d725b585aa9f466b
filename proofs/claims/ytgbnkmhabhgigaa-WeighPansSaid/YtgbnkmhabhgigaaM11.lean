/- Parts of the proof, one after the other: WeTn We11 We11E We11Q. -/
import Derived.Test.YtgbnkmhabhgigaaM7
import Derived.Test.YtgbnkmhabhgigaaM10
/- Chapter 08: the weights 1, 3, 9, .. in plain words. -/
namespace Go.SX.We

def pw (m : Nat) : List Int := (List.range m).map fun k => 3 ^ k
def s3 : Nat → Int
  | 0 => 0
  | k + 1 => s3 k + 3 ^ k
def digT (r : Int) : Int := if r % 3 = 2 then -1 else r % 3
def nxT (r : Int) : Int := (r - digT r) / 3
def restT (t : Int) : Nat → Int
  | 0 => t
  | k + 1 => nxT (restT t k)
def digL (t : Int) (k : Nat) : List Int := (List.range k).map fun i => digT (restT t i)
def dg : Nat → Int → List Int
  | 0, _ => []
  | n + 1, r => digT r :: dg n (nxT r)
def val : List Int → Int
  | [] => 0
  | d :: r => d + 3 * val r
def Sg (l : List Int) : Prop := ∀ v ∈ l, v = 1 ∨ v = 0 ∨ v = -1

theorem restT_nx (t : Int) : ∀ k, restT t (k + 1) = restT (nxT t) k
  | 0 => rfl
  | k + 1 => by
    show nxT (restT t (k + 1)) = nxT (restT (nxT t) k)
    rw [restT_nx t k]
theorem digL_dg : ∀ (n : Nat) (t : Int), digL t n = dg n t
  | 0, _ => rfl
  | n + 1, t => by
    rw [dg, ← digL_dg n (nxT t)]
    unfold digL
    rw [List.range_succ_eq_map, List.map_cons, List.map_map]
    congr 1
    apply List.map_congr_left
    intro i _
    simp only [Function.comp]
    rw [restT_nx]
theorem digT_sg (r : Int) : digT r = 1 ∨ digT r = 0 ∨ digT r = -1 := by unfold digT; split <;> omega
theorem nxT_eq (r : Int) : r = digT r + 3 * nxT r := by unfold nxT digT; split <;> omega
theorem dg_sg : ∀ (n : Nat) (r : Int), Sg (dg n r)
  | 0, _ => fun v h => by simp [dg] at h
  | n + 1, r => fun v h => by
    rcases List.mem_cons.1 h with rfl | h
    · exact digT_sg r
    · exact dg_sg n _ v h
theorem dg_length : ∀ (n : Nat) (r : Int), (dg n r).length = n
  | 0, _ => rfl
  | n + 1, r => by simp [dg, dg_length n]
theorem pow3_pos (n : Nat) : (1 : Int) ≤ 3 ^ n ∧ (3 : Int) ^ n % 2 = 1 := by
  induction n with
  | zero => decide
  | succ n ih => rw [Int.pow_succ]; omega
theorem s3_eq (n : Nat) : 2 * s3 n = 3 ^ n - 1 := by
  induction n with
  | zero => rfl
  | succ n ih => rw [s3, Int.pow_succ]; omega
theorem dg_val : ∀ (n : Nat) (r : Int), -s3 n ≤ r → r ≤ s3 n → val (dg n r) = r
  | 0, r, h1, h2 => by simp [s3] at h1 h2; simp [dg, val]; omega
  | n + 1, r, h1, h2 => by
    have hs := s3_eq n
    have hp := pow3_pos n
    have he := nxT_eq r
    have hd := digT_sg r
    rw [s3] at h1 h2
    rw [dg, val, dg_val n (nxT r) (by omega) (by omega)]
    omega
theorem val_bound : ∀ l : List Int, Sg l → -s3 l.length ≤ val l ∧ val l ≤ s3 l.length
  | [], _ => by simp [val, s3]
  | d :: r, h => by
    have ih := val_bound r fun v hv => h v (List.mem_cons_of_mem _ hv)
    have hd := h d (by simp)
    have h1 := s3_eq r.length
    have h2 := s3_eq (r.length + 1)
    rw [Int.pow_succ] at h2
    simp only [List.length_cons, val]
    omega
theorem val_inj : ∀ a b : List Int, Sg a → Sg b → a.length = b.length → val a = val b → a = b
  | [], [], _, _, _, _ => rfl
  | [], _ :: _, _, _, h, _ => by simp at h
  | _ :: _, [], _, _, h, _ => by simp at h
  | x :: a, y :: b, ha, hb, hl, h => by
    have h1 := ha x (by simp)
    have h2 := hb y (by simp)
    unfold val at h
    have e : x = y := by omega
    subst e
    rw [val_inj a b (fun v hv => ha v (List.mem_cons_of_mem _ hv)) (fun v hv => hb v (List.mem_cons_of_mem _ hv)) (by simpa using hl) (by omega)]
/-- What the first k pans weigh, from the weight 3^j on. -/
theorem dotF_val (m : Nat) : ∀ (k : Nat) (l : List Int), k ≤ l.length → k ≤ m → dotF (pw m) l k = val (l.take k)
  | 0, l, _, _ => by simp [dotF, val]
  | k + 1, l, h1, h2 => by
    have ih := dotF_val m k l (by omega) (by omega)
    rw [dotF, ih]
    have hv : ∀ (k : Nat) (l : List Int), k < l.length → val (l.take (k + 1)) = val (l.take k) + l.getD k 0 * 3 ^ k := by
      intro k
      induction k with
      | zero =>
        intro l hl
        cases l with
        | nil => simp at hl
        | cons a r => simp [val]
      | succ k ih =>
        intro l hl
        cases l with
        | nil => simp at hl
        | cons a r =>
          have := ih r (by simpa using hl)
          simp only [List.take_succ_cons, val]
          simp only [List.getD_cons_succ]
          rw [this, Int.pow_succ, ← Int.mul_assoc]
          generalize r.getD k 0 * 3 ^ k = q
          omega
    rw [hv k l (by omega)]
    congr 1
    have : (pw m).getD k 0 = 3 ^ k := by simp [pw, List.getD, show k < m by omega]
    rw [this]
theorem panG_all : ∀ (n : Nat) (l r : List Int), r.length = n → Sg r → l ++ r ∈ panG n l
  | 0, l, r, h, _ => by
    have : r = [] := List.eq_nil_of_length_eq_zero h
    subst this; simp [panG]
  | n + 1, l, r, h, hs => by
    cases r with
    | nil => simp at h
    | cons d r =>
      have ih := panG_all n (l ++ [d]) r (by simpa using h) fun v hv => hs v (List.mem_cons_of_mem _ hv)
      have e : l ++ [d] ++ r = l ++ d :: r := by simp
      rw [e] at ih
      simp only [panG, List.mem_append]
      rcases hs d (by simp) with rfl | rfl | rfl
      · exact .inl ih
      · exact .inr (.inl ih)
      · exact .inr (.inr ih)
theorem pw_length (m : Nat) : (pw m).length = m := by simp [pw]
theorem pw_wts : ∀ m, m < 10 → 0 < m → checkF (pw m) 12 = 0 := by decide +kernel
theorem mem_pansL {w x : List Int} : x ∈ pansL w ↔ x.length = w.length ∧ Sg x := by
  constructor
  · intro h
    have := panG_mem _ _ _ h
    exact ⟨by simpa using this.1, panG_signs _ _ _ (fun v hv => by simp at hv) h⟩
  · rintro ⟨h1, h2⟩
    exact panG_all w.length [] x h1 h2
theorem good_pw {m : Nat} {t : Int} {x : List Int} (h : x ∈ pansL (pw m)) : goodP (pw m) t x = true ↔ val x = t := by
  obtain ⟨h1, _⟩ := mem_pansL.1 h
  rw [pw_length] at h1
  unfold goodP
  rw [dotF_val m x.length x (Nat.le_refl _) (by omega), List.take_length, decide_eq_true_eq]
theorem pans_pw {m : Nat} {t : Int} (ht : 0 ≤ t) (h : t ≤ s3 m) (ht9 : totalF (pw m) 9 t = 0) : pansF (pw m) t = (digL t m, 0) := by
  unfold pansF
  rw [decide_eq_true ht9]
  simp only [cond_true]
  have hs := s3_eq m
  have hmem : dg m t ∈ pansL (pw m) := mem_pansL.2 ⟨by rw [dg_length, pw_length], dg_sg m t⟩
  have hgood : goodP (pw m) t (dg m t) = true := (good_pw hmem).2 (dg_val m t (by have := pow3_pos m; omega) h)
  cases hf : (pansL (pw m)).find? (goodP (pw m) t) with
  | none => exact absurd hgood (List.find?_eq_none.1 hf _ hmem)
  | some y =>
    have hy := List.mem_of_find?_eq_some hf
    have hg := (good_pw hy).1 (List.find?_some hf)
    obtain ⟨q1, q2⟩ := mem_pansL.1 hy
    have := val_inj y (dg m t) q2 (dg_sg m t) (by rw [q1, dg_length, pw_length]) (by rw [hg, (good_pw hmem).1 hgood])
    rw [digL_dg, this]
theorem pans_pw_no {m : Nat} {t : Int} (h : s3 m < t) (ht9 : totalF (pw m) 9 t = 0) : pansF (pw m) t = ([], 5) := by
  unfold pansF
  rw [decide_eq_true ht9]
  simp only [cond_true]
  cases hf : (pansL (pw m)).find? (goodP (pw m) t) with
  | none => rfl
  | some y =>
    have hy := List.mem_of_find?_eq_some hf
    have hg := (good_pw hy).1 (List.find?_some hf)
    obtain ⟨q1, q2⟩ := mem_pansL.1 hy
    have := (val_bound y q2).2
    rw [q1, pw_length] at this
    omega
end Go.SX.We

/- Chapter 08: the law of Ternary, what is asked. -/
namespace Go.SX.We
open Go Go.Proofs
noncomputable section
@[reducible] def p12 : PC := ⟨12, [aU8, aW], [aB], fun p => (0 ≤ p.1 ∧ p.1 ≤ 255) ∧ 0 ≤ p.2 ∧ p.2 ≤ 65535, fun _ => true⟩
@[reducible] def A12a (m : Nat) : Ann where
  τ := Nat
  pre := []
  preC := []
  keep := [0, 1, 5]
  slots k := [(6, .c (.own 0 1)), (7, .c (.int .i64 (s3 k))), (8, .c (.int .i64 (3 ^ k))), (9, .c (.int .i64 k))]
  ents k := [(0, .row 3 (.int .i64) 0 (pw k))]
  ok k := k ≤ m
  m k := m - k
@[reducible] def A12b (m : Nat) (t : Int) : Ann where
  τ := Nat
  pre := []
  preC := []
  keep := [5, 6, 7, 11, 12]
  slots k := [(13, .c (.own 1 1)), (14, .c (.int .i64 (restT t k))), (15, .c (.int .i64 k))]
  ents k := [(1, .row 3 (.int .i64) 0 (digL t k))]
  ok k := k ≤ m
  m k := m - k
@[reducible] def C12 (p : Int × Int) : Ctx := cx [p25.ci, p21.ci, p19.ci] [(0, fun _ => A12a (p.1 % 9 + 1).toNat), (1, withI 10 fun t => A12b (p.1 % 9 + 1).toNat t)]
def g12 (n x : Int) : Prop := p12.VC (C12 (n, x)) Try.f12 (n, x)
end
end Go.SX.We

/- Printed by VC.lean: what the executor asks. -/
namespace Go.SX.We
open Go Go.Proofs
theorem g12_eq (n : Int) (x : Int) : g12 n x = (
 Fits IntKind.i64 n ∧
 ((0 : Int) ≤ n ∧ (0 : Int) < (9 : Int)) ∧
 Fits IntKind.i64 (n % (9 : Int) + (1 : Int)) ∧
 (∃ (x0 : Nat),
 x0 ≤ (n % (9 : Int) + (1 : Int)).toNat ∧
 (nilT Int = pw x0 ∧ True) ∧
 True ∧ (0 : Int) = s3 x0 ∧ (1 : Int) = (3 : Int) ^ x0 ∧ (0 : Int) = (↑x0 : Int) ∧ n % (9 : Int) + (1 : Int) = n % (9 : Int) + (1 : Int) ∧ n = n ∧ x = x ∧ True) ∧
 ∀ (x_1 : Nat),
 x_1 ≤ (n % (9 : Int) + (1 : Int)).toNat →
 ((↑x_1 : Int) < n % (9 : Int) + (1 : Int) →
 (↑x_1 : Int) < n % (9 : Int) + (1 : Int) ∧
 Small ((pw x_1).length + ((0 : Nat) + (1 : Nat))) ∧
 Fits IntKind.i64 (s3 x_1 + (3 : Int) ^ x_1) ∧
 Fits IntKind.i64 ((3 : Int) ^ x_1 * (3 : Int)) ∧
 Fits IntKind.i64 ((↑x_1 : Int) + (1 : Int)) ∧
 ∃ (x' : Nat),
 x' ≤ (n % (9 : Int) + (1 : Int)).toNat ∧
 (n % (9 : Int) + (1 : Int)).toNat - x' < (n % (9 : Int) + (1 : Int)).toNat - x_1 ∧
 (pw x_1 ++ [(3 : Int) ^ x_1] = pw x' ∧ True) ∧
 True ∧
 s3 x_1 + (3 : Int) ^ x_1 = s3 x' ∧
 (3 : Int) ^ x_1 * (3 : Int) = (3 : Int) ^ x' ∧
 (↑x_1 : Int) + (1 : Int) = (↑x' : Int) ∧ n % (9 : Int) + (1 : Int) = n % (9 : Int) + (1 : Int) ∧ n = n ∧ x = x ∧ True) ∧
 (¬(↑x_1 : Int) < n % (9 : Int) + (1 : Int) →
 ¬(↑x_1 : Int) < n % (9 : Int) + (1 : Int) ∧
 Fits IntKind.i64 x ∧
 Fits IntKind.i64 (s3 x_1 + (1 : Int)) ∧
 ((0 : Int) ≤ x ∧ (0 : Int) < s3 x_1 + (1 : Int)) ∧
 ((pw x_1).length ≤ (1000 : Nat) ∧ Fits IntKind.i64 (x % (s3 x_1 + (1 : Int)))) ∧
 (∃ (x0 : Nat),
 x0 ≤ (n % (9 : Int) + (1 : Int)).toNat ∧
 (True ∧ nilT Int = digL (x % (s3 x_1 + (1 : Int))) x0 ∧ True) ∧
 True ∧
 x % (s3 x_1 + (1 : Int)) = restT (x % (s3 x_1 + (1 : Int))) x0 ∧
 (0 : Int) = (↑x0 : Int) ∧
 (pansF (pw x_1) (x % (s3 x_1 + (1 : Int)))).snd = (pansF (pw x_1) (x % (s3 x_1 + (1 : Int)))).snd ∧
 (pansF (pw x_1) (x % (s3 x_1 + (1 : Int)))).fst = (pansF (pw x_1) (x % (s3 x_1 + (1 : Int)))).fst ∧
 pw x_1 = pw x_1 ∧ s3 x_1 = s3 x_1 ∧ n % (9 : Int) + (1 : Int) = n % (9 : Int) + (1 : Int) ∧ True) ∧
 ∀ (x_2 : Nat),
 x_2 ≤ (n % (9 : Int) + (1 : Int)).toNat →
 ((↑x_2 : Int) < n % (9 : Int) + (1 : Int) →
 (↑x_2 : Int) < n % (9 : Int) + (1 : Int) ∧
 ((0 : Int) ≤ restT (x % (s3 x_1 + (1 : Int))) x_2 ∧ (0 : Int) < (3 : Int)) ∧
 (restT (x % (s3 x_1 + (1 : Int))) x_2 % (3 : Int) = (2 : Int) →
 restT (x % (s3 x_1 + (1 : Int))) x_2 % (3 : Int) = (2 : Int) ∧
 Small ((digL (x % (s3 x_1 + (1 : Int))) x_2).length + ((0 : Nat) + (1 : Nat))) ∧
 Fits IntKind.i64 (restT (x % (s3 x_1 + (1 : Int))) x_2 - (-1 : Int)) ∧
 ((0 : Int) ≤ restT (x % (s3 x_1 + (1 : Int))) x_2 - (-1 : Int) ∧ (0 : Int) < (3 : Int)) ∧
 Fits IntKind.i64 ((restT (x % (s3 x_1 + (1 : Int))) x_2 - (-1 : Int)) / (3 : Int)) ∧
 Fits IntKind.i64 ((↑x_2 : Int) + (1 : Int)) ∧
 ∃ (x' : Nat),
 x' ≤ (n % (9 : Int) + (1 : Int)).toNat ∧
 (n % (9 : Int) + (1 : Int)).toNat - x' < (n % (9 : Int) + (1 : Int)).toNat - x_2 ∧
 (True ∧ digL (x % (s3 x_1 + (1 : Int))) x_2 ++ [(-1 : Int)] = digL (x % (s3 x_1 + (1 : Int))) x' ∧ True) ∧
 True ∧
 (restT (x % (s3 x_1 + (1 : Int))) x_2 - (-1 : Int)) / (3 : Int) = restT (x % (s3 x_1 + (1 : Int))) x' ∧
 (↑x_2 : Int) + (1 : Int) = (↑x' : Int) ∧
 (pansF (pw x_1) (x % (s3 x_1 + (1 : Int)))).snd = (pansF (pw x_1) (x % (s3 x_1 + (1 : Int)))).snd ∧
 (pansF (pw x_1) (x % (s3 x_1 + (1 : Int)))).fst = (pansF (pw x_1) (x % (s3 x_1 + (1 : Int)))).fst ∧
 pw x_1 = pw x_1 ∧ s3 x_1 = s3 x_1 ∧ n % (9 : Int) + (1 : Int) = n % (9 : Int) + (1 : Int) ∧ True) ∧
 (¬restT (x % (s3 x_1 + (1 : Int))) x_2 % (3 : Int) = (2 : Int) →
 ¬restT (x % (s3 x_1 + (1 : Int))) x_2 % (3 : Int) = (2 : Int) ∧
 Small ((digL (x % (s3 x_1 + (1 : Int))) x_2).length + ((0 : Nat) + (1 : Nat))) ∧
 Fits IntKind.i64 (restT (x % (s3 x_1 + (1 : Int))) x_2 - restT (x % (s3 x_1 + (1 : Int))) x_2 % (3 : Int)) ∧
 ((0 : Int) ≤ restT (x % (s3 x_1 + (1 : Int))) x_2 - restT (x % (s3 x_1 + (1 : Int))) x_2 % (3 : Int) ∧ (0 : Int) < (3 : Int)) ∧
 Fits IntKind.i64 ((restT (x % (s3 x_1 + (1 : Int))) x_2 - restT (x % (s3 x_1 + (1 : Int))) x_2 % (3 : Int)) / (3 : Int)) ∧
 Fits IntKind.i64 ((↑x_2 : Int) + (1 : Int)) ∧
 ∃ (x' : Nat),
 x' ≤ (n % (9 : Int) + (1 : Int)).toNat ∧
 (n % (9 : Int) + (1 : Int)).toNat - x' < (n % (9 : Int) + (1 : Int)).toNat - x_2 ∧
 (True ∧
 digL (x % (s3 x_1 + (1 : Int))) x_2 ++ [restT (x % (s3 x_1 + (1 : Int))) x_2 % (3 : Int)] =
 digL (x % (s3 x_1 + (1 : Int))) x' ∧
 True) ∧
 True ∧
 (restT (x % (s3 x_1 + (1 : Int))) x_2 - restT (x % (s3 x_1 + (1 : Int))) x_2 % (3 : Int)) / (3 : Int) =
 restT (x % (s3 x_1 + (1 : Int))) x' ∧
 (↑x_2 : Int) + (1 : Int) = (↑x' : Int) ∧
 (pansF (pw x_1) (x % (s3 x_1 + (1 : Int)))).snd = (pansF (pw x_1) (x % (s3 x_1 + (1 : Int)))).snd ∧
 (pansF (pw x_1) (x % (s3 x_1 + (1 : Int)))).fst = (pansF (pw x_1) (x % (s3 x_1 + (1 : Int)))).fst ∧
 pw x_1 = pw x_1 ∧ s3 x_1 = s3 x_1 ∧ n % (9 : Int) + (1 : Int) = n % (9 : Int) + (1 : Int) ∧ True)) ∧
 (¬(↑x_2 : Int) < n % (9 : Int) + (1 : Int) →
 ¬(↑x_2 : Int) < n % (9 : Int) + (1 : Int) ∧
 Fits IntKind.i64 (s3 x_1 + (1 : Int)) ∧
 ((pw x_1).length ≤ (1000 : Nat) ∧ Fits IntKind.i64 (s3 x_1 + (1 : Int))) ∧
 ((pansF (pw x_1) (x % (s3 x_1 + (1 : Int)))).snd = (0 : Int) →
 (pansF (pw x_1) (x % (s3 x_1 + (1 : Int)))).snd = (0 : Int) ∧
 (pansF (pw x_1) (x % (s3 x_1 + (1 : Int)))).snd = (0 : Int) ∧
 ((pansF (pw x_1) (x % (s3 x_1 + (1 : Int)))).fst.length ≤ (1000 : Nat) ∧
 (digL (x % (s3 x_1 + (1 : Int))) x_2).length ≤ (1000 : Nat)) ∧
 (decide ((pansF (pw x_1) (x % (s3 x_1 + (1 : Int)))).fst = digL (x % (s3 x_1 + (1 : Int))) x_2) = true →
 decide ((pansF (pw x_1) (x % (s3 x_1 + (1 : Int)))).fst = digL (x % (s3 x_1 + (1 : Int))) x_2) = true ∧
 decide ((pansF (pw x_1) (x % (s3 x_1 + (1 : Int)))).fst = digL (x % (s3 x_1 + (1 : Int))) x_2) = true ∧
 decide ((pansF (pw x_1) (x % (s3 x_1 + (1 : Int)))).fst = digL (x % (s3 x_1 + (1 : Int))) x_2) = true ∧
 ((pansF (pw x_1) (s3 x_1 + (1 : Int))).snd = (5 : Int) →
 (pansF (pw x_1) (s3 x_1 + (1 : Int))).snd = (5 : Int) ∧
 (pansF (pw x_1) (s3 x_1 + (1 : Int))).snd = (5 : Int) ∧
 (pansF (pw x_1) (s3 x_1 + (1 : Int))).snd = (5 : Int) ∧ True ∧ true = true) ∧
 (¬(pansF (pw x_1) (s3 x_1 + (1 : Int))).snd = (5 : Int) →
 ¬(pansF (pw x_1) (s3 x_1 + (1 : Int))).snd = (5 : Int) ∧
 ¬(pansF (pw x_1) (s3 x_1 + (1 : Int))).snd = (5 : Int) ∧
 ¬(pansF (pw x_1) (s3 x_1 + (1 : Int))).snd = (5 : Int) ∧ false = true)) ∧
 (decide ((pansF (pw x_1) (x % (s3 x_1 + (1 : Int)))).fst = digL (x % (s3 x_1 + (1 : Int))) x_2) = false →
 decide ((pansF (pw x_1) (x % (s3 x_1 + (1 : Int)))).fst = digL (x % (s3 x_1 + (1 : Int))) x_2) = false ∧
 decide ((pansF (pw x_1) (x % (s3 x_1 + (1 : Int)))).fst = digL (x % (s3 x_1 + (1 : Int))) x_2) = false ∧
 decide ((pansF (pw x_1) (x % (s3 x_1 + (1 : Int)))).fst = digL (x % (s3 x_1 + (1 : Int))) x_2) = false ∧
 false = true)) ∧
 (¬(pansF (pw x_1) (x % (s3 x_1 + (1 : Int)))).snd = (0 : Int) →
 ¬(pansF (pw x_1) (x % (s3 x_1 + (1 : Int)))).snd = (0 : Int) ∧
 ¬(pansF (pw x_1) (x % (s3 x_1 + (1 : Int)))).snd = (0 : Int) ∧ false = true)))) := by
 kernel_rfl

end Go.SX.We

/- Chapter 08: the law of Ternary, proved. -/
namespace Go.SX.We
open Go Go.Proofs

theorem small3 : ∀ k, k < 10 → (0 : Int) ≤ s3 k ∧ s3 k ≤ 9841 ∧ (1 : Int) ≤ 3 ^ k ∧ (3 : Int) ^ k ≤ 19683 := by decide +kernel
theorem nxT_small {r : Int} (h : 0 ≤ r) : 0 ≤ nxT r ∧ nxT r ≤ r := by unfold nxT digT; split <;> omega
theorem restT_small {t : Int} (h : 0 ≤ t) : ∀ k, 0 ≤ restT t k ∧ restT t k ≤ t
  | 0 => ⟨h, Int.le_refl _⟩
  | k + 1 => by
    have ih := restT_small h k
    have := nxT_small ih.1
    show 0 ≤ nxT (restT t k) ∧ nxT (restT t k) ≤ t
    omega
theorem ok12 : p12.OK Try.prog := p12.ok (fn := Try.f12) C12 (fun _ => cx_ok (cs := [p25.ci, p21.ci, p19.ci]) ⟨PC.OK.ci ok25, PC.OK.ci ok21, PC.OK.ci ok19, trivial⟩ _) (by kernel_rfl) (by kernel_rfl) (by kernel_rfl) fun p hp => by
  have key : ∀ n x : Int, 0 ≤ n → n ≤ 255 → 0 ≤ x → x ≤ 65535 → g12 n x := fun n x h1 h2 h3 h4 => by
    refine (g12_eq n x).mpr ?_
    simp only [pp1, eq_self, and_true, true_and, Int.toNat_natCast]
    obtain ⟨m, hm⟩ : ∃ m : Nat, n % 9 + 1 = (m : Int) := ⟨(n % 9 + 1).toNat, by omega⟩
    rw [hm, Int.toNat_natCast]
    have hm9 : m ≤ 9 := by omega
    have hm1 : 1 ≤ m := by omega
    refine ⟨fi (by omega) (by omega), by omega, fi (by omega) (by omega), ⟨0, by omega, rfl, rfl, rfl, rfl⟩, fun k hk => ⟨fun hlt => ?_, fun hge => ?_⟩⟩
    · obtain ⟨a, b, c, d⟩ := small3 k (by omega)
      refine ⟨by unfold Small; rw [pw_length]; omega, fi (by omega) (by omega), fi (by omega) (by omega), fi (by omega) (by omega), k + 1, by omega, by omega, ?_, rfl, (Int.pow_succ 3 k).symm, by omega⟩
      unfold pw
      rw [List.range_succ, List.map_append]; rfl
    · have ek : k = m := by omega
      subst ek
      obtain ⟨a, b, c, d⟩ := small3 k (by omega)
      generalize ht : x % (s3 k + 1) = t
      have ht0 : 0 ≤ t := by rw [← ht]; exact Int.emod_nonneg _ (by omega)
      have ht1 : t < s3 k + 1 := by rw [← ht]; exact Int.emod_lt_of_pos _ (by omega)
      have hw : Wts (pw k) := check_ok.1 (pw_wts k (by omega) (by omega))
      have tot : ∀ s : Int, 0 ≤ s → totalF (pw k) 9 s = 0 := fun s hs => total9.2 ⟨⟨hw, by rw [pw_length]; omega⟩, hs⟩
      refine ⟨fi (by omega) (by omega), fi (by omega) (by omega), by omega, ⟨by rw [pw_length]; omega, fi (by omega) (by omega)⟩, ⟨0, by omega, rfl, rfl, rfl⟩, fun j hj => ⟨fun h5 => ?_, fun h5 => ?_⟩⟩
      · obtain ⟨r0, r1⟩ := restT_small ht0 j
        have hl : (digL t j).length = j := by simp [digL]
        have hsn : digL t (j + 1) = digL t j ++ [digT (restT t j)] := by simp [digL, List.range_succ]
        have hrs : restT t (j + 1) = nxT (restT t j) := rfl
        rw [hl]
        refine ⟨by omega, fun h6 => ⟨by unfold Small; omega, fi (by omega) (by omega), by omega, fi (by omega) (by omega), fi (by omega) (by omega), j + 1, by omega, by omega, ?_, ?_, by omega⟩, fun h6 => ⟨by unfold Small; omega, fi (by omega) (by omega), by omega, fi (by omega) (by omega), fi (by omega) (by omega), j + 1, by omega, by omega, ?_, ?_, by omega⟩⟩
        · rw [hsn]; unfold digT; rw [if_pos h6]
        · rw [hrs]; unfold nxT digT; rw [if_pos h6]
        · rw [hsn]; unfold digT; rw [if_neg h6]
        · rw [hrs]; unfold nxT digT; rw [if_neg h6]
      · have ej : j = k := by omega
        subst ej
        rw [pans_pw ht0 (by omega) (tot t ht0), pans_pw_no (by omega) (tot (s3 j + 1) (by omega))]
        have hl : (digL t j).length = j := by simp [digL]
        refine ⟨fi (by omega) (by omega), ⟨by rw [pw_length]; omega, fi (by omega) (by omega)⟩, fun _ => ⟨⟨by rw [hl]; omega, by rw [hl]; omega⟩, fun _ => ⟨fun h => h, fun h => absurd rfl h⟩, fun h => ?_⟩, fun h => absurd rfl h⟩
        rw [decide_eq_true rfl] at h; cases h
  exact key p.1 p.2 hp.1.1 hp.1.2 hp.2.1 hp.2.2
end Go.SX.We
