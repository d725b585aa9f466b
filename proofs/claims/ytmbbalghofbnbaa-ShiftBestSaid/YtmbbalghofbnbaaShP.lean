/- Chapter 03 in plain words: what the functions of the package compute. -/
import Derived.Test.YtmbbalghofbnbaaSxO
namespace Go.SX.Sh

abbrev Sp := Int × Int

def inS (s : Sp) (x : Int) : Bool := decide (s.1 ≤ x) && decide (x < s.2)
theorem pp1 {p q : Prop} : (p → p ∧ q) ↔ (p → q) := ⟨fun h hp => (h hp).2, fun h hp => ⟨hp, h hp⟩⟩

theorem inS_iff {s : Sp} {x : Int} : inS s x = true ↔ s.1 ≤ x ∧ x < s.2 := by simp [inS]

def common (a b : Sp) : Sp := if min a.2 b.2 ≤ max a.1 b.1 then (0, 0) else (max a.1 b.1, min a.2 b.2)
def ovl (a b : Sp) : Bool := !(decide ((common a b).1 = 0) && decide ((common a b).2 = 0))
theorem ovl_eq (a b : Sp) : ovl a b = decide (max a.1 b.1 < min a.2 b.2) := by
  unfold ovl common
  split
  · rename_i h; rw [decide_eq_false (by omega : ¬ max a.1 b.1 < min a.2 b.2)]; rfl
  · rename_i h
    rw [decide_eq_true (by omega : max a.1 b.1 < min a.2 b.2)]
    by_cases h1 : max a.1 b.1 = 0
    · have : ¬ min a.2 b.2 = 0 := by omega
      simp [this]
    · simp [h1]

def atF (l : List Sp) (x : Int) : List Int := ((List.range l.length).filter fun i => inS (l.getD i (0, 0)) x).map Int.ofNat
def deepStep (l : List Sp) (st : Int × List Int) (s : Sp) : Int × List Int :=
  if (st.2.length : Int) < (atF l s.1).length ∨ ((atF l s.1).length : Int) = st.2.length ∧ s.1 < st.1 then (s.1, atF l s.1) else st
def deepF (l : List Sp) : Int × List Int := l.foldl (deepStep l) (0, [])
def bad (s : Sp) : Bool := decide (s.1 < 0) || decide (s.2 ≤ s.1) || decide (1000 < s.2)
def checkF (l : List Sp) : Int := if 40 < l.length then 3 else if l.any bad then 2 else 0

def depthP (l : List Sp) : Int × Int := if checkF l = 0 then ((deepF l).2.length, 0) else (0, checkF l)
def deepestP (l : List Sp) : Int × List Int × Int := if checkF l = 0 then (if l.length = 0 then (0, [], 5) else ((deepF l).1, (deepF l).2, 0)) else (0, [], checkF l)
def clash (l : List Sp) (c : List Int) (a b : Nat) : Bool := ovl (l.getD a (0, 0)) (l.getD b (0, 0)) && decide (c.getD a 0 = c.getD b 0)
def properR (l : List Sp) (c : List Int) : Bool := (List.range l.length).all fun a => (List.range a).all fun b => !(clash l c a b)
def properP (l : List Sp) (c : List Int) : Bool × Int := if checkF l = 0 then (if c.length = l.length ∧ c.any (fun x => decide (x < 0)) = false then (properR l c, 0) else (false, 1)) else (false, checkF l)
def leastF (x : Int) (l : List Int) : Int := match (List.range (l.length + 1)).find? (fun k => !(decide (x + (k : Nat) ∈ l))) with
  | some k => x + k
  | none => x
def beforeF : List Int → List Int → Bool
  | _, [] => false
  | [], _ :: _ => true
  | x :: a, y :: b => if x = y then beforeF a b else decide (x < y)
def cnt (l : List Sp) (v : Int) : Nat := l.countP fun s => inS s v
def depthStep (l : List Sp) (st : Int × Int) (v : Int) : Int × Int := if st.1 < cnt l v then (cnt l v, v) else st
def depthTo (l : List Sp) (x : Int) : Nat → Int × Int
  | 0 => (0, 0)
  | k + 1 => depthStep l (depthTo l x k) (x + k)
def depthR (l : List Sp) (a : Sp) : Int × Int := depthTo l a.1 (a.2 - a.1).toNat
def riseOK (n : Int) (l : List Int) (j : Nat) : Bool := decide (0 ≤ l.getD j 0) && decide (l.getD j 0 ≤ n - 1) && (decide (j = 0) || decide (l.getD (j - 1) 0 < l.getD j 0))
def risingF (n : Int) (l : List Int) : Bool := (List.range l.length).all (riseOK n l)
def belowF (n : Int) : List Int := (List.range n.toNat).map Int.ofNat
def belowTo (n : Int) (k : Nat) : List Int := (List.range k).map Int.ofNat ++ List.replicate (n.toNat - k) 0

def taken (conf : Nat → Nat → Bool) (out : List Int) (i j : Nat) : List Int := ((List.range j).filter (conf i)).map fun a => out.getD a 0
def fitTo (start : Nat → Int) (conf : Nat → Nat → Bool) : Nat → List Int
  | 0 => []
  | i + 1 => fitTo start conf i ++ [leastF (start i) (taken conf (fitTo start conf i) i i)]
def at_ (l : List Sp) (i : Nat) : Sp := l.getD i (0, 0)
def confF (l : List Sp) (i j : Nat) : Bool := ovl (at_ l i) (at_ l j)
def zeroF (_ : Nat) : Int := 0
def firstF (l : List Sp) : List Int := fitTo zeroF (confF l) l.length
def lowTo (l : List Sp) (out : List Int) (i : Nat) (k : Int) (j : Nat) : List Sp :=
  at_ l i :: ((List.range j).filter fun a => decide (out.getD a 0 ≤ k) && ovl (at_ l i) (at_ l a)).map fun a => common (at_ l i) (at_ l a)
def levelAt (l : List Sp) (out : List Int) (i : Nat) : Int :=
  match (List.range (i + 1)).find? fun k : Nat => decide (((deepF (lowTo l out i (1 + k) i)).2.length : Int) ≤ 1 + k) with
  | some k => 1 + k
  | none => 1
def levelsTo (l : List Sp) : Nat → List Int
  | 0 => []
  | i + 1 => levelsTo l i ++ [levelAt l (levelsTo l i) i]
def levelsF (l : List Sp) : List Int := levelsTo l l.length
def startT (v : List Int) (i : Nat) : Int := max (3 * v.getD i 0 - 5) 0
def confT (l : List Sp) (v : List Int) (i j : Nat) : Bool := decide (v.getD i 0 = v.getD j 0) && confF l i j
def trotF (l : List Sp) : List Int := fitTo (startT (levelsF l)) (confT l (levelsF l)) l.length
def guardF (l : List Sp) (f : List Sp → List Int) : List Int × Int := if checkF l = 0 then (f l, 0) else ([], checkF l)
def lowR (l : List Sp) (out : List Int) (i : Nat) (k : Int) (j : Nat) : List Sp :=
  at_ l i :: ((List.range j).filter fun a => decide (out.getD a 0 ≤ k)).map fun a => at_ l a
def levelAtR (l : List Sp) (out : List Int) (i : Nat) : Int :=
  match (List.range (i + 1)).find? fun k : Nat => decide ((depthR (lowR l out i (1 + k) i) (at_ l i)).1 ≤ 1 + k) with
  | some k => 1 + k
  | none => 1
def levelsTR (l : List Sp) : Nat → List Int
  | 0 => []
  | i + 1 => levelsTR l i ++ [levelAtR l (levelsTR l i) i]
def levelsR (l : List Sp) : List Int := levelsTR l l.length
def trotR (l : List Sp) : List Int := fitTo (startT (levelsR l)) (confT l (levelsR l)) l.length

theorem take_foldl {α β : Type} (f : β → α → β) (b : β) (d : α) (l : List α) (k : Nat) (h : k < l.length) : (l.take (k + 1)).foldl f b = f ((l.take k).foldl f b) (l.getD k d) := by
  rw [List.take_add_one, List.foldl_append, List.getElem?_eq_getElem h]
  simp [List.getD, List.getElem?_eq_getElem h]

theorem atF_take_succ (l : List Sp) (x : Int) (k : Nat) (h : k < l.length) :
    atF (l.take (k + 1)) x = atF (l.take k) x ++ if inS (l.getD k (0, 0)) x then [(k : Int)] else [] := by
  unfold atF
  have e1 : (l.take (k + 1)).length = k + 1 := by simp; omega
  have e2 : (l.take k).length = k := by simp; omega
  rw [e1, e2, List.range_succ, List.filter_append, List.map_append]
  congr 1
  · congr 1
    refine List.filter_congr fun i hi => ?_
    have hik : i < k := by simpa using hi
    simp [List.getD, List.getElem?_take, hik, Nat.lt_succ_of_lt hik]
  · simp only [List.filter_cons, List.filter_nil]
    simp only [List.getD, List.getElem?_take, Nat.lt_succ_self, if_true]
    split <;> rename_i h <;> simp [h]

theorem atF_length (l : List Sp) (x : Int) : (atF l x).length ≤ l.length := by
  unfold atF
  rw [List.length_map]
  exact Nat.le_trans (List.length_filter_le _ _) (by simp)

theorem taken_succ (conf : Nat → Nat → Bool) (out : List Int) (i j : Nat) : taken conf out i (j + 1) = taken conf out i j ++ if conf i j = true then [out.getD j 0] else [] := by
  unfold taken
  rw [List.range_succ, List.filter_append, List.map_append]
  congr 1
  by_cases h : conf i j = true <;> simp [h]
theorem taken_length (conf : Nat → Nat → Bool) (out : List Int) (i j : Nat) : (taken conf out i j).length ≤ j := by
  unfold taken
  rw [List.length_map]
  exact Nat.le_trans (List.length_filter_le _ _) (by simp)
theorem fitTo_length (start : Nat → Int) (conf : Nat → Nat → Bool) (i : Nat) : (fitTo start conf i).length = i := by
  induction i with
  | zero => rfl
  | succ i ih => simp [fitTo, ih]
theorem lowTo_succ (l : List Sp) (out : List Int) (i : Nat) (k : Int) (j : Nat) :
    lowTo l out i k (j + 1) = lowTo l out i k j ++ if (decide (out.getD j 0 ≤ k) && ovl (at_ l i) (at_ l j)) = true then [common (at_ l i) (at_ l j)] else [] := by
  unfold lowTo
  rw [List.range_succ, List.filter_append, List.map_append, List.cons_append]
  congr 2
  by_cases h : (decide (out.getD j 0 ≤ k) && ovl (at_ l i) (at_ l j)) = true
  · rw [List.filter_cons, if_pos h, if_pos h]; rfl
  · rw [List.filter_cons, if_neg h, if_neg h]; rfl
theorem lowTo_length (l : List Sp) (out : List Int) (i : Nat) (k : Int) (j : Nat) : (lowTo l out i k j).length ≤ j + 1 := by
  unfold lowTo
  rw [List.length_cons, List.length_map]
  exact Nat.succ_le_succ (Nat.le_trans (List.length_filter_le _ _) (by simp))
theorem lowR_succ (l : List Sp) (out : List Int) (i : Nat) (k : Int) (j : Nat) :
    lowR l out i k (j + 1) = lowR l out i k j ++ if out.getD j 0 ≤ k then [at_ l j] else [] := by
  unfold lowR
  rw [List.range_succ, List.filter_append, List.map_append, List.cons_append]
  congr 2
  by_cases h : out.getD j 0 ≤ k
  · rw [List.filter_cons, if_pos (decide_eq_true h), if_pos h]; rfl
  · rw [List.filter_cons, if_neg (by rw [decide_eq_false h]; simp), if_neg h]; rfl
theorem lowR_length (l : List Sp) (out : List Int) (i : Nat) (k : Int) (j : Nat) : (lowR l out i k j).length ≤ j + 1 := by
  unfold lowR
  rw [List.length_cons, List.length_map]
  exact Nat.succ_le_succ (Nat.le_trans (List.length_filter_le _ _) (by simp))
theorem levelsTo_length (l : List Sp) (i : Nat) : (levelsTo l i).length = i := by
  induction i with
  | zero => rfl
  | succ i ih => simp [levelsTo, ih]
theorem levelsTR_length (l : List Sp) (i : Nat) : (levelsTR l i).length = i := by
  induction i with
  | zero => rfl
  | succ i ih => simp [levelsTR, ih]
theorem deepStep_length (l : List Sp) (st : Int × List Int) (s : Sp) (h : st.2.length ≤ l.length) : (deepStep l st s).2.length ≤ l.length := by
  unfold deepStep
  split
  · exact atF_length _ _
  · exact h
theorem deepF_length (l : List Sp) : (deepF l).2.length ≤ l.length := by
  unfold deepF
  have : ∀ (m : List Sp) (st : Int × List Int), st.2.length ≤ l.length → (m.foldl (deepStep l) st).2.length ≤ l.length := by
    intro m
    induction m with
    | nil => intro st h; exact h
    | cons s m ih => intro st h; exact ih _ (deepStep_length l st s h)
  exact this l _ (Nat.zero_le _)
theorem depthTo_le (l : List Sp) (x : Int) (k : Nat) : (depthTo l x k).1 ≤ l.length := by
  induction k with
  | zero => exact Int.natCast_nonneg _
  | succ k ih =>
    unfold depthTo depthStep
    split
    · exact Int.ofNat_le.2 List.countP_le_length
    · exact ih
theorem find_range {p : Nat → Bool} {n k : Nat} (hk : k < n) (h : p k = true) (hn : ∀ j, j < k → p j = false) : (List.range n).find? p = some k := by
  rw [List.find?_range_eq_some]
  exact ⟨h, by simpa using hk, fun j hj => by rw [hn j hj]; rfl⟩
theorem levelAt_eq (l : List Sp) (out : List Int) (i k : Nat) (hk : k ≤ i) (h : ((deepF (lowTo l out i (1 + k) i)).2.length : Int) ≤ 1 + k) (hn : ∀ j : Nat, j < k → ¬ ((deepF (lowTo l out i (1 + j) i)).2.length : Int) ≤ 1 + j) :
    levelAt l out i = 1 + k := by
  unfold levelAt
  rw [find_range (k := k) (by omega) (decide_eq_true h) (fun j hj => decide_eq_false (hn j hj))]
theorem levelAtR_eq (l : List Sp) (out : List Int) (i k : Nat) (hk : k ≤ i) (h : (depthR (lowR l out i (1 + k) i) (at_ l i)).1 ≤ 1 + k) (hn : ∀ j : Nat, j < k → ¬ (depthR (lowR l out i (1 + j) i) (at_ l i)).1 ≤ 1 + j) :
    levelAtR l out i = 1 + k := by
  unfold levelAtR
  rw [find_range (k := k) (by omega) (decide_eq_true h) (fun j hj => decide_eq_false (hn j hj))]
theorem levelAt_bound (l : List Sp) (out : List Int) (i : Nat) : 1 ≤ levelAt l out i ∧ levelAt l out i ≤ i + 1 := by
  unfold levelAt
  split
  · rename_i k h
    have := List.mem_range.1 (List.mem_of_find?_eq_some h)
    omega
  · omega
theorem levelAtR_bound (l : List Sp) (out : List Int) (i : Nat) : 1 ≤ levelAtR l out i ∧ levelAtR l out i ≤ i + 1 := by
  unfold levelAtR
  split
  · rename_i k h
    have := List.mem_range.1 (List.mem_of_find?_eq_some h)
    omega
  · omega
theorem levelsTo_bound (l : List Sp) (n : Nat) : ∀ j, j < n → 1 ≤ (levelsTo l n).getD j 0 ∧ (levelsTo l n).getD j 0 ≤ n := by
  induction n with
  | zero => intro j hj; omega
  | succ n ih =>
    intro j hj
    unfold levelsTo
    rw [List.getD_eq_getElem?_getD]
    rcases Nat.lt_or_ge j n with h | h
    · rw [List.getElem?_append_left (by rw [levelsTo_length]; exact h), ← List.getD_eq_getElem?_getD]
      have := ih j h
      omega
    · have e : j = n := by omega
      subst e
      rw [List.getElem?_append_right (by rw [levelsTo_length]; omega), levelsTo_length, Nat.sub_self]
      have := levelAt_bound l (levelsTo l j) j
      simpa using by omega
theorem levelsTR_bound (l : List Sp) (n : Nat) : ∀ j, j < n → 1 ≤ (levelsTR l n).getD j 0 ∧ (levelsTR l n).getD j 0 ≤ n := by
  induction n with
  | zero => intro j hj; omega
  | succ n ih =>
    intro j hj
    unfold levelsTR
    rw [List.getD_eq_getElem?_getD]
    rcases Nat.lt_or_ge j n with h | h
    · rw [List.getElem?_append_left (by rw [levelsTR_length]; exact h), ← List.getD_eq_getElem?_getD]
      have := ih j h
      omega
    · have e : j = n := by omega
      subst e
      rw [List.getElem?_append_right (by rw [levelsTR_length]; omega), levelsTR_length, Nat.sub_self]
      have := levelAtR_bound l (levelsTR l j) j
      simpa using by omega
theorem checkF_zero {l : List Sp} (h : checkF l = 0) : l.length ≤ 40 ∧ ∀ i, i < l.length → bad (at_ l i) = false := by
  unfold checkF at h
  split at h
  · cases h
  · split at h
    · cases h
    · rename_i h1 h2
      refine ⟨by omega, fun i hi => ?_⟩
      rw [Bool.not_eq_true, List.any_eq_false] at h2
      have := h2 l[i] (List.getElem_mem hi)
      unfold at_
      rw [List.getD_eq_getElem?_getD, List.getElem?_eq_getElem hi]
      simpa using this
theorem not_bad {s : Sp} (h : bad s = false) : 0 ≤ s.1 ∧ s.1 < s.2 ∧ s.2 ≤ 1000 := by
  unfold bad at h
  simp at h
  omega

end Go.SX.Sh
