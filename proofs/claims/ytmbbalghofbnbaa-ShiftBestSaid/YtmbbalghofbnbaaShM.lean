/- Chapter 03 in plain words: the intervals that are made from numbers, and what is counted. -/
import Derived.Test.YtmbbalghofbnbaaShQ
namespace Go.SX.Sh

def mk1 (place : Int) (q : Int × Int) : Option Sp := if q.1 % (place + 1) = q.2 % (place + 1) then none else some (min (q.1 % (place + 1)) (q.2 % (place + 1)), max (q.1 % (place + 1)) (q.2 % (place + 1)))
def madeF (x : List (Int × Int)) (place : Int) : List Sp := (x.take 40).filterMap (mk1 place)
def U16 (q : Int × Int) : Prop := (0 ≤ q.1 ∧ q.1 ≤ 65535) ∧ 0 ≤ q.2 ∧ q.2 ≤ 65535
def seenF (l : List Int) : List Int := l.foldl (fun s x => if x ∈ s then s else s ++ [x]) []
def topF (l : List Int) : Int := l.foldl (fun t x => max t (x + 1)) 0
def mostF (l : List Int) : Int × Int := ((seenF l).length, topF l)

theorem take_filterMap {α β : Type} (f : α → Option β) (d : α) (l : List α) (k : Nat) (h : k < l.length) : (l.take (k + 1)).filterMap f = (l.take k).filterMap f ++ (f (l.getD k d)).toList := by
  rw [List.take_add_one, List.filterMap_append, List.getElem?_eq_getElem h]
  congr 1
  rw [List.getD_eq_getElem?_getD, List.getElem?_eq_getElem h]
  simp only [Option.toList_some, List.filterMap_cons, List.filterMap_nil, Option.getD_some]
  cases f l[k] <;> rfl

theorem madeF_length (x : List (Int × Int)) (place : Int) : (madeF x place).length ≤ 40 := by
  unfold madeF
  have := List.length_filterMap_le (mk1 place) (x.take 40)
  have h2 : (x.take 40).length ≤ 40 := by simp; omega
  omega

theorem madeF_ok (x : List (Int × Int)) (place : Int) (h0 : 0 ≤ place) (h1 : place ≤ 1000) : ∀ s ∈ madeF x place, 0 ≤ s.1 ∧ s.1 < s.2 ∧ s.2 ≤ place := by
  intro s hs
  obtain ⟨q, _, hq⟩ := List.mem_filterMap.1 hs
  unfold mk1 at hq
  have a1 := Int.emod_nonneg q.1 (show place + 1 ≠ 0 by omega)
  have a2 := Int.emod_nonneg q.2 (show place + 1 ≠ 0 by omega)
  have a3 := Int.emod_lt_of_pos q.1 (show 0 < place + 1 by omega)
  have a4 := Int.emod_lt_of_pos q.2 (show 0 < place + 1 by omega)
  split at hq
  · cases hq
  · rename_i hne
    cases hq
    simp only
    omega

theorem checkF_ok {l : List Sp} (hl : l.length ≤ 40) (h : ∀ s ∈ l, 0 ≤ s.1 ∧ s.1 < s.2 ∧ s.2 ≤ 1000) : checkF l = 0 := by
  unfold checkF
  rw [if_neg (by omega), if_neg]
  rw [Bool.not_eq_true, List.any_eq_false]
  intro s hs
  have := h s hs
  unfold bad
  simp
  omega

theorem madeF_check (x : List (Int × Int)) (place : Int) (h0 : 0 ≤ place) (h1 : place ≤ 1000) : checkF (madeF x place) = 0 :=
  checkF_ok (madeF_length x place) fun s hs => by have := madeF_ok x place h0 h1 s hs; omega

theorem seenF_length (l : List Int) : (seenF l).length ≤ l.length := by
  have : ∀ (m : List Int) (s : List Int), (m.foldl (fun s x => if x ∈ s then s else s ++ [x]) s).length ≤ s.length + m.length := by
    intro m
    induction m with
    | nil => intro s; simp
    | cons y m ih =>
      intro s
      rw [List.foldl_cons]
      refine Nat.le_trans (ih _) ?_
      split <;> simp <;> omega
  have := this l []
  simpa [seenF] using this
theorem topF_le (l : List Int) (b : Int) (hb : 0 ≤ b) (h : ∀ x ∈ l, x + 1 ≤ b) : topF l ≤ b := by
  have : ∀ (m : List Int) (t : Int), t ≤ b → (∀ x ∈ m, x + 1 ≤ b) → m.foldl (fun t x => max t (x + 1)) t ≤ b := by
    intro m
    induction m with
    | nil => intro t ht _; exact ht
    | cons y m ih =>
      intro t ht hm
      rw [List.foldl_cons]
      have := hm y (by simp)
      exact ih _ (by omega) fun x hx => hm x (by simp [hx])
  exact this l 0 hb h
theorem topF_nonneg (l : List Int) : 0 ≤ topF l := by
  have : ∀ (m : List Int) (t : Int), 0 ≤ t → 0 ≤ m.foldl (fun t x => max t (x + 1)) t := by
    intro m
    induction m with
    | nil => intro t ht; exact ht
    | cons y m ih => intro t ht; rw [List.foldl_cons]; exact ih _ (by omega)
  exact this l 0 (Int.le_refl _)
end Go.SX.Sh
