/- Chapter 06, part 5: the contracts of Apply, Same, Route, Colors. -/
import Derived.Test.YtfbgbdiajghnbaaDoorPa3E
import Derived.Test.YtfbgbdiajghnbaaDoorPa4Q
namespace Go.SX.Pa
open Go Go.Proofs

theorem all_of_drop {α : Type} (p : α → Bool) : (l : List α) → (∀ x ∈ l.dropWhile p, p x = true) → ∀ x ∈ l, p x = true
  | [], _ => fun x hx => by simp at hx
  | a :: r, h => by
    unfold List.dropWhile at h
    cases hp : p a with
    | true =>
      rw [hp] at h
      intro x hx
      rcases List.mem_cons.1 hx with rfl | h1
      · exact hp
      · exact all_of_drop p r h x h1
    | false =>
      rw [hp] at h
      have := h a List.mem_cons_self
      rw [hp] at this; cases this
theorem drop_nil {α : Type} (p : α → Bool) : (l : List α) → (l.dropWhile p = [] ↔ ∀ x ∈ l, p x = true)
  | [] => by simp
  | a :: r => by
    unfold List.dropWhile
    cases hp : p a with
    | true => rw [drop_nil p r]; simp [hp]
    | false => simp [hp]
theorem trim_nil {l cs : List UInt8} : Lib.trimS l cs = [] ↔ ∀ x ∈ l, cs.contains x = true := by
  unfold Lib.trimS Lib.trimLeftS Lib.trimRightS
  constructor
  · intro h
    have h1 : ∀ x ∈ l.reverse.dropWhile (cs.contains ·), cs.contains x = true := fun x hx => (drop_nil _ _).1 h x (List.mem_reverse.2 hx)
    intro x hx
    exact all_of_drop _ _ h1 x (List.mem_reverse.2 hx)
  · intro h
    have : l.reverse.dropWhile (cs.contains ·) = [] := (drop_nil _ _).2 fun x hx => h x (List.mem_reverse.1 hx)
    rw [this]; rfl
theorem bits_trim {s : ByteArray} : Lib.trimS s.data.toList [48, 49] = [] ↔ Bits s := by
  rw [trim_nil]
  constructor
  · intro h i hi
    have hi' : i < s.data.size := hi
    have h1 := h (s.data[i]) (by rw [Array.mem_toList_iff]; exact Array.getElem_mem hi')
    unfold bt
    rw [Array.getElem?_eq_getElem hi']
    simp at h1
    rcases h1 with h1 | h1 <;> rw [h1] <;> decide
  · intro h x hx
    obtain ⟨i, hi, e⟩ := List.getElem_of_mem hx
    have hi' : i < s.data.size := by simpa using hi
    have := h i hi'
    unfold bt at this
    rw [Array.getElem?_eq_getElem hi'] at this
    have e' : s.data[i] = x := by simpa using e
    rw [e'] at this
    simp only [Option.getD_some] at this
    have h2 : x.toNat = 48 ∨ x.toNat = 49 := by omega
    rcases h2 with h2 | h2
    · have : x = 48 := UInt8.toNat_inj.1 (by rw [h2]; rfl)
      subst this; rfl
    · have : x = 49 := UInt8.toNat_inj.1 (by rw [h2]; rfl)
      subst this; rfl
theorem swF_nat {k : Int} (h : 1 ≤ k ∧ k ≤ 3) : switchesF k = (swN k.toNat : Nat) := by
  have : k = 1 ∨ k = 2 ∨ k = 3 := by omega
  rcases this with rfl | rfl | rfl <;> decide

theorem ok45 : p45.OK Tryd.prog := p45.ok (fun _ => cx [p63.ci, p52.ci, p67.ci, p53.ci] []) (fun _ => cx_ok (cs := [p63.ci, p52.ci, p67.ci, p53.ci]) ⟨PC.OK.ci ok63, PC.OK.ci ok52, PC.OK.ci ok67, PC.OK.ci ok53, trivial⟩ _) (fn := Tryd.f45) rfl (by decide +kernel) rfl fun (p : Int × ByteArray) hp => by
  obtain ⟨k, s⟩ := p
  refine (g45_eq k s).mpr ?_
  have hp : s.size ≤ 1000 := hp
  simp only [pp1, eq_self, and_true, true_and, and_self]
  unfold applyP
  refine ⟨fun h => ?_, fun h => ?_⟩
  · rw [Bool.not_eq_true'] at h
    rw [if_neg (of_decide_eq_false h)]
  · have h : 1 ≤ k ∧ k ≤ 3 := by simpa using h
    rw [if_pos h, swF_nat h]
    refine ⟨h, fun h1 => ?_, fun h1 => ⟨⟨rfl, hp⟩, fun h2 => ?_, fun h2 => ?_⟩⟩
    · rw [if_neg (fun h2 => h1 (by rw [h2.1]))]
    · rw [if_neg (fun h3 => h2 (by rw [h3.2]))]
    · have e1 : s.size = swN k.toNat := by omega
      have e2 : Lib.trimS s.data.toList [48, 49] = [] := by
        have := Classical.not_not.1 h2
        simpa using this
      rw [if_pos ⟨e1, e2⟩]
      exact ⟨⟨h, e1, bits_trim.1 e2⟩, rfl⟩

theorem drop_getD {α : Type} (l : List α) (d : α) (k : Nat) (h : k < l.length) : l.drop k = l.getD k d :: l.drop (k + 1) := by
  rw [List.drop_eq_getElem_cons h, List.getD_eq_getElem?_getD, List.getElem?_eq_getElem h]
  rfl
theorem beforeF_nil_left (b : List Int) : beforeF [] b = decide (0 < b.length) := by cases b <;> simp [beforeF]
theorem beforeF_nil_right (a : List Int) : beforeF a [] = false := by cases a <;> rfl
theorem ok60 : p60.OK Tryd.prog := p60.ok C60 (fun _ => cx0) (fn := Tryd.f60) rfl (by decide +kernel) rfl fun (p : List Int × List Int) hp => by
  obtain ⟨a, b⟩ := p
  refine (g60_eq a b).mpr ?_
  obtain ⟨ha, hb⟩ : a.length ≤ 1000 ∧ b.length ≤ 1000 := hp
  simp only [pp1, eq_self, and_true, true_and, Int.toNat_natCast]
  have step : ∀ k : Nat, k < a.length → k < b.length → beforeF (a.drop k) (b.drop k) = if a.getD k 0 = b.getD k 0 then beforeF (a.drop (k + 1)) (b.drop (k + 1)) else decide (a.getD k 0 < b.getD k 0) := fun k h1 h2 => by
    rw [drop_getD a 0 k h1, drop_getD b 0 k h2]; rfl
  refine ⟨⟨0, ⟨by omega, by omega, rfl⟩, rfl⟩, fun k ⟨hk1, hk2, hok⟩ => ⟨fun h1 => ⟨fun h2 => ⟨by omega, by omega, fun h3 => ⟨by omega, by omega, ?_⟩, fun h3 => ⟨fits_nat (by omega), k + 1, ⟨by omega, by omega, ?_⟩, by omega, by omega⟩⟩, fun h2 => ?_⟩, fun h1 => ?_⟩⟩
  · rw [← hok, step k (by omega) (by omega), if_neg h3]
  · rw [← hok, step k (by omega) (by omega), if_pos (Classical.not_not.1 h3)]
  · have e : b.drop k = [] := List.drop_eq_nil_of_le (by omega)
    rw [← hok, e, beforeF_nil_right]
    exact decide_eq_false (by omega)
  · have e : a.drop k = [] := List.drop_eq_nil_of_le (by omega)
    rw [← hok, e, beforeF_nil_left, List.length_drop]
    exact decide_eq_decide.2 (by omega)
theorem before_same : (a b : List Int) → (!(beforeF a b) && !(beforeF b a)) = decide (a = b)
  | [], [] => rfl
  | [], _ :: _ => rfl
  | _ :: _, [] => rfl
  | x :: a, y :: b => by
    have ih := before_same a b
    unfold beforeF
    by_cases h : x = y
    · subst h
      simp only [if_true, ih, List.cons.injEq, true_and]
    · have h' : ¬ y = x := fun e => h e.symm
      simp only [if_neg h, if_neg h', List.cons.injEq, h, false_and, decide_false]
      rcases Int.lt_or_gt_of_ne h with h1 | h1
      · simp [h1]
      · simp [h1]
theorem ok28 : p28.OK Tryd.prog := p28.ok (fun _ => cx [p60.ci] []) (fun _ => cx1 (PC.OK.ci ok60)) (fn := Tryd.f28) rfl (by decide +kernel) rfl fun (p : List Int × List Int) hp => by
  obtain ⟨a, b⟩ := p
  refine (g28_eq a b).mpr ?_
  have hp : a.length ≤ 1000 ∧ b.length ≤ 1000 := hp
  have hs := before_same a b
  simp only [pp1, eq_self, and_true, true_and, Int.toNat_natCast]
  refine ⟨hp, fun h => ⟨⟨hp.2, hp.1⟩, ?_⟩, fun h => ?_⟩
  · rw [← hs, h, Bool.true_and]
  · rw [← hs, h, Bool.false_and]

theorem extF_length (es : List Ed) (m : Nat) : (f : Nat) → (out l : List Int) → extF es m f out = some l → l.length = out.length + f
  | 0, out, l, h => by
    simp [extF] at h; subst h; rfl
  | f + 1, out, l, h => by
    unfold extF at h
    obtain ⟨c, _, hc⟩ := List.exists_of_findSome?_eq_some h
    split at hc
    · cases hc
    · have := extF_length es m f _ _ hc
      simp at this
      omega
theorem colF_length {es : List Ed} {m : Int} {l : List Int} (h : colF es m = some l) : l.length = es.length := by
  unfold colF at h
  split at h
  · have := extF_length _ _ _ _ _ h
    simpa using this
  · cases h
theorem edgesF_length (n : Int) (l : List Int) : (edgesF n l).length = l.length := edgesTo_length _ _ _

theorem ok38 : p38.OK Tryd.prog := p38.ok (fun _ => cx [p61.ci, p62.ci, n58.ci] []) (fun _ => cx3 (PC.OK.ci ok61) (PC.OK.ci ok62) ok58.ci) (fn := Tryd.f38) rfl (by decide +kernel) rfl fun (x : Int × Int × Int × List Int) hx => by
  obtain ⟨n, r, m, l⟩ := x
  refine (g38_eq n r m l).mpr ?_
  have hx : l.length ≤ 1000 := hx
  simp only [pp1, eq_self, and_true, true_and, and_self]
  unfold routeF readF
  simp only
  by_cases h1 : ClosP n r m
  · rw [if_pos h1, if_pos h1]
    by_cases h2 : PermP l (n * r)
    · rw [if_pos h2, if_pos h2]
      have hc := clos_fits h1
      have h2' := h2
      obtain ⟨q1, q2, q3⟩ := h2'
      obtain ⟨c1, c2, c3, c4⟩ := h1
      refine ⟨hx, fun h => absurd rfl h, fun _ => ⟨⟨hx, by omega, by omega, fun x hx => ?_⟩, ⟨by rw [edgesF_length]; omega, by omega, by omega⟩, fun h3 => by rw [h3], fun ys h3 => ⟨fun e => ?_, by rw [h3]⟩⟩⟩
      · have := q2 x hx; omega
      · have := colF_length h3
        rw [edgesF_length, e] at this
        simp at this
        omega
    · rw [if_neg h2, if_neg h2]
      exact ⟨hx, fun _ => rfl, fun h => absurd (show ¬ (2 : Int) = 0 by omega) h⟩
  · rw [if_neg h1, if_neg h1]
    exact ⟨hx, fun _ => rfl, fun h => absurd (show ¬ (1 : Int) = 0 by omega) h⟩

theorem degTo_nonneg (es : List Ed) : (k : Nat) → k ≤ es.length → 0 ≤ (degTo es k).2.2 ∧ (degTo es k).2.2 ≤ es.length
  | 0, _ => by simp [degTo]
  | k + 1, h => by
    have ih := degTo_nonneg es k (by omega)
    rw [degTo_succ es k (by omega)]
    have b1 := (degTo_bound es (es.getD k (0, 0)).1 (k + 1) h).1
    have b2 := (degTo_bound es (es.getD k (0, 0)).2 (k + 1) h).2
    rw [degTo_succ es k (by omega)] at b1 b2
    unfold degStep at b1 b2 ⊢
    simp only at b1 b2 ⊢
    omega
theorem degF_bound (es : List Ed) : 0 ≤ degF es ∧ degF es ≤ es.length := degTo_nonneg es es.length (Nat.le_refl _)

theorem take_any {α : Type} (f : α → Bool) (l : List α) (d : α) (k : Nat) (h : k < l.length) : (l.take (k + 1)).any f = ((l.take k).any f || f (l.getD k d)) := by
  rw [take_snoc l d k h, List.any_append]
  simp
theorem any_of_get {α : Type} {f : α → Bool} {l : List α} {k : Nat} (d : α) (hk : k < l.length) (h : f (l.getD k d) = true) : l.any f = true := List.any_eq_true.2 ⟨_, getD_mem l d hk, h⟩

theorem ok26 : p26.OK Tryd.prog := p26.ok C26 (fun _ => cx3 (inl_ok (cx1 (inl_ok (cx1 (inl_ok cx0 rfl (by decide +kernel) rfl)) rfl (by decide +kernel) rfl)) rfl (by decide +kernel) rfl) (PC.OK.ci ok59) ok58.ci) (fn := Tryd.f26) rfl (by decide +kernel) rfl fun (x : Int × Int × List Ed) hx => by
  obtain ⟨a, c, es⟩ := x
  refine (g26_eq a c es).mpr ?_
  have hx : es.length ≤ 1000 := hx
  have hd := degF_bound es
  simp only [pp1, eq_self, and_true, true_and, and_self, Int.toNat_natCast, List.drop_zero]
  unfold colorsF
  refine ⟨fun h => by rw [if_pos (by omega)], fun h => ⟨fun h1 => ?_, fun h1 => ⟨fun h2 => ?_, fun h2 => ⟨⟨0, ⟨by omega, by simp⟩, rfl⟩, fun k ⟨hk, hok⟩ => ⟨fun h3 => ?_, fun h3 => ?_⟩⟩⟩⟩⟩
  · rw [if_neg (by omega), if_pos (.inl h1)]
  · rw [if_neg (by omega), if_pos (.inr (.inl h2))]
  · have hk' : k < es.length := by omega
    have no : ∀ {q : Prop}, ¬ (0 : Int) ≤ (k : Nat) → q := fun h => absurd (Int.natCast_nonneg k) h
    have bad : badEd a c (es.getD k (0, 0)) = true → ([], 1) = (if 12 < es.length then (([] : List Int), (3 : Int)) else if min a c < 1 ∨ 6 < max a c ∨ es.any (badEd a c) = true then ([], 1) else ((colF es (degF es)).getD [], 0)) := fun hb => by
      rw [if_neg (by omega), if_pos (.inr (.inr (any_of_get (0, 0) hk' hb)))]
    refine ⟨by omega, fun h4 => ⟨fun _ => bad (decide_eq_true (.inl h4)), fun h => no h⟩, fun h4 => ⟨fun h5 => ⟨fun _ => bad (decide_eq_true (.inr (.inl h5))), fun h => no h⟩, fun h5 => ⟨fun h6 => ⟨fun _ => bad (decide_eq_true (.inr (.inr h6))), fun h => no h⟩, fun h6 => ⟨fits_nat (by omega), k + 1, ⟨by omega, ?_⟩, by omega, by simp⟩⟩⟩⟩
    rw [take_any _ _ (0, 0) k hk', hok, Bool.false_or]
    exact decide_eq_false (by omega)
  · have : k = es.length := by omega
    subst this
    rw [List.take_length] at hok
    rw [if_neg (by omega), if_neg (by rw [hok]; simp; omega)]
    exact ⟨fun h => absurd h (by omega), fun _ => ⟨hx, ⟨hx, by omega, by omega⟩, fun h => by rw [h]; rfl, fun ys h => by rw [h]; rfl⟩⟩
end Go.SX.Pa
