/- Parts of the proof, one after the other: Pa11Q PaK PaL Pa13 Pa13E PaM Pa13Q Pa14 PaR. -/
import Derived.Test.YtfbgbdiajghnbaaDoorM3
/- Chapter 06, part 11: the law PatchColors: its contract. -/
namespace Go.SX.Pa
open Go Go.Proofs

theorem colors_graph (a c : Int) (es : List Ed) :
    (graphF a c es ≠ 0 → colorsF a c es = ([], graphF a c es)) ∧ (graphF a c es = 0 → colorsF a c es = ((refC es (degR es 6) []).getD [], 0) ∧ es.length ≤ 12) := by
  unfold graphF colorsF
  by_cases h : 12 < es.length
  · rw [if_pos h, if_pos h]
    exact ⟨fun _ => rfl, fun h => absurd h (by decide)⟩
  · rw [if_neg h, if_neg h]
    by_cases h2 : min a c < 1 ∨ 6 < max a c ∨ es.any (badEd a c) = true
    · rw [if_pos h2, if_pos (by
        rcases h2 with h2 | h2 | h2
        · by_cases h3 : 1 ≤ a ∧ a ≤ 6
          · exact .inr (.inl (by omega))
          · exact .inl h3
        · by_cases h3 : 1 ≤ a ∧ a ≤ 6
          · exact .inr (.inl (by omega))
          · exact .inl h3
        · exact .inr (.inr h2))]
      exact ⟨fun _ => rfl, fun h => absurd h (by decide)⟩
    · have h2' : ¬ min a c < 1 ∧ ¬ 6 < max a c ∧ es.any (badEd a c) = false := ⟨fun h => h2 (.inl h), fun h => h2 (.inr (.inl h)), by cases hb : es.any (badEd a c) with | true => exact absurd (.inr (.inr hb)) h2 | false => rfl⟩
      obtain ⟨k1, k2, k3⟩ := h2'
      rw [if_neg h2, if_neg (by rw [k3]; simp; omega)]
      refine ⟨fun h => absurd rfl h, fun _ => ⟨?_, by omega⟩⟩
      rw [colF_refC es fun e he => ?_]
      have := List.any_eq_false.1 k3 e he
      unfold badEd at this
      rw [decide_eq_true_eq] at this
      omega

theorem ok4 : p4.OK Tryd.prog := p4.ok (fun _ => cx [p26.ci, p27.ci, p25.ci, p30.ci, n29.ci, p28.ci] []) (fun _ => cx_ok (cs := [p26.ci, p27.ci, p25.ci, p30.ci, n29.ci, p28.ci]) ⟨PC.OK.ci ok26, PC.OK.ci ok27, PC.OK.ci ok25, PC.OK.ci ok30, ok29.ci, PC.OK.ci ok28, trivial⟩ _) (fn := Tryd.f4) rfl (by decide +kernel) rfl fun (p : Int × Int × List Ed) _ => by
  obtain ⟨a, c, es⟩ := p
  refine (g4_eq a c es).mpr ?_
  simp only [pp1, eq_self, and_true, true_and, and_self, Int.toNat_natCast, List.drop_zero]
  have hq : (es.take (min (es.length : Int) 13).toNat).length ≤ 13 := by rw [List.length_take]; omega
  have hm : (0 : Int) ≤ (0 : Nat) ∧ (0 : Int) ≤ min (es.length : Int) 13 ∧ min (es.length : Int) 13 ≤ es.length := by omega
  generalize es.take (min (es.length : Int) 13).toNat = q at hq ⊢
  obtain ⟨h1, h2⟩ := colors_graph a c q
  have hd : 0 ≤ degR q 6 ∧ degR q 6 ≤ 1000 := ⟨((degR_le q _ 6).1 (Int.le_refl _)).1, (degR_le q 1000 6).2 ⟨by omega, fun v _ => by have := cntA_le q v; have := cntB_le q v; omega⟩⟩
  refine ⟨by omega, by unfold Small; omega, by omega, by omega, fun hg => ?_, fun hg => ?_⟩
  · have hg : graphF a c q ≠ 0 := hg
    rw [h1 hg]
    exact ⟨fun _ => ⟨fun _ => rfl, fun h => absurd rfl h⟩, fun h => absurd rfl h⟩
  · have hg : graphF a c q = 0 := Classical.not_not.1 hg
    obtain ⟨e1, e2⟩ := h2 hg
    rw [e1]
    refine ⟨by omega, ⟨⟨by omega, by omega⟩, by omega, by omega⟩, fun h3 => ?_, fun ys h3 => ?_⟩
    · rw [h3]
      exact ⟨⟨by simp, by omega⟩, fun _ => ⟨fun _ => rfl, fun h => absurd rfl h⟩, fun h => by simp at h⟩
    · rw [h3]
      have hl := refG_length _ _ _ _ _ h3
      simp at hl
      refine ⟨⟨?_, by omega⟩, fun _ => ⟨fun _ => rfl, fun h => absurd rfl h⟩, fun h => by simp at h⟩
      show ys.length ≤ 1000
      omega
end Go.SX.Pa

/- Chapter 06 in plain words, part K: every bipartite multigraph of degree at most d has a colouring of its edges with d numbers (Konig), by Kempe's chains. -/
namespace Go.SX.Pa

/-- A list shorter than d lacks a number below d. -/
theorem lacks (d : Nat) (l : List Nat) (h : l.length < d) : ∃ x, x < d ∧ x ∉ l := by
  refine Classical.byContradiction fun hno => ?_
  have hall : ∀ x ∈ List.range d, x ∈ l := fun x hx => Classical.byContradiction fun hn => hno ⟨x, List.mem_range.1 hx, hn⟩
  have key : ∀ (a b : List Nat), a.Nodup → (∀ x ∈ a, x ∈ b) → a.length ≤ b.length := by
    intro a
    induction a with
    | nil => intro b _ _; simp
    | cons x a ih =>
      intro b hn hs
      have hx := hs x (by simp)
      have h1 := ih (b.erase x) (List.nodup_cons.1 hn).2 (fun y hy => by
        refine (List.mem_erase_of_ne ?_).2 (hs y (by simp [hy]))
        rintro rfl
        exact (List.nodup_cons.1 hn).1 hy)
      rw [List.length_erase_of_mem hx] at h1
      have : 0 < b.length := List.length_pos_of_mem hx
      simp only [List.length_cons]
      omega
  have := key _ _ List.nodup_range hall
  rw [List.length_range] at this
  omega

section
variable (a b : Nat → Int)
/-- The colours c of the first k edges are proper. -/
def PropN (c : Nat → Nat) (k : Nat) : Prop := ∀ i j, i < k → j < k → i ≠ j → c i = c j → a i ≠ a j ∧ b i ≠ b j

variable (c : Nat → Nat) (k α β : Nat) (v : Int)
/-- The chain: (true, y): a second vertex; (false, x): a first one. -/
inductive Chain : Bool → Int → Prop
  | start : Chain true v
  | back (i : Nat) : i < k → c i = α → Chain true (b i) → Chain false (a i)
  | forth (i : Nat) : i < k → c i = β → Chain false (a i) → Chain true (b i)

open Classical in
noncomputable def swapped (i : Nat) : Nat := if c i = α ∧ Chain a b c k α β v true (b i) then β else if c i = β ∧ Chain a b c k α β v false (a i) then α else c i

variable {a b c k α β v}
theorem chain_first (h : PropN a b c k) {i : Nat} (hi : i < k) (hc : c i = α) : Chain a b c k α β v false (a i) ↔ Chain a b c k α β v true (b i) := by
  constructor
  · intro hch
    generalize hx : a i = x at hch
    cases hch with
    | back j hj hcj hb =>
      by_cases e : i = j
      · subst e; exact hb
      · exact absurd hx (h i j hi hj e (hc.trans hcj.symm)).1
  · exact fun hch => .back i hi hc hch
theorem chain_second (h : PropN a b c k) (hv : ∀ j, j < k → c j = β → b j ≠ v) {i : Nat} (hi : i < k) (hc : c i = β) : Chain a b c k α β v true (b i) ↔ Chain a b c k α β v false (a i) := by
  constructor
  · intro hch
    generalize hx : b i = x at hch
    cases hch with
    | start => exact absurd hx (hv i hi hc)
    | forth j hj hcj hb =>
      by_cases e : i = j
      · subst e; exact hb
      · exact absurd hx (h i j hi hj e (hc.trans hcj.symm)).2
  · exact fun hch => .forth i hi hc hch

open Classical in
theorem swap_ne {α β x y : Nat} {Tx Fx Ty Fy S : Prop} (hab : α ≠ β) (hne : x ≠ y) (h1 : x = α → (Tx ↔ S)) (h2 : x = β → (Fx ↔ S)) (h3 : y = α → (Ty ↔ S)) (h4 : y = β → (Fy ↔ S)) :
    (if x = α ∧ Tx then β else if x = β ∧ Fx then α else x) ≠ (if y = α ∧ Ty then β else if y = β ∧ Fy then α else y) := by
  have e1 : (x = α ∧ Tx) = (x = α ∧ S) := propext (and_congr_right h1)
  have e2 : (x = β ∧ Fx) = (x = β ∧ S) := propext (and_congr_right h2)
  have e3 : (y = α ∧ Ty) = (y = α ∧ S) := propext (and_congr_right h3)
  have e4 : (y = β ∧ Fy) = (y = β ∧ S) := propext (and_congr_right h4)
  simp only [e1, e2, e3, e4]
  by_cases hS : S
  · simp only [hS, and_true]
    split <;> split <;> (try split) <;> (try split) <;> omega
  · simp only [hS, and_false, if_false]
    exact hne
theorem swapped_proper (h : PropN a b c k) (hab : α ≠ β) (hv : ∀ j, j < k → c j = β → b j ≠ v) : PropN a b (swapped a b c k α β v) k := by
  -- the swap looks at one vertex only
  have key : ∀ i, i < k → ∀ j, j < k → i ≠ j → (a i = a j ∨ b i = b j) → swapped a b c k α β v i ≠ swapped a b c k α β v j := by
    intro i hi j hj hij hs
    have hne : c i ≠ c j := fun e => by
      have := h i j hi hj hij e
      rcases hs with h1 | h1
      · exact this.1 h1
      · exact this.2 h1
    have f1 := fun (hc : c i = α) => chain_first (α := α) (β := β) (v := v) h hi hc
    have f2 := fun (hc : c j = α) => chain_first (α := α) (β := β) (v := v) h hj hc
    have s1 := fun (hc : c i = β) => chain_second (α := α) h hv hi hc
    have s2 := fun (hc : c j = β) => chain_second (α := α) h hv hj hc
    unfold swapped
    rcases hs with h1 | h1
    · refine swap_ne (S := Chain a b c k α β v false (a i)) hab hne (fun e => (f1 e).symm) (fun e => Iff.rfl) (fun e => ?_) (fun e => ?_)
      · rw [h1]; exact (f2 e).symm
      · rw [h1]
    · refine swap_ne (S := Chain a b c k α β v true (b i)) hab hne (fun e => Iff.rfl) (fun e => (s1 e).symm) (fun e => ?_) (fun e => ?_)
      · rw [h1]
      · rw [h1]; exact (s2 e).symm
  intro i j hi hj hij hc
  exact ⟨fun e => key i hi j hj hij (.inl e) hc, fun e => key i hi j hj hij (.inr e) hc⟩

theorem swapped_lt {d : Nat} (hα : α < d) (hβ : β < d) {i : Nat} (h : c i < d) : swapped a b c k α β v i < d := by
  unfold swapped
  split
  · exact hβ
  · split
    · exact hα
    · exact h
end

/-- The degree in the first k edges. -/
def cntN (a : Nat → Int) (v : Int) (k : Nat) : Nat := (List.range k).countP fun i => decide (a i = v)
theorem cntN_succ (a : Nat → Int) (v : Int) (k : Nat) : cntN a v (k + 1) = cntN a v k + if a k = v then 1 else 0 := by
  unfold cntN
  rw [List.range_succ, List.countP_append]
  by_cases h : a k = v <;> simp [h]
theorem free_at (a : Nat → Int) (c : Nat → Nat) (v : Int) (k d : Nat) (h : cntN a v k < d) : ∃ x, x < d ∧ ∀ i, i < k → a i = v → c i ≠ x := by
  obtain ⟨x, h1, h2⟩ := lacks d (((List.range k).filter fun i => decide (a i = v)).map c) (by rw [List.length_map, ← List.countP_eq_length_filter]; exact h)
  refine ⟨x, h1, fun i hi hv he => h2 ?_⟩
  rw [List.mem_map]
  exact ⟨i, List.mem_filter.2 ⟨List.mem_range.2 hi, by simpa using hv⟩, he⟩

theorem konig (a b : Nat → Int) (d : Nat) : (n : Nat) → (∀ v, cntN a v n ≤ d) → (∀ v, cntN b v n ≤ d) → ∃ c : Nat → Nat, (∀ i, i < n → c i < d) ∧ PropN a b c n
  | 0, _, _ => ⟨fun _ => 0, fun i h => absurd h (Nat.not_lt_zero _), fun i _ h => absurd h (Nat.not_lt_zero _)⟩
  | n + 1, ha, hb => by
    have la : ∀ v, cntN a v n ≤ d := fun v => by have := ha v; rw [cntN_succ] at this; omega
    have lb : ∀ v, cntN b v n ≤ d := fun v => by have := hb v; rw [cntN_succ] at this; omega
    obtain ⟨c, hc, hp⟩ := konig a b d n la lb
    have ua : cntN a (a n) n < d := by have := ha (a n); rw [cntN_succ, if_pos rfl] at this; omega
    have ub : cntN b (b n) n < d := by have := hb (b n); rw [cntN_succ, if_pos rfl] at this; omega
    obtain ⟨α, hα, fα⟩ := free_at a c (a n) n d ua
    obtain ⟨β, hβ, fβ⟩ := free_at b c (b n) n d ub
    -- it suffices to colour the first n edges so that some colour is free at both ends
    have fin : ∀ (c' : Nat → Nat) (x : Nat), x < d → (∀ i, i < n → c' i < d) → PropN a b c' n → (∀ i, i < n → a i = a n → c' i ≠ x) → (∀ i, i < n → b i = b n → c' i ≠ x) →
        ∃ c : Nat → Nat, (∀ i, i < n + 1 → c i < d) ∧ PropN a b c (n + 1) := by
      intro c' x hx h1 h2 h3 h4
      refine ⟨fun i => if i = n then x else c' i, fun i hi => ?_, fun i j hi hj hij he => ?_⟩
      · simp only
        split
        · exact hx
        · exact h1 i (by omega)
      · simp only at he
        by_cases e1 : i = n
        · have e2 : j ≠ n := fun e => hij (e1.trans e.symm)
          rw [if_pos e1, if_neg e2] at he
          subst e1
          exact ⟨fun e => h3 j (by omega) e.symm he.symm, fun e => h4 j (by omega) e.symm he.symm⟩
        · rw [if_neg e1] at he
          by_cases e2 : j = n
          · rw [if_pos e2] at he
            subst e2
            exact ⟨fun e => h3 i (by omega) e he, fun e => h4 i (by omega) e he⟩
          · rw [if_neg e2] at he
            exact h2 i j (by omega) (by omega) hij he
    by_cases hab : α = β
    · subst hab
      exact fin c α hα hc hp (fun i hi e => fα i hi e) (fun i hi e => fβ i hi e)
    · have hv : ∀ j, j < n → c j = β → b j ≠ b n := fun j hj hcj e => fβ j hj e hcj
      refine fin (swapped a b c n α β (b n)) α hα (fun i hi => swapped_lt hα hβ (hc i hi)) (swapped_proper hp hab hv) (fun i hi e => ?_) (fun i hi e => ?_)
      · -- the first end is not on the chain
        have hno : ¬ Chain a b c n α β (b n) false (a n) := by
          intro hch
          generalize hx : a n = x at hch
          cases hch with
          | back j hj hcj _ => exact fα j hj hx.symm hcj
        unfold swapped
        have hci := fα i hi e
        rw [if_neg (fun h => hci h.1), e, if_neg (fun h => hno h.2)]
        exact hci
      · -- the second end begins the chain
        have hyes : Chain a b c n α β (b n) true (b i) := by rw [e]; exact .start
        unfold swapped
        by_cases h1 : c i = α
        · rw [if_pos ⟨h1, hyes⟩]; exact Ne.symm hab
        · rw [if_neg (fun h => h1 h.1), if_neg (fun h => hv i hi h.1 e)]
          exact h1
end Go.SX.Pa

/- Chapter 06 in plain words, part L: the search finds a colouring if there is one; with as many numbers as the degree says there is one. -/
namespace Go.SX.Pa

/-- A proper colouring with the numbers below m. -/
def GoodC (es : List Ed) (m : Int) (l : List Int) : Prop := l.length = es.length ∧ (∀ x ∈ l, 0 ≤ x ∧ x < m) ∧ ∀ i, i < l.length → clashF es l i = false

theorem clash_iff {es : List Ed} {l : List Int} {i : Nat} : clashF es l i = false ↔ ∀ j, j < i → touch es l i j = false := by
  unfold clashF
  rw [List.any_eq_false]
  constructor
  · intro h j hj
    have := h j (List.mem_range.2 hj)
    simpa using this
  · intro h j hj
    rw [h j (List.mem_range.1 hj)]
    decide
theorem touch_pre (es : List Ed) {l l' : List Int} {i j n : Nat} (h : ∀ k, k < n → l.getD k 0 = l'.getD k 0) (hi : i < n) (hj : j < n) : touch es l i j = touch es l' i j := by
  unfold touch; rw [h i hi, h j hj]
theorem clash_pre (es : List Ed) {l l' : List Int} {i n : Nat} (h : ∀ k, k < n → l.getD k 0 = l'.getD k 0) (hi : i < n) : clashF es l i = clashF es l' i := by
  apply Bool.eq_iff_iff.2
  unfold clashF
  rw [List.any_eq_true, List.any_eq_true]
  constructor
  · rintro ⟨j, hj, hc⟩; exact ⟨j, hj, by rw [← touch_pre es h hi (by have := List.mem_range.1 hj; omega)]; exact hc⟩
  · rintro ⟨j, hj, hc⟩; exact ⟨j, hj, by rw [touch_pre es h hi (by have := List.mem_range.1 hj; omega)]; exact hc⟩

/-- What the search returns. -/
theorem extF_good (es : List Ed) (m : Nat) : (f : Nat) → (out l : List Int) → extF es m f out = some l → (∀ x ∈ out, 0 ≤ x ∧ x < (m : Int)) → (∀ i, i < out.length → clashF es out i = false) →
    (∀ x ∈ l, 0 ≤ x ∧ x < (m : Int)) ∧ ∀ i, i < l.length → clashF es l i = false
  | 0, out, l, h, h1, h2 => by
    simp [extF] at h; subst h; exact ⟨h1, h2⟩
  | f + 1, out, l, h, h1, h2 => by
    unfold extF at h
    obtain ⟨c, hc1, hc⟩ := List.exists_of_findSome?_eq_some h
    split at hc
    · cases hc
    · rename_i hcl
      have hcm := List.mem_range.1 hc1
      refine extF_good es m f _ _ hc (fun x hx => ?_) (fun i hi => ?_)
      · rcases List.mem_append.1 hx with h3 | h3
        · exact h1 x h3
        · simp at h3; omega
      · simp at hi
        by_cases e : i = out.length
        · subst e; simpa using hcl
        · rw [← clash_pre es (l := out) (n := out.length) (fun k hk => by simp [List.getD, List.getElem?_append_left hk]) (by omega)]
          exact h2 i (by omega)

/-- The search does not miss a colouring. -/
theorem extF_some (es : List Ed) (m : Nat) (l : List Int) (hm : ∀ x ∈ l, 0 ≤ x ∧ x < (m : Int)) (hc : ∀ i, i < l.length → clashF es l i = false) : (f k : Nat) → k + f = l.length → extF es m f (l.take k) ≠ none
  | 0, k, _, h => by simp [extF] at h
  | f + 1, k, hk, h => by
    unfold extF at h
    have hkl : k < l.length := by omega
    have hlen : (l.take k).length = k := by simp; omega
    have hx := hm _ (getD_mem l 0 hkl)
    obtain ⟨c, hcx⟩ : ∃ c : Nat, l.getD k 0 = (c : Int) := ⟨(l.getD k 0).toNat, by omega⟩
    have hsn : l.take k ++ [(c : Int)] = l.take (k + 1) := by rw [take_snoc l 0 k hkl, hcx]
    have h1 := List.findSome?_eq_none_iff.1 h c (List.mem_range.2 (by omega))
    rw [hsn, hlen] at h1
    have hcl : clashF es (l.take (k + 1)) k = false := by
      rw [clash_pre es (l' := l) (n := k + 1) (fun j hj => getD_take l 0 hj) (by omega)]
      exact hc k hkl
    rw [hcl] at h1
    exact extF_some es m l hm hc f (k + 1) (by omega) (by simpa using h1)

/-! ### The greatest degree -/
theorem countP_range {α : Type} (l : List α) (d : α) (p : α → Bool) (k : Nat) (h : k ≤ l.length) : (List.range k).countP (fun i => p (l.getD i d)) = (l.take k).countP p := by
  induction k with
  | zero => simp
  | succ k ih =>
    rw [List.range_succ, take_snoc l d k (by omega), List.countP_append, List.countP_append, ih (by omega)]
    simp [List.countP_cons]
def endA (es : List Ed) (i : Nat) : Int := (es.getD i (0, 0)).1
def endB (es : List Ed) (i : Nat) : Int := (es.getD i (0, 0)).2
theorem cntN_endA (es : List Ed) (v : Int) {k : Nat} (h : k ≤ es.length) : cntN (endA es) v k = (es.take k).countP fun e => decide (e.1 = v) := countP_range es (0, 0) (fun e => decide (e.1 = v)) k h
theorem cntN_endB (es : List Ed) (v : Int) {k : Nat} (h : k ≤ es.length) : cntN (endB es) v k = (es.take k).countP fun e => decide (e.2 = v) := countP_range es (0, 0) (fun e => decide (e.2 = v)) k h
theorem degTo_cnt (es : List Ed) {k : Nat} (h : k < es.length) : (degTo es (k + 1)).2.2 = max (max (degTo es k).2.2 (cntN (endA es) (endA es k) (k + 1))) (cntN (endB es) (endB es k) (k + 1)) := by
  have la := (degTo_look es (endA es k) (k + 1) h).1
  have lb := (degTo_look es (endB es k) (k + 1) h).2
  rw [cntN_endA es _ h, cntN_endB es _ h, ← la, ← lb, degTo_succ es k h]
  rfl
/-- It is at least each degree, and one of them. -/
theorem degTo_ge (es : List Ed) : (k : Nat) → k ≤ es.length → ∀ v, (cntN (endA es) v k : Int) ≤ (degTo es k).2.2 ∧ (cntN (endB es) v k : Int) ≤ (degTo es k).2.2
  | 0, _, v => by simp [cntN, degTo]
  | k + 1, h, v => by
    obtain ⟨h1, h2⟩ := degTo_ge es k (by omega) v
    rw [degTo_cnt es (by omega)]
    refine ⟨?_, ?_⟩
    · by_cases e : endA es k = v
      · subst e; omega
      · rw [cntN_succ, if_neg e]; omega
    · by_cases e : endB es k = v
      · subst e; omega
      · rw [cntN_succ, if_neg e]; omega
theorem degTo_at (es : List Ed) : (k : Nat) → k ≤ es.length → (degTo es k).2.2 = 0 ∨ (∃ v j, j ≤ k ∧ (cntN (endA es) v j : Int) = (degTo es k).2.2) ∨ ∃ v j, j ≤ k ∧ (cntN (endB es) v j : Int) = (degTo es k).2.2
  | 0, _ => .inl rfl
  | k + 1, h => by
    have ih := degTo_at es k (by omega)
    rw [degTo_cnt es (by omega)]
    by_cases h1 : (cntN (endB es) (endB es k) (k + 1) : Int) ≤ (degTo es k).2.2 ∧ (cntN (endA es) (endA es k) (k + 1) : Int) ≤ (degTo es k).2.2
    · have e : max (max (degTo es k).2.2 (cntN (endA es) (endA es k) (k + 1))) (cntN (endB es) (endB es k) (k + 1)) = (degTo es k).2.2 := by omega
      rw [e]
      rcases ih with h2 | ⟨v, j, hj, h2⟩ | ⟨v, j, hj, h2⟩
      · exact .inl h2
      · exact .inr (.inl ⟨v, j, by omega, h2⟩)
      · exact .inr (.inr ⟨v, j, by omega, h2⟩)
    · by_cases h2 : (cntN (endB es) (endB es k) (k + 1) : Int) ≤ cntN (endA es) (endA es k) (k + 1)
      · exact .inr (.inl ⟨endA es k, k + 1, Nat.le_refl _, by omega⟩)
      · exact .inr (.inr ⟨endB es k, k + 1, Nat.le_refl _, by omega⟩)

/-! ### With as many numbers as the degree there is a colouring -/
theorem colF_some {es : List Ed} {m : Int} (h : degF es ≤ m) : ∃ l, colF es m = some l := by
  have h0 := degF_bound es
  have hg := degTo_ge es es.length (Nat.le_refl _)
  have hd : (degTo es es.length).2.2 = degF es := rfl
  rw [hd] at hg
  obtain ⟨c, hc, hp⟩ := konig (endA es) (endB es) m.toNat es.length (fun v => by have := (hg v).1; omega) (fun v => by have := (hg v).2; omega)
  let l : List Int := (List.range es.length).map fun i => (c i : Int)
  have hl : l.length = es.length := by simp [l]
  have hget : ∀ i, i < es.length → l.getD i 0 = (c i : Int) := fun i hi => by simp [l, List.getD, hi]
  have h1 : ∀ x ∈ l, 0 ≤ x ∧ x < (m.toNat : Int) := fun x hx => by
    obtain ⟨i, hi, rfl⟩ := List.mem_map.1 hx
    have := hc i (List.mem_range.1 hi)
    omega
  have h2 : ∀ i, i < l.length → clashF es l i = false := fun i hi => clash_iff.2 fun j hj => by
    unfold touch
    rw [hget i (by omega), hget j (by omega), decide_eq_false_iff_not]
    rintro ⟨h3, h4⟩
    have := hp j i (by omega) (by omega) (by omega) (by omega)
    unfold endA endB at this
    rcases h4 with h4 | h4
    · exact this.1 h4
    · exact this.2 h4
  have h3 := extF_some es m.toNat l h1 h2 es.length 0 (by omega)
  unfold colF
  rw [if_pos h]
  unfold extR
  rw [List.take_zero] at h3
  cases he : extF es m.toNat (es.length - ([] : List Int).length) [] with
  | none => exact absurd he h3
  | some l => exact ⟨l, rfl⟩

/-- What is found is one. -/
theorem colF_good {es : List Ed} {m : Int} {l : List Int} (hm : 0 ≤ m) (h : colF es m = some l) : GoodC es m l := by
  have hl := colF_length h
  unfold colF at h
  split at h
  · obtain ⟨h1, h2⟩ := extF_good es m.toNat _ [] l h (fun x hx => by cases hx) (fun i hi => by simp at hi)
    exact ⟨hl, fun x hx => by have := h1 x hx; omega, h2⟩
  · cases h

/-! ### As many numbers are used as the degree says -/
def seenF (l : List Int) : List Int := l.foldl (fun s x => if x ∈ s then s else s ++ [x]) []
theorem seenF_succ (l : List Int) (k : Nat) (h : k < l.length) : seenF (l.take (k + 1)) = if l.getD k 0 ∈ seenF (l.take k) then seenF (l.take k) else seenF (l.take k) ++ [l.getD k 0] := by
  unfold seenF; rw [take_snoc l 0 k h, List.foldl_append]; rfl
theorem seen_take (l : List Int) : (k : Nat) → k ≤ l.length → (∀ x, x ∈ seenF (l.take k) ↔ x ∈ l.take k) ∧ (seenF (l.take k)).Nodup
  | 0, _ => by simp [seenF]
  | k + 1, h => by
    obtain ⟨h1, h2⟩ := seen_take l k (by omega)
    rw [seenF_succ l k (by omega)]
    split
    · rename_i h3
      refine ⟨fun x => ?_, h2⟩
      rw [h1, take_mem l 0 x k (by omega)]
      constructor
      · exact .inl
      · rintro (h4 | h4)
        · exact h4
        · rw [h4]; exact (h1 _).1 h3
    · rename_i h3
      refine ⟨fun x => ?_, nodup_snoc h2 h3⟩
      rw [List.mem_append, List.mem_singleton, h1, take_mem l 0 x k (by omega)]
theorem mem_seen (l : List Int) (x : Int) : x ∈ seenF l ↔ x ∈ l := by
  have := (seen_take l l.length (Nat.le_refl _)).1 x
  rwa [List.take_length] at this
theorem seen_nodup (l : List Int) : (seenF l).Nodup := by
  have := (seen_take l l.length (Nat.le_refl _)).2
  rwa [List.take_length] at this
theorem seenF_length (l : List Int) : (seenF l).length ≤ l.length := List.Nodup.length_le_of_subset (seen_nodup l) fun x hx => (mem_seen l x).1 hx
/-- The edges at a vertex have numbers of their own. -/
theorem seen_at {es : List Ed} {l : List Int} (hl : l.length = es.length) (h : ∀ i, i < l.length → clashF es l i = false) (a : Nat → Int) (ha : a = endA es ∨ a = endB es) (v : Int) {k : Nat} (hk : k ≤ es.length) : cntN a v k ≤ (seenF l).length := by
  have key : ∀ i j, i < k → j < k → i ≠ j → a i = v → a j = v → l.getD i 0 ≠ l.getD j 0 := by
    have half : ∀ i j, i < k → j < i → a i = v → a j = v → l.getD i 0 ≠ l.getD j 0 := by
      intro i j hi hj h1 h2 he
      have := clash_iff.1 (h i (by omega)) j hj
      unfold touch at this
      rw [decide_eq_false_iff_not] at this
      refine this ⟨he.symm, ?_⟩
      rcases ha with e | e <;> subst e
      · exact .inl (h2.trans h1.symm)
      · exact .inr (h2.trans h1.symm)
    intro i j hi hj hij h1 h2 he
    rcases Nat.lt_or_gt_of_ne hij with h3 | h3
    · exact half j i hj h3 h2 h1 he.symm
    · exact half i j hi h3 h1 h2 he
  have hn : (((List.range k).filter fun i => decide (a i = v)).map fun i => l.getD i 0).Nodup := by
    refine List.pairwise_map.2 (List.Pairwise.imp_of_mem ?_ (List.nodup_range.filter _))
    intro i j hi hj hij
    obtain ⟨i1, i2⟩ := List.mem_filter.1 hi
    obtain ⟨j1, j2⟩ := List.mem_filter.1 hj
    exact key i j (List.mem_range.1 i1) (List.mem_range.1 j1) hij (by simpa using i2) (by simpa using j2)
  have := List.Nodup.length_le_of_subset hn (l₂ := seenF l) fun x hx => by
    obtain ⟨i, hi, rfl⟩ := List.mem_map.1 hx
    rw [mem_seen]
    have := List.mem_range.1 (List.mem_filter.1 hi).1
    exact getD_mem l 0 (by omega)
  rw [List.length_map, ← List.countP_eq_length_filter] at this
  exact this
theorem seen_deg {es : List Ed} {l : List Int} (h : colF es (degF es) = some l) : ((seenF l).length : Int) = degF es := by
  have h0 := degF_bound es
  obtain ⟨h1, h2, h3⟩ := colF_good h0.1 h
  have hle : (seenF l).length ≤ (degF es).toNat := by
    have hn := seen_nodup l
    have := List.Nodup.length_le_of_subset hn (l₂ := (List.range (degF es).toNat).map fun i : Nat => (i : Int)) fun x hx => by
      have := h2 x ((mem_seen l x).1 hx)
      exact List.mem_map.2 ⟨x.toNat, List.mem_range.2 (by omega), by omega⟩
    simpa using this
  rcases degTo_at es es.length (Nat.le_refl _) with h4 | ⟨v, j, hj, h4⟩ | ⟨v, j, hj, h4⟩
  · have h5 : degF es = 0 := h4
    omega
  · have h5 := seen_at h1 h3 (endA es) (.inl rfl) v hj
    have h6 : (cntN (endA es) v j : Int) = degF es := h4
    omega
  · have h5 := seen_at h1 h3 (endB es) (.inr rfl) v hj
    have h6 : (cntN (endB es) v j : Int) = degF es := h4
    omega
end Go.SX.Pa

/- Chapter 06, part 13: the laws' makers of inputs; the laws PatchCount, PatchKonig, PatchEdges. -/
namespace Go.SX.Pa
open Go Go.Proofs
noncomputable section
@[reducible] def p33 : PC := ⟨33, [aB2s], [aEds], fun x => x.length ≤ maxLen ∧ ∀ p ∈ x, Byte2 p, graphX⟩
@[reducible] def A33 (x : List Ed) : Ann where
  τ := Nat
  pre := []
  preC := []
  keep := [0]
  slots k := [(4, .c (.int .i64 k)), (3, .c (.own 0 1))]
  ents k := [(0, .row 58 tEd 0 (graphTo x k))]
  ok k := k ≤ x.length ∧ k ≤ 12
  m k := 12 - k
@[reducible] def C33 (x : List Ed) : Ctx := cx [] [(0, fun _ => A33 x)]
def g33 (x : List Ed) : Prop := p33.VC (C33 x) Tryd.f33 x
@[reducible] def p36 : PC := ⟨36, [aIs, aI, aI], [aB], fun p => p.1.length ≤ 1000 ∧ -1000 ≤ p.2.2 ∧ p.2.2 ≤ 1000, fun p => decide ((∀ x ∈ p.1, 0 ≤ x ∧ x < p.2.2) ∧ (p.1.length : Int) = p.2.1)⟩
@[reducible] def C36 (p : List Int × Int × Int) : Ctx := cx [p21.ci] [(0, fun _ => upTo p.1.length 7 [0, 1, 2] fun k => ∀ x ∈ p.1.take k, 0 ≤ x ∧ x < p.2.2)]
def g36 (l : List Int) (n r : Int) : Prop := p36.VC (C36 (l, n, r)) Tryd.f36 (l, n, r)
@[reducible] def p37 : PC := ⟨37, [aB3], [aI, aI, aI], Byte3, netF⟩
def g37 (x : Int × Int × Int) : Prop := p37.VC (cx [] []) Tryd.f37 x

@[reducible] def p6 : PC := ⟨6, [aB2s], [aB], fun x => x.length ≤ maxLen ∧ ∀ p ∈ x, Byte2 p, fun _ => true⟩
@[reducible] def A6 (c : List Int) : Ann where
  τ := Nat
  pre := []
  preC := []
  keep := [3, 4, 5]
  slots k := [(7, .c (.int .i64 k)), (6, .c (.own 0 1))]
  ents k := [(0, .row 3 (.int .i64) 0 (seenF (c.take k)))]
  ok k := k ≤ c.length
  m k := c.length - k
@[reducible] def C6 (x : List Ed) : Ctx := cx [p33.ci, p26.ci, p34.ci, p35.ci, p30.ci, p36.ci, p25.ci] [(0, fun _ => A6 (colorsF 6 6 (graphX x)).1)]
def g6 (x : List Ed) : Prop := p6.VC (C6 x) Tryd.f6 x

@[reducible] def p7 : PC := ⟨7, [aB3, aBs], [aB], fun p => Byte3 p.1 ∧ Bytes p.2, fun _ => true⟩
@[reducible] def A7 (n r : Int) (perm : List Int) : Ann where
  τ := Nat
  pre := []
  preC := []
  keep := [5, 6, 8]
  slots k := [(10, .c (.int .i64 k)), (9, .c (.own 1 1))]
  ents k := [(1, .row 58 tEd 0 (edgesTo n perm k))]
  ok k := k ≤ n * r
  m k := (n * r).toNat - k
@[reducible] def C7 (p : (Int × Int × Int) × List Int) : Ctx := cx [p37.ci, p25.ci, p31.ci, p38.ci, p26.ci, p28.ci, p35.ci] [(0, fun _ => A7 (netF p.1).1 (netF p.1).2.1 (nthTo p.2 ((netF p.1).1 * (netF p.1).2.1).toNat))]
def g7 (x : Int × Int × Int) (code : List Int) : Prop := p7.VC (C7 (x, code)) Tryd.f7 (x, code)

@[reducible] def p5 : PC := ⟨5, [aU], [aB], fun x => 0 ≤ x ∧ x ≤ 255, fun _ => true⟩
def kOf (x : Int) : Nat := (x % 2 + 1).toNat
@[reducible] def A5a (K : Nat) : Ann where
  τ := Nat
  pre := []
  preC := []
  keep := [4]
  slots i := [(3, .c (.int .i64 K)), (6, .c (.int .i64 i)), (5, .c (.int .i64 (facN (i - 1))))]
  ents _ := []
  ok i := 2 ≤ i ∧ i ≤ 2 ^ K + 1
  m i := 2 ^ K + 1 - i
@[reducible] def A5b (K : Nat) : Ann where
  τ := Nat
  pre := []
  preC := []
  keep := [3]
  slots p := [(7, .c (.int .i64 p)), (4, .c (.int .i64 (sumTo K p))), (5, .c (.int .i64 (facN (2 ^ K))))]
  ents _ := []
  ok p := p ≤ facN (2 ^ K)
  m p := facN (2 ^ K) - p
@[reducible] def A5c (K : Nat) (p : Nat) : Ann where
  τ := Nat
  pre := []
  preC := []
  keep := [3, 4, 5, 7]
  slots i := [(10, .c (.int .i64 i)), (9, .c (.int .i64 (codeTo p i).2)), (8, .c (.own 0 1))]
  ents i := [(0, .row 5 (.int .u8) 0 (codeTo p i).1)]
  ok i := i ≤ 2 ^ K
  m i := 2 ^ K - i
@[reducible] def C5 (x : Int) : Ctx := cx [p31.ci, p18.ci, p19.ci, p32.ci, p25.ci] [(0, fun _ => A5a (kOf x)), (1, fun _ => A5b (kOf x)), (2, withI 7 fun p => A5c (kOf x) p.toNat)]
def g5 (x : Int) : Prop := p5.VC (C5 x) Tryd.f5 x
end
end Go.SX.Pa

/- Printed by VC.lean: what the executor asks. -/
namespace Go.SX.Pa
open Go Go.Proofs
theorem g33_eq (x : List Ed) : g33 x = (
 (∃ (x0 : Nat), (x0 ≤ x.length ∧ x0 ≤ (12 : Nat)) ∧ ([] = graphTo x x0 ∧ True) ∧ (0 : Int) = (↑x0 : Int) ∧ True ∧ x = x ∧ True) ∧
 ∀ (x_1 : Nat),
 x_1 ≤ x.length ∧ x_1 ≤ (12 : Nat) →
 ((↑x_1 : Int) < (↑x.length : Int) →
 (↑x_1 : Int) < (↑x.length : Int) ∧
 (↑x_1 : Int) < (↑x.length : Int) ∧
 ((↑x_1 : Int) < (12 : Int) →
 (↑x_1 : Int) < (12 : Int) ∧
 (↑x_1 : Int) < (12 : Int) ∧
 ((0 : Int) ≤ (↑x_1 : Int) ∧ (↑x_1 : Int) < (↑x.length : Int)) ∧
 Fits IntKind.i64 (x.getD (↑x_1 : Int).toNat ((0 : Int), (0 : Int))).fst ∧
 ((0 : Int) ≤ (x.getD (↑x_1 : Int).toNat ((0 : Int), (0 : Int))).fst ∧ (0 : Int) < (6 : Int)) ∧
 ((0 : Int) ≤ (↑x_1 : Int) ∧ (↑x_1 : Int) < (↑x.length : Int)) ∧
 Fits IntKind.i64 (x.getD (↑x_1 : Int).toNat ((0 : Int), (0 : Int))).snd ∧
 ((0 : Int) ≤ (x.getD (↑x_1 : Int).toNat ((0 : Int), (0 : Int))).snd ∧ (0 : Int) < (6 : Int)) ∧
 Small ((graphTo x x_1).length + ((0 : Nat) + (1 : Nat))) ∧
 Fits IntKind.i64 ((↑x_1 : Int) + (1 : Int)) ∧
 ∃ (x' : Nat),
 (x' ≤ x.length ∧ x' ≤ (12 : Nat)) ∧
 (12 : Nat) - x' < (12 : Nat) - x_1 ∧
 (graphTo x x_1 ++
 [((x.getD (↑x_1 : Int).toNat ((0 : Int), (0 : Int))).fst % (6 : Int),
 (x.getD (↑x_1 : Int).toNat ((0 : Int), (0 : Int))).snd % (6 : Int))] =
 graphTo x x' ∧
 True) ∧
 (↑x_1 : Int) + (1 : Int) = (↑x' : Int) ∧ True ∧ x = x ∧ True) ∧
 (¬(↑x_1 : Int) < (12 : Int) → ¬(↑x_1 : Int) < (12 : Int) ∧ ¬(↑x_1 : Int) < (12 : Int) ∧ graphTo x x_1 = graphX x)) ∧
 (¬(↑x_1 : Int) < (↑x.length : Int) → ¬(↑x_1 : Int) < (↑x.length : Int) ∧ ¬(↑x_1 : Int) < (↑x.length : Int) ∧ graphTo x x_1 = graphX x)) := by
 kernel_rfl

theorem g36_eq (l : List Int) (n : Int) (r : Int) : g36 l n r = (
 (∃ (x0 : Nat), (x0 ≤ l.length ∧ ∀ (x : Int), x ∈ List.take x0 l → (0 : Int) ≤ x ∧ x < r) ∧ True ∧ (0 : Int) = (↑x0 : Int) ∧ l = l ∧ n = n ∧ r = r ∧ True) ∧
 ∀ (x : Nat),
 (x ≤ l.length ∧ ∀ (x_1 : Int), x_1 ∈ List.take x l → (0 : Int) ≤ x_1 ∧ x_1 < r) →
 ((↑x : Int) < (↑l.length : Int) →
 (↑x : Int) < (↑l.length : Int) ∧
 ((0 : Int) ≤ (↑x : Int) ∧ (↑x : Int) < (↑l.length : Int)) ∧
 Fits IntKind.i64 (r - (1 : Int)) ∧
 True ∧
 ((!decide ((0 : Int) ≤ l.getD (↑x : Int).toNat (0 : Int) ∧ l.getD (↑x : Int).toNat (0 : Int) ≤ r - (1 : Int))) = true →
 (!decide ((0 : Int) ≤ l.getD (↑x : Int).toNat (0 : Int) ∧ l.getD (↑x : Int).toNat (0 : Int) ≤ r - (1 : Int))) = true ∧
 false = decide ((∀ (x : Int), x ∈ l → (0 : Int) ≤ x ∧ x < r) ∧ (↑l.length : Int) = n)) ∧
 ((!decide ((0 : Int) ≤ l.getD (↑x : Int).toNat (0 : Int) ∧ l.getD (↑x : Int).toNat (0 : Int) ≤ r - (1 : Int))) = false →
 (!decide ((0 : Int) ≤ l.getD (↑x : Int).toNat (0 : Int) ∧ l.getD (↑x : Int).toNat (0 : Int) ≤ r - (1 : Int))) = false ∧
 Fits IntKind.i64 ((↑x : Int) + (1 : Int)) ∧
 ∃ (x' : Nat),
 (x' ≤ l.length ∧ ∀ (x : Int), x ∈ List.take x' l → (0 : Int) ≤ x ∧ x < r) ∧
 l.length - x' < l.length - x ∧ True ∧ (↑x : Int) + (1 : Int) = (↑x' : Int) ∧ l = l ∧ n = n ∧ r = r ∧ True)) ∧
 (¬(↑x : Int) < (↑l.length : Int) →
 ¬(↑x : Int) < (↑l.length : Int) ∧ decide ((↑l.length : Int) = n) = decide ((∀ (x : Int), x ∈ l → (0 : Int) ≤ x ∧ x < r) ∧ (↑l.length : Int) = n))) := by
 kernel_rfl

theorem g37_eq (x : Int × Int × Int) : g37 x = (
 Fits IntKind.i64 x.fst ∧
 ((0 : Int) ≤ x.fst ∧ (0 : Int) < (12 : Int)) ∧
 Fits IntKind.i64 (x.fst % (12 : Int) + (1 : Int)) ∧
 Fits IntKind.i64 x.snd.fst ∧
 ((0 : Int) ≤ (12 : Int) ∧ (0 : Int) < x.fst % (12 : Int) + (1 : Int)) ∧
 Fits IntKind.i64 ((12 : Int) / (x.fst % (12 : Int) + (1 : Int))) ∧
 ((0 : Int) ≤ x.snd.fst ∧ (0 : Int) < (12 : Int) / (x.fst % (12 : Int) + (1 : Int))) ∧
 Fits IntKind.i64 (x.snd.fst % ((12 : Int) / (x.fst % (12 : Int) + (1 : Int))) + (1 : Int)) ∧
 Fits IntKind.i64 x.snd.snd ∧
 ((0 : Int) ≤ x.snd.snd ∧ (0 : Int) < (12 : Int)) ∧
 Fits IntKind.i64 (x.snd.snd % (12 : Int) + (1 : Int)) ∧
 (x.fst % (12 : Int) + (1 : Int), x.snd.fst % ((12 : Int) / (x.fst % (12 : Int) + (1 : Int))) + (1 : Int), x.snd.snd % (12 : Int) + (1 : Int)) = netF x) := by
 kernel_rfl

theorem g6_eq (x : List Ed) : g6 x = (
 (x.length ≤ maxLen ∧ ∀ (p : Int × Int), p ∈ x → ((0 : Int) ≤ p.fst ∧ p.fst ≤ (255 : Int)) ∧ (0 : Int) ≤ p.snd ∧ p.snd ≤ (255 : Int)) ∧
 (graphX x).length ≤ (1000 : Nat) ∧
 (∃ (x0 : Nat),
 x0 ≤ (colorsF (6 : Int) (6 : Int) (graphX x)).fst.length ∧
 ([] = seenF (List.take x0 (colorsF (6 : Int) (6 : Int) (graphX x)).fst) ∧ True) ∧
 (0 : Int) = (↑x0 : Int) ∧
 True ∧
 (colorsF (6 : Int) (6 : Int) (graphX x)).snd = (colorsF (6 : Int) (6 : Int) (graphX x)).snd ∧
 (colorsF (6 : Int) (6 : Int) (graphX x)).fst = (colorsF (6 : Int) (6 : Int) (graphX x)).fst ∧ graphX x = graphX x ∧ True) ∧
 ∀ (x_1 : Nat),
 x_1 ≤ (colorsF (6 : Int) (6 : Int) (graphX x)).fst.length →
 ((↑x_1 : Int) < (↑(colorsF (6 : Int) (6 : Int) (graphX x)).fst.length : Int) →
 (↑x_1 : Int) < (↑(colorsF (6 : Int) (6 : Int) (graphX x)).fst.length : Int) ∧
 ((0 : Int) ≤ (↑x_1 : Int) ∧ (↑x_1 : Int) < (↑(colorsF (6 : Int) (6 : Int) (graphX x)).fst.length : Int)) ∧
 (seenF (List.take x_1 (colorsF (6 : Int) (6 : Int) (graphX x)).fst)).length ≤ (1000 : Nat) ∧
 ((!decide
 ((colorsF (6 : Int) (6 : Int) (graphX x)).fst.getD (↑x_1 : Int).toNat (0 : Int) ∈
 seenF (List.take x_1 (colorsF (6 : Int) (6 : Int) (graphX x)).fst))) =
 true →
 (!decide
 ((colorsF (6 : Int) (6 : Int) (graphX x)).fst.getD (↑x_1 : Int).toNat (0 : Int) ∈
 seenF (List.take x_1 (colorsF (6 : Int) (6 : Int) (graphX x)).fst))) =
 true ∧
 ((0 : Int) ≤ (↑x_1 : Int) ∧ (↑x_1 : Int) < (↑(colorsF (6 : Int) (6 : Int) (graphX x)).fst.length : Int)) ∧
 Small ((seenF (List.take x_1 (colorsF (6 : Int) (6 : Int) (graphX x)).fst)).length + ((0 : Nat) + (1 : Nat))) ∧
 Fits IntKind.i64 ((↑x_1 : Int) + (1 : Int)) ∧
 ∃ (x' : Nat),
 x' ≤ (colorsF (6 : Int) (6 : Int) (graphX x)).fst.length ∧
 (colorsF (6 : Int) (6 : Int) (graphX x)).fst.length - x' < (colorsF (6 : Int) (6 : Int) (graphX x)).fst.length - x_1 ∧
 (seenF (List.take x_1 (colorsF (6 : Int) (6 : Int) (graphX x)).fst) ++
 [(colorsF (6 : Int) (6 : Int) (graphX x)).fst.getD (↑x_1 : Int).toNat (0 : Int)] =
 seenF (List.take x' (colorsF (6 : Int) (6 : Int) (graphX x)).fst) ∧
 True) ∧
 (↑x_1 : Int) + (1 : Int) = (↑x' : Int) ∧
 True ∧
 (colorsF (6 : Int) (6 : Int) (graphX x)).snd = (colorsF (6 : Int) (6 : Int) (graphX x)).snd ∧
 (colorsF (6 : Int) (6 : Int) (graphX x)).fst = (colorsF (6 : Int) (6 : Int) (graphX x)).fst ∧ graphX x = graphX x ∧ True) ∧
 ((!decide
 ((colorsF (6 : Int) (6 : Int) (graphX x)).fst.getD (↑x_1 : Int).toNat (0 : Int) ∈
 seenF (List.take x_1 (colorsF (6 : Int) (6 : Int) (graphX x)).fst))) =
 false →
 (!decide
 ((colorsF (6 : Int) (6 : Int) (graphX x)).fst.getD (↑x_1 : Int).toNat (0 : Int) ∈
 seenF (List.take x_1 (colorsF (6 : Int) (6 : Int) (graphX x)).fst))) =
 false ∧
 Fits IntKind.i64 ((↑x_1 : Int) + (1 : Int)) ∧
 ∃ (x' : Nat),
 x' ≤ (colorsF (6 : Int) (6 : Int) (graphX x)).fst.length ∧
 (colorsF (6 : Int) (6 : Int) (graphX x)).fst.length - x' < (colorsF (6 : Int) (6 : Int) (graphX x)).fst.length - x_1 ∧
 (seenF (List.take x_1 (colorsF (6 : Int) (6 : Int) (graphX x)).fst) = seenF (List.take x' (colorsF (6 : Int) (6 : Int) (graphX x)).fst) ∧ True) ∧
 (↑x_1 : Int) + (1 : Int) = (↑x' : Int) ∧
 True ∧
 (colorsF (6 : Int) (6 : Int) (graphX x)).snd = (colorsF (6 : Int) (6 : Int) (graphX x)).snd ∧
 (colorsF (6 : Int) (6 : Int) (graphX x)).fst = (colorsF (6 : Int) (6 : Int) (graphX x)).fst ∧ graphX x = graphX x ∧ True)) ∧
 (¬(↑x_1 : Int) < (↑(colorsF (6 : Int) (6 : Int) (graphX x)).fst.length : Int) →
 ¬(↑x_1 : Int) < (↑(colorsF (6 : Int) (6 : Int) (graphX x)).fst.length : Int) ∧
 ((colorsF (6 : Int) (6 : Int) (graphX x)).snd = (0 : Int) →
 (colorsF (6 : Int) (6 : Int) (graphX x)).snd = (0 : Int) ∧
 (colorsF (6 : Int) (6 : Int) (graphX x)).snd = (0 : Int) ∧
 ((↑(colorsF (6 : Int) (6 : Int) (graphX x)).fst.length : Int) = (↑(graphX x).length : Int) →
 (↑(colorsF (6 : Int) (6 : Int) (graphX x)).fst.length : Int) = (↑(graphX x).length : Int) ∧
 (↑(colorsF (6 : Int) (6 : Int) (graphX x)).fst.length : Int) = (↑(graphX x).length : Int) ∧
 (↑(colorsF (6 : Int) (6 : Int) (graphX x)).fst.length : Int) = (↑(graphX x).length : Int) ∧
 ((graphX x).length ≤ (1000 : Nat) ∧ (colorsF (6 : Int) (6 : Int) (graphX x)).fst.length ≤ (graphX x).length) ∧
 (properF (graphX x) (colorsF (6 : Int) (6 : Int) (graphX x)).fst = true →
 properF (graphX x) (colorsF (6 : Int) (6 : Int) (graphX x)).fst = true ∧
 properF (graphX x) (colorsF (6 : Int) (6 : Int) (graphX x)).fst = true ∧
 properF (graphX x) (colorsF (6 : Int) (6 : Int) (graphX x)).fst = true ∧
 (graphX x).length ≤ (1000 : Nat) ∧
 ((↑(seenF (List.take x_1 (colorsF (6 : Int) (6 : Int) (graphX x)).fst)).length : Int) = degR (graphX x) (6 : Nat) →
 (↑(seenF (List.take x_1 (colorsF (6 : Int) (6 : Int) (graphX x)).fst)).length : Int) = degR (graphX x) (6 : Nat) ∧
 (↑(seenF (List.take x_1 (colorsF (6 : Int) (6 : Int) (graphX x)).fst)).length : Int) = degR (graphX x) (6 : Nat) ∧
 (↑(seenF (List.take x_1 (colorsF (6 : Int) (6 : Int) (graphX x)).fst)).length : Int) = degR (graphX x) (6 : Nat) ∧
 (graphX x).length ≤ (1000 : Nat) ∧
 ((colorsF (6 : Int) (6 : Int) (graphX x)).fst.length ≤ (1000 : Nat) ∧
 (-1000 : Int) ≤ max (degR (graphX x) (6 : Nat)) (1 : Int) ∧
 max (degR (graphX x) (6 : Nat)) (1 : Int) ≤ (1000 : Int)) ∧
 (decide
 ((∀ (x_2 : Int),
 x_2 ∈ (colorsF (6 : Int) (6 : Int) (graphX x)).fst →
 (0 : Int) ≤ x_2 ∧ x_2 < max (degR (graphX x) (6 : Nat)) (1 : Int)) ∧
 (↑(colorsF (6 : Int) (6 : Int) (graphX x)).fst.length : Int) = (↑(graphX x).length : Int)) =
 true →
 decide
 ((∀ (x_2 : Int),
 x_2 ∈ (colorsF (6 : Int) (6 : Int) (graphX x)).fst →
 (0 : Int) ≤ x_2 ∧ x_2 < max (degR (graphX x) (6 : Nat)) (1 : Int)) ∧
 (↑(colorsF (6 : Int) (6 : Int) (graphX x)).fst.length : Int) = (↑(graphX x).length : Int)) =
 true ∧
 decide
 ((∀ (x_2 : Int),
 x_2 ∈ (colorsF (6 : Int) (6 : Int) (graphX x)).fst →
 (0 : Int) ≤ x_2 ∧ x_2 < max (degR (graphX x) (6 : Nat)) (1 : Int)) ∧
 (↑(colorsF (6 : Int) (6 : Int) (graphX x)).fst.length : Int) = (↑(graphX x).length : Int)) =
 true ∧
 decide
 ((∀ (x_2 : Int),
 x_2 ∈ (colorsF (6 : Int) (6 : Int) (graphX x)).fst →
 (0 : Int) ≤ x_2 ∧ x_2 < max (degR (graphX x) (6 : Nat)) (1 : Int)) ∧
 (↑(colorsF (6 : Int) (6 : Int) (graphX x)).fst.length : Int) = (↑(graphX x).length : Int)) =
 true ∧
 True ∧ true = true) ∧
 (decide
 ((∀ (x_2 : Int),
 x_2 ∈ (colorsF (6 : Int) (6 : Int) (graphX x)).fst →
 (0 : Int) ≤ x_2 ∧ x_2 < max (degR (graphX x) (6 : Nat)) (1 : Int)) ∧
 (↑(colorsF (6 : Int) (6 : Int) (graphX x)).fst.length : Int) = (↑(graphX x).length : Int)) =
 false →
 decide
 ((∀ (x_2 : Int),
 x_2 ∈ (colorsF (6 : Int) (6 : Int) (graphX x)).fst →
 (0 : Int) ≤ x_2 ∧ x_2 < max (degR (graphX x) (6 : Nat)) (1 : Int)) ∧
 (↑(colorsF (6 : Int) (6 : Int) (graphX x)).fst.length : Int) = (↑(graphX x).length : Int)) =
 false ∧
 decide
 ((∀ (x_2 : Int),
 x_2 ∈ (colorsF (6 : Int) (6 : Int) (graphX x)).fst →
 (0 : Int) ≤ x_2 ∧ x_2 < max (degR (graphX x) (6 : Nat)) (1 : Int)) ∧
 (↑(colorsF (6 : Int) (6 : Int) (graphX x)).fst.length : Int) = (↑(graphX x).length : Int)) =
 false ∧
 decide
 ((∀ (x_2 : Int),
 x_2 ∈ (colorsF (6 : Int) (6 : Int) (graphX x)).fst →
 (0 : Int) ≤ x_2 ∧ x_2 < max (degR (graphX x) (6 : Nat)) (1 : Int)) ∧
 (↑(colorsF (6 : Int) (6 : Int) (graphX x)).fst.length : Int) = (↑(graphX x).length : Int)) =
 false ∧
 false = true)) ∧
 (¬(↑(seenF (List.take x_1 (colorsF (6 : Int) (6 : Int) (graphX x)).fst)).length : Int) = degR (graphX x) (6 : Nat) →
 ¬(↑(seenF (List.take x_1 (colorsF (6 : Int) (6 : Int) (graphX x)).fst)).length : Int) = degR (graphX x) (6 : Nat) ∧
 ¬(↑(seenF (List.take x_1 (colorsF (6 : Int) (6 : Int) (graphX x)).fst)).length : Int) = degR (graphX x) (6 : Nat) ∧
 ¬(↑(seenF (List.take x_1 (colorsF (6 : Int) (6 : Int) (graphX x)).fst)).length : Int) = degR (graphX x) (6 : Nat) ∧
 false = true)) ∧
 (properF (graphX x) (colorsF (6 : Int) (6 : Int) (graphX x)).fst = false →
 properF (graphX x) (colorsF (6 : Int) (6 : Int) (graphX x)).fst = false ∧
 properF (graphX x) (colorsF (6 : Int) (6 : Int) (graphX x)).fst = false ∧
 properF (graphX x) (colorsF (6 : Int) (6 : Int) (graphX x)).fst = false ∧ false = true)) ∧
 (¬(↑(colorsF (6 : Int) (6 : Int) (graphX x)).fst.length : Int) = (↑(graphX x).length : Int) →
 ¬(↑(colorsF (6 : Int) (6 : Int) (graphX x)).fst.length : Int) = (↑(graphX x).length : Int) ∧
 ¬(↑(colorsF (6 : Int) (6 : Int) (graphX x)).fst.length : Int) = (↑(graphX x).length : Int) ∧
 ¬(↑(colorsF (6 : Int) (6 : Int) (graphX x)).fst.length : Int) = (↑(graphX x).length : Int) ∧ false = true)) ∧
 (¬(colorsF (6 : Int) (6 : Int) (graphX x)).snd = (0 : Int) →
 ¬(colorsF (6 : Int) (6 : Int) (graphX x)).snd = (0 : Int) ∧ ¬(colorsF (6 : Int) (6 : Int) (graphX x)).snd = (0 : Int) ∧ false = true))) := by
 kernel_rfl

theorem g7_eq (x : Int × Int × Int) (code : List Int) : g7 x code = (
 (((0 : Int) ≤ x.fst ∧ x.fst ≤ (255 : Int)) ∧ ((0 : Int) ≤ x.snd.fst ∧ x.snd.fst ≤ (255 : Int)) ∧ (0 : Int) ≤ x.snd.snd ∧ x.snd.snd ≤ (255 : Int)) ∧
 ((6 : Int) < (netF (x.fst, x.snd.fst, x.snd.snd)).snd.fst → (6 : Int) < (netF (x.fst, x.snd.fst, x.snd.snd)).snd.fst ∧ True ∧ true = true) ∧
 (¬(6 : Int) < (netF (x.fst, x.snd.fst, x.snd.snd)).snd.fst →
 ¬(6 : Int) < (netF (x.fst, x.snd.fst, x.snd.snd)).snd.fst ∧
 Fits IntKind.i64 ((netF (x.fst, x.snd.fst, x.snd.snd)).fst * (netF (x.fst, x.snd.fst, x.snd.snd)).snd.fst) ∧
 (((0 : Int) ≤ (netF (x.fst, x.snd.fst, x.snd.snd)).fst * (netF (x.fst, x.snd.fst, x.snd.snd)).snd.fst ∧
 (netF (x.fst, x.snd.fst, x.snd.snd)).fst * (netF (x.fst, x.snd.fst, x.snd.snd)).snd.fst ≤ (100 : Int)) ∧
 code.length ≤ maxLen ∧ ∀ (b : Int), b ∈ code → (0 : Int) ≤ b ∧ b ≤ (255 : Int)) ∧
 (∃ (x0 : Nat),
 (↑x0 : Int) ≤ (netF x).fst * (netF x).snd.fst ∧
 ((x.fst = x.fst ∧ x.snd.fst = x.snd.fst ∧ x.snd.snd = x.snd.snd ∧ True) ∧
 [] = edgesTo (netF x).fst (nthTo code ((netF x).fst * (netF x).snd.fst).toNat) x0 ∧ True) ∧
 (0 : Int) = (↑x0 : Int) ∧
 True ∧
 nthTo code ((netF (x.fst, x.snd.fst, x.snd.snd)).fst * (netF (x.fst, x.snd.fst, x.snd.snd)).snd.fst).toNat =
 nthTo code ((netF (x.fst, x.snd.fst, x.snd.snd)).fst * (netF (x.fst, x.snd.fst, x.snd.snd)).snd.fst).toNat ∧
 (netF (x.fst, x.snd.fst, x.snd.snd)).snd.fst = (netF (x.fst, x.snd.fst, x.snd.snd)).snd.fst ∧
 (netF (x.fst, x.snd.fst, x.snd.snd)).fst = (netF (x.fst, x.snd.fst, x.snd.snd)).fst ∧ True) ∧
 ∀ (x_1 : Nat),
 (↑x_1 : Int) ≤ (netF x).fst * (netF x).snd.fst →
 Fits IntKind.i64 ((netF (x.fst, x.snd.fst, x.snd.snd)).fst * (netF (x.fst, x.snd.fst, x.snd.snd)).snd.fst) ∧
 ((↑x_1 : Int) < (netF (x.fst, x.snd.fst, x.snd.snd)).fst * (netF (x.fst, x.snd.fst, x.snd.snd)).snd.fst →
 (↑x_1 : Int) < (netF (x.fst, x.snd.fst, x.snd.snd)).fst * (netF (x.fst, x.snd.fst, x.snd.snd)).snd.fst ∧
 ((0 : Int) ≤ (↑x_1 : Int) ∧ (0 : Int) < (netF (x.fst, x.snd.fst, x.snd.snd)).fst) ∧
 Fits IntKind.i64 ((↑x_1 : Int) / (netF (x.fst, x.snd.fst, x.snd.snd)).fst) ∧
 ((0 : Int) ≤ (↑x_1 : Int) ∧
 (↑x_1 : Int) < (↑(nthTo code ((netF (x.fst, x.snd.fst, x.snd.snd)).fst * (netF (x.fst, x.snd.fst, x.snd.snd)).snd.fst).toNat).length : Int)) ∧
 ((0 : Int) ≤
 (nthTo code ((netF (x.fst, x.snd.fst, x.snd.snd)).fst * (netF (x.fst, x.snd.fst, x.snd.snd)).snd.fst).toNat).getD (↑x_1 : Int).toNat
 (0 : Int) ∧
 (0 : Int) < (netF (x.fst, x.snd.fst, x.snd.snd)).fst) ∧
 Fits IntKind.i64
 ((nthTo code ((netF (x.fst, x.snd.fst, x.snd.snd)).fst * (netF (x.fst, x.snd.fst, x.snd.snd)).snd.fst).toNat).getD (↑x_1 : Int).toNat
 (0 : Int) /
 (netF (x.fst, x.snd.fst, x.snd.snd)).fst) ∧
 Small ((edgesTo (netF x).fst (nthTo code ((netF x).fst * (netF x).snd.fst).toNat) x_1).length + ((0 : Nat) + (1 : Nat))) ∧
 Fits IntKind.i64 ((↑x_1 : Int) + (1 : Int)) ∧
 ∃ (x' : Nat),
 (↑x' : Int) ≤ (netF x).fst * (netF x).snd.fst ∧
 ((netF x).fst * (netF x).snd.fst).toNat - x' < ((netF x).fst * (netF x).snd.fst).toNat - x_1 ∧
 ((x.fst = x.fst ∧ x.snd.fst = x.snd.fst ∧ x.snd.snd = x.snd.snd ∧ True) ∧
 edgesTo (netF x).fst (nthTo code ((netF x).fst * (netF x).snd.fst).toNat) x_1 ++
 [((↑x_1 : Int) / (netF (x.fst, x.snd.fst, x.snd.snd)).fst,
 (nthTo code ((netF (x.fst, x.snd.fst, x.snd.snd)).fst * (netF (x.fst, x.snd.fst, x.snd.snd)).snd.fst).toNat).getD
 (↑x_1 : Int).toNat (0 : Int) /
 (netF (x.fst, x.snd.fst, x.snd.snd)).fst)] =
 edgesTo (netF x).fst (nthTo code ((netF x).fst * (netF x).snd.fst).toNat) x' ∧
 True) ∧
 (↑x_1 : Int) + (1 : Int) = (↑x' : Int) ∧
 True ∧
 nthTo code ((netF (x.fst, x.snd.fst, x.snd.snd)).fst * (netF (x.fst, x.snd.fst, x.snd.snd)).snd.fst).toNat =
 nthTo code ((netF (x.fst, x.snd.fst, x.snd.snd)).fst * (netF (x.fst, x.snd.fst, x.snd.snd)).snd.fst).toNat ∧
 (netF (x.fst, x.snd.fst, x.snd.snd)).snd.fst = (netF (x.fst, x.snd.fst, x.snd.snd)).snd.fst ∧
 (netF (x.fst, x.snd.fst, x.snd.snd)).fst = (netF (x.fst, x.snd.fst, x.snd.snd)).fst ∧ True) ∧
 (¬(↑x_1 : Int) < (netF (x.fst, x.snd.fst, x.snd.snd)).fst * (netF (x.fst, x.snd.fst, x.snd.snd)).snd.fst →
 ¬(↑x_1 : Int) < (netF (x.fst, x.snd.fst, x.snd.snd)).fst * (netF (x.fst, x.snd.fst, x.snd.snd)).snd.fst ∧
 (nthTo code ((netF (x.fst, x.snd.fst, x.snd.snd)).fst * (netF (x.fst, x.snd.fst, x.snd.snd)).snd.fst).toNat).length ≤ (1000 : Nat) ∧
 (edgesTo (netF x).fst (nthTo code ((netF x).fst * (netF x).snd.fst).toNat) x_1).length ≤ (1000 : Nat) ∧
 ((routeF (netF (x.fst, x.snd.fst, x.snd.snd)).fst (netF (x.fst, x.snd.fst, x.snd.snd)).snd.fst (netF (x.fst, x.snd.fst, x.snd.snd)).fst
 (nthTo code ((netF (x.fst, x.snd.fst, x.snd.snd)).fst * (netF (x.fst, x.snd.fst, x.snd.snd)).snd.fst).toNat)).snd =
 (0 : Int) →
 (routeF (netF (x.fst, x.snd.fst, x.snd.snd)).fst (netF (x.fst, x.snd.fst, x.snd.snd)).snd.fst (netF (x.fst, x.snd.fst, x.snd.snd)).fst
 (nthTo code ((netF (x.fst, x.snd.fst, x.snd.snd)).fst * (netF (x.fst, x.snd.fst, x.snd.snd)).snd.fst).toNat)).snd =
 (0 : Int) ∧
 (routeF (netF (x.fst, x.snd.fst, x.snd.snd)).fst (netF (x.fst, x.snd.fst, x.snd.snd)).snd.fst (netF (x.fst, x.snd.fst, x.snd.snd)).fst
 (nthTo code ((netF (x.fst, x.snd.fst, x.snd.snd)).fst * (netF (x.fst, x.snd.fst, x.snd.snd)).snd.fst).toNat)).snd =
 (0 : Int) ∧
 ((colorsF (netF (x.fst, x.snd.fst, x.snd.snd)).snd.fst (netF (x.fst, x.snd.fst, x.snd.snd)).snd.fst
 (edgesTo (netF x).fst (nthTo code ((netF x).fst * (netF x).snd.fst).toNat) x_1)).snd =
 (0 : Int) →
 (colorsF (netF (x.fst, x.snd.fst, x.snd.snd)).snd.fst (netF (x.fst, x.snd.fst, x.snd.snd)).snd.fst
 (edgesTo (netF x).fst (nthTo code ((netF x).fst * (netF x).snd.fst).toNat) x_1)).snd =
 (0 : Int) ∧
 (colorsF (netF (x.fst, x.snd.fst, x.snd.snd)).snd.fst (netF (x.fst, x.snd.fst, x.snd.snd)).snd.fst
 (edgesTo (netF x).fst (nthTo code ((netF x).fst * (netF x).snd.fst).toNat) x_1)).snd =
 (0 : Int) ∧
 (colorsF (netF (x.fst, x.snd.fst, x.snd.snd)).snd.fst (netF (x.fst, x.snd.fst, x.snd.snd)).snd.fst
 (edgesTo (netF x).fst (nthTo code ((netF x).fst * (netF x).snd.fst).toNat) x_1)).snd =
 (0 : Int) ∧
 ((routeF (netF (x.fst, x.snd.fst, x.snd.snd)).fst (netF (x.fst, x.snd.fst, x.snd.snd)).snd.fst
 (netF (x.fst, x.snd.fst, x.snd.snd)).fst
 (nthTo code
 ((netF (x.fst, x.snd.fst, x.snd.snd)).fst * (netF (x.fst, x.snd.fst, x.snd.snd)).snd.fst).toNat)).fst.length ≤
 (1000 : Nat) ∧
 (colorsF (netF (x.fst, x.snd.fst, x.snd.snd)).snd.fst (netF (x.fst, x.snd.fst, x.snd.snd)).snd.fst
 (edgesTo (netF x).fst (nthTo code ((netF x).fst * (netF x).snd.fst).toNat) x_1)).fst.length ≤
 (1000 : Nat)) ∧
 (decide
 ((routeF (netF (x.fst, x.snd.fst, x.snd.snd)).fst (netF (x.fst, x.snd.fst, x.snd.snd)).snd.fst
 (netF (x.fst, x.snd.fst, x.snd.snd)).fst
 (nthTo code ((netF (x.fst, x.snd.fst, x.snd.snd)).fst * (netF (x.fst, x.snd.fst, x.snd.snd)).snd.fst).toNat)).fst =
 (colorsF (netF (x.fst, x.snd.fst, x.snd.snd)).snd.fst (netF (x.fst, x.snd.fst, x.snd.snd)).snd.fst
 (edgesTo (netF x).fst (nthTo code ((netF x).fst * (netF x).snd.fst).toNat) x_1)).fst) =
 true →
 decide
 ((routeF (netF (x.fst, x.snd.fst, x.snd.snd)).fst (netF (x.fst, x.snd.fst, x.snd.snd)).snd.fst
 (netF (x.fst, x.snd.fst, x.snd.snd)).fst
 (nthTo code
 ((netF (x.fst, x.snd.fst, x.snd.snd)).fst * (netF (x.fst, x.snd.fst, x.snd.snd)).snd.fst).toNat)).fst =
 (colorsF (netF (x.fst, x.snd.fst, x.snd.snd)).snd.fst (netF (x.fst, x.snd.fst, x.snd.snd)).snd.fst
 (edgesTo (netF x).fst (nthTo code ((netF x).fst * (netF x).snd.fst).toNat) x_1)).fst) =
 true ∧
 decide
 ((routeF (netF (x.fst, x.snd.fst, x.snd.snd)).fst (netF (x.fst, x.snd.fst, x.snd.snd)).snd.fst
 (netF (x.fst, x.snd.fst, x.snd.snd)).fst
 (nthTo code
 ((netF (x.fst, x.snd.fst, x.snd.snd)).fst * (netF (x.fst, x.snd.fst, x.snd.snd)).snd.fst).toNat)).fst =
 (colorsF (netF (x.fst, x.snd.fst, x.snd.snd)).snd.fst (netF (x.fst, x.snd.fst, x.snd.snd)).snd.fst
 (edgesTo (netF x).fst (nthTo code ((netF x).fst * (netF x).snd.fst).toNat) x_1)).fst) =
 true ∧
 decide
 ((routeF (netF (x.fst, x.snd.fst, x.snd.snd)).fst (netF (x.fst, x.snd.fst, x.snd.snd)).snd.fst
 (netF (x.fst, x.snd.fst, x.snd.snd)).fst
 (nthTo code
 ((netF (x.fst, x.snd.fst, x.snd.snd)).fst * (netF (x.fst, x.snd.fst, x.snd.snd)).snd.fst).toNat)).fst =
 (colorsF (netF (x.fst, x.snd.fst, x.snd.snd)).snd.fst (netF (x.fst, x.snd.fst, x.snd.snd)).snd.fst
 (edgesTo (netF x).fst (nthTo code ((netF x).fst * (netF x).snd.fst).toNat) x_1)).fst) =
 true ∧
 ((edgesTo (netF x).fst (nthTo code ((netF x).fst * (netF x).snd.fst).toNat) x_1).length ≤ (1000 : Nat) ∧
 (routeF (netF (x.fst, x.snd.fst, x.snd.snd)).fst (netF (x.fst, x.snd.fst, x.snd.snd)).snd.fst
 (netF (x.fst, x.snd.fst, x.snd.snd)).fst
 (nthTo code
 ((netF (x.fst, x.snd.fst, x.snd.snd)).fst *
 (netF (x.fst, x.snd.fst, x.snd.snd)).snd.fst).toNat)).fst.length ≤
 (edgesTo (netF x).fst (nthTo code ((netF x).fst * (netF x).snd.fst).toNat) x_1).length) ∧
 (properF (edgesTo (netF x).fst (nthTo code ((netF x).fst * (netF x).snd.fst).toNat) x_1)
 (routeF (netF (x.fst, x.snd.fst, x.snd.snd)).fst (netF (x.fst, x.snd.fst, x.snd.snd)).snd.fst
 (netF (x.fst, x.snd.fst, x.snd.snd)).fst
 (nthTo code
 ((netF (x.fst, x.snd.fst, x.snd.snd)).fst * (netF (x.fst, x.snd.fst, x.snd.snd)).snd.fst).toNat)).fst =
 true →
 properF (edgesTo (netF x).fst (nthTo code ((netF x).fst * (netF x).snd.fst).toNat) x_1)
 (routeF (netF (x.fst, x.snd.fst, x.snd.snd)).fst (netF (x.fst, x.snd.fst, x.snd.snd)).snd.fst
 (netF (x.fst, x.snd.fst, x.snd.snd)).fst
 (nthTo code
 ((netF (x.fst, x.snd.fst, x.snd.snd)).fst *
 (netF (x.fst, x.snd.fst, x.snd.snd)).snd.fst).toNat)).fst =
 true ∧
 properF (edgesTo (netF x).fst (nthTo code ((netF x).fst * (netF x).snd.fst).toNat) x_1)
 (routeF (netF (x.fst, x.snd.fst, x.snd.snd)).fst (netF (x.fst, x.snd.fst, x.snd.snd)).snd.fst
 (netF (x.fst, x.snd.fst, x.snd.snd)).fst
 (nthTo code
 ((netF (x.fst, x.snd.fst, x.snd.snd)).fst *
 (netF (x.fst, x.snd.fst, x.snd.snd)).snd.fst).toNat)).fst =
 true ∧
 properF (edgesTo (netF x).fst (nthTo code ((netF x).fst * (netF x).snd.fst).toNat) x_1)
 (routeF (netF (x.fst, x.snd.fst, x.snd.snd)).fst (netF (x.fst, x.snd.fst, x.snd.snd)).snd.fst
 (netF (x.fst, x.snd.fst, x.snd.snd)).fst
 (nthTo code
 ((netF (x.fst, x.snd.fst, x.snd.snd)).fst *
 (netF (x.fst, x.snd.fst, x.snd.snd)).snd.fst).toNat)).fst =
 true ∧
 True ∧ true = true) ∧
 (properF (edgesTo (netF x).fst (nthTo code ((netF x).fst * (netF x).snd.fst).toNat) x_1)
 (routeF (netF (x.fst, x.snd.fst, x.snd.snd)).fst (netF (x.fst, x.snd.fst, x.snd.snd)).snd.fst
 (netF (x.fst, x.snd.fst, x.snd.snd)).fst
 (nthTo code
 ((netF (x.fst, x.snd.fst, x.snd.snd)).fst * (netF (x.fst, x.snd.fst, x.snd.snd)).snd.fst).toNat)).fst =
 false →
 properF (edgesTo (netF x).fst (nthTo code ((netF x).fst * (netF x).snd.fst).toNat) x_1)
 (routeF (netF (x.fst, x.snd.fst, x.snd.snd)).fst (netF (x.fst, x.snd.fst, x.snd.snd)).snd.fst
 (netF (x.fst, x.snd.fst, x.snd.snd)).fst
 (nthTo code
 ((netF (x.fst, x.snd.fst, x.snd.snd)).fst *
 (netF (x.fst, x.snd.fst, x.snd.snd)).snd.fst).toNat)).fst =
 false ∧
 properF (edgesTo (netF x).fst (nthTo code ((netF x).fst * (netF x).snd.fst).toNat) x_1)
 (routeF (netF (x.fst, x.snd.fst, x.snd.snd)).fst (netF (x.fst, x.snd.fst, x.snd.snd)).snd.fst
 (netF (x.fst, x.snd.fst, x.snd.snd)).fst
 (nthTo code
 ((netF (x.fst, x.snd.fst, x.snd.snd)).fst *
 (netF (x.fst, x.snd.fst, x.snd.snd)).snd.fst).toNat)).fst =
 false ∧
 properF (edgesTo (netF x).fst (nthTo code ((netF x).fst * (netF x).snd.fst).toNat) x_1)
 (routeF (netF (x.fst, x.snd.fst, x.snd.snd)).fst (netF (x.fst, x.snd.fst, x.snd.snd)).snd.fst
 (netF (x.fst, x.snd.fst, x.snd.snd)).fst
 (nthTo code
 ((netF (x.fst, x.snd.fst, x.snd.snd)).fst *
 (netF (x.fst, x.snd.fst, x.snd.snd)).snd.fst).toNat)).fst =
 false ∧
 false = true)) ∧
 (decide
 ((routeF (netF (x.fst, x.snd.fst, x.snd.snd)).fst (netF (x.fst, x.snd.fst, x.snd.snd)).snd.fst
 (netF (x.fst, x.snd.fst, x.snd.snd)).fst
 (nthTo code ((netF (x.fst, x.snd.fst, x.snd.snd)).fst * (netF (x.fst, x.snd.fst, x.snd.snd)).snd.fst).toNat)).fst =
 (colorsF (netF (x.fst, x.snd.fst, x.snd.snd)).snd.fst (netF (x.fst, x.snd.fst, x.snd.snd)).snd.fst
 (edgesTo (netF x).fst (nthTo code ((netF x).fst * (netF x).snd.fst).toNat) x_1)).fst) =
 false →
 decide
 ((routeF (netF (x.fst, x.snd.fst, x.snd.snd)).fst (netF (x.fst, x.snd.fst, x.snd.snd)).snd.fst
 (netF (x.fst, x.snd.fst, x.snd.snd)).fst
 (nthTo code
 ((netF (x.fst, x.snd.fst, x.snd.snd)).fst * (netF (x.fst, x.snd.fst, x.snd.snd)).snd.fst).toNat)).fst =
 (colorsF (netF (x.fst, x.snd.fst, x.snd.snd)).snd.fst (netF (x.fst, x.snd.fst, x.snd.snd)).snd.fst
 (edgesTo (netF x).fst (nthTo code ((netF x).fst * (netF x).snd.fst).toNat) x_1)).fst) =
 false ∧
 decide
 ((routeF (netF (x.fst, x.snd.fst, x.snd.snd)).fst (netF (x.fst, x.snd.fst, x.snd.snd)).snd.fst
 (netF (x.fst, x.snd.fst, x.snd.snd)).fst
 (nthTo code
 ((netF (x.fst, x.snd.fst, x.snd.snd)).fst * (netF (x.fst, x.snd.fst, x.snd.snd)).snd.fst).toNat)).fst =
 (colorsF (netF (x.fst, x.snd.fst, x.snd.snd)).snd.fst (netF (x.fst, x.snd.fst, x.snd.snd)).snd.fst
 (edgesTo (netF x).fst (nthTo code ((netF x).fst * (netF x).snd.fst).toNat) x_1)).fst) =
 false ∧
 decide
 ((routeF (netF (x.fst, x.snd.fst, x.snd.snd)).fst (netF (x.fst, x.snd.fst, x.snd.snd)).snd.fst
 (netF (x.fst, x.snd.fst, x.snd.snd)).fst
 (nthTo code
 ((netF (x.fst, x.snd.fst, x.snd.snd)).fst * (netF (x.fst, x.snd.fst, x.snd.snd)).snd.fst).toNat)).fst =
 (colorsF (netF (x.fst, x.snd.fst, x.snd.snd)).snd.fst (netF (x.fst, x.snd.fst, x.snd.snd)).snd.fst
 (edgesTo (netF x).fst (nthTo code ((netF x).fst * (netF x).snd.fst).toNat) x_1)).fst) =
 false ∧
 false = true)) ∧
 (¬(colorsF (netF (x.fst, x.snd.fst, x.snd.snd)).snd.fst (netF (x.fst, x.snd.fst, x.snd.snd)).snd.fst
 (edgesTo (netF x).fst (nthTo code ((netF x).fst * (netF x).snd.fst).toNat) x_1)).snd =
 (0 : Int) →
 ¬(colorsF (netF (x.fst, x.snd.fst, x.snd.snd)).snd.fst (netF (x.fst, x.snd.fst, x.snd.snd)).snd.fst
 (edgesTo (netF x).fst (nthTo code ((netF x).fst * (netF x).snd.fst).toNat) x_1)).snd =
 (0 : Int) ∧
 ¬(colorsF (netF (x.fst, x.snd.fst, x.snd.snd)).snd.fst (netF (x.fst, x.snd.fst, x.snd.snd)).snd.fst
 (edgesTo (netF x).fst (nthTo code ((netF x).fst * (netF x).snd.fst).toNat) x_1)).snd =
 (0 : Int) ∧
 ¬(colorsF (netF (x.fst, x.snd.fst, x.snd.snd)).snd.fst (netF (x.fst, x.snd.fst, x.snd.snd)).snd.fst
 (edgesTo (netF x).fst (nthTo code ((netF x).fst * (netF x).snd.fst).toNat) x_1)).snd =
 (0 : Int) ∧
 false = true)) ∧
 (¬(routeF (netF (x.fst, x.snd.fst, x.snd.snd)).fst (netF (x.fst, x.snd.fst, x.snd.snd)).snd.fst (netF (x.fst, x.snd.fst, x.snd.snd)).fst
 (nthTo code ((netF (x.fst, x.snd.fst, x.snd.snd)).fst * (netF (x.fst, x.snd.fst, x.snd.snd)).snd.fst).toNat)).snd =
 (0 : Int) →
 ¬(routeF (netF (x.fst, x.snd.fst, x.snd.snd)).fst (netF (x.fst, x.snd.fst, x.snd.snd)).snd.fst (netF (x.fst, x.snd.fst, x.snd.snd)).fst
 (nthTo code ((netF (x.fst, x.snd.fst, x.snd.snd)).fst * (netF (x.fst, x.snd.fst, x.snd.snd)).snd.fst).toNat)).snd =
 (0 : Int) ∧
 ¬(routeF (netF (x.fst, x.snd.fst, x.snd.snd)).fst (netF (x.fst, x.snd.fst, x.snd.snd)).snd.fst (netF (x.fst, x.snd.fst, x.snd.snd)).fst
 (nthTo code ((netF (x.fst, x.snd.fst, x.snd.snd)).fst * (netF (x.fst, x.snd.fst, x.snd.snd)).snd.fst).toNat)).snd =
 (0 : Int) ∧
 false = true)))) := by
 kernel_rfl

theorem g5_eq (x : Int) : g5 x = (
 Fits IntKind.i64 x ∧
 ((0 : Int) ≤ x ∧ (0 : Int) < (2 : Int)) ∧
 Fits IntKind.i64 (x % (2 : Int) + (1 : Int)) ∧
 (∃ (x0 : Nat),
 ((2 : Nat) ≤ x0 ∧ x0 ≤ (2 : Nat) ^ kOf x + (1 : Nat)) ∧
 True ∧ x % (2 : Int) + (1 : Int) = (↑(kOf x) : Int) ∧ (2 : Int) = (↑x0 : Int) ∧ (1 : Int) = (↑(facN (x0 - (1 : Nat))) : Int) ∧ (0 : Int) = (0 : Int) ∧ True) ∧
 ∀ (x_1 : Nat),
 (2 : Nat) ≤ x_1 ∧ x_1 ≤ (2 : Nat) ^ kOf x + (1 : Nat) →
 ((0 : Int) ≤ (↑(kOf x) : Int) ∧ (↑(kOf x) : Int) < (64 : Int)) ∧
 Fits IntKind.i64 ((1 : Int) * (2 : Int) ^ (↑(kOf x) : Int).toNat) ∧
 ((↑x_1 : Int) ≤ (1 : Int) * (2 : Int) ^ (↑(kOf x) : Int).toNat →
 (↑x_1 : Int) ≤ (1 : Int) * (2 : Int) ^ (↑(kOf x) : Int).toNat ∧
 Fits IntKind.i64 ((↑(facN (x_1 - (1 : Nat))) : Int) * (↑x_1 : Int)) ∧
 Fits IntKind.i64 ((↑x_1 : Int) + (1 : Int)) ∧
 ∃ (x' : Nat),
 ((2 : Nat) ≤ x' ∧ x' ≤ (2 : Nat) ^ kOf x + (1 : Nat)) ∧
 (2 : Nat) ^ kOf x + (1 : Nat) - x' < (2 : Nat) ^ kOf x + (1 : Nat) - x_1 ∧
 True ∧
 (↑(kOf x) : Int) = (↑(kOf x) : Int) ∧
 (↑x_1 : Int) + (1 : Int) = (↑x' : Int) ∧
 (↑(facN (x_1 - (1 : Nat))) : Int) * (↑x_1 : Int) = (↑(facN (x' - (1 : Nat))) : Int) ∧ (0 : Int) = (0 : Int) ∧ True) ∧
 (¬(↑x_1 : Int) ≤ (1 : Int) * (2 : Int) ^ (↑(kOf x) : Int).toNat →
 ¬(↑x_1 : Int) ≤ (1 : Int) * (2 : Int) ^ (↑(kOf x) : Int).toNat ∧
 (∃ (x0 : Nat),
 x0 ≤ facN ((2 : Nat) ^ kOf x) ∧
 True ∧
 (0 : Int) = (↑x0 : Int) ∧
 (0 : Int) = (↑(sumTo (kOf x) x0) : Int) ∧
 (↑(facN (x_1 - (1 : Nat))) : Int) = (↑(facN ((2 : Nat) ^ kOf x)) : Int) ∧ (↑(kOf x) : Int) = (↑(kOf x) : Int) ∧ True) ∧
 ∀ (x_2 : Nat),
 x_2 ≤ facN ((2 : Nat) ^ kOf x) →
 ((↑x_2 : Int) < (↑(facN ((2 : Nat) ^ kOf x)) : Int) →
 (↑x_2 : Int) < (↑(facN ((2 : Nat) ^ kOf x)) : Int) ∧
 (∃ (x0 : Nat),
 x0 ≤ (2 : Nat) ^ kOf x ∧
 ([] = (codeTo (↑x_2 : Int).toNat x0).fst ∧ True) ∧
 (0 : Int) = (↑x0 : Int) ∧
 (↑x_2 : Int) = (↑(codeTo (↑x_2 : Int).toNat x0).snd : Int) ∧
 True ∧
 (↑x_2 : Int) = (↑x_2 : Int) ∧
 (↑(sumTo (kOf x) x_2) : Int) = (↑(sumTo (kOf x) x_2) : Int) ∧
 (↑(facN ((2 : Nat) ^ kOf x)) : Int) = (↑(facN ((2 : Nat) ^ kOf x)) : Int) ∧ (↑(kOf x) : Int) = (↑(kOf x) : Int) ∧ True) ∧
 ∀ (x_3 : Nat),
 x_3 ≤ (2 : Nat) ^ kOf x →
 ((0 : Int) ≤ (↑(kOf x) : Int) ∧ (↑(kOf x) : Int) < (64 : Int)) ∧
 Fits IntKind.i64 ((1 : Int) * (2 : Int) ^ (↑(kOf x) : Int).toNat) ∧
 ((↑x_3 : Int) < (1 : Int) * (2 : Int) ^ (↑(kOf x) : Int).toNat →
 (↑x_3 : Int) < (1 : Int) * (2 : Int) ^ (↑(kOf x) : Int).toNat ∧
 Fits IntKind.i64 ((↑x_3 : Int) + (1 : Int)) ∧
 ((0 : Int) ≤ (↑(codeTo (↑x_2 : Int).toNat x_3).snd : Int) ∧ (0 : Int) < (↑x_3 : Int) + (1 : Int)) ∧
 Small ((codeTo (↑x_2 : Int).toNat x_3).fst.length + ((0 : Nat) + (1 : Nat))) ∧
 Fits IntKind.i64 ((↑x_3 : Int) + (1 : Int)) ∧
 ((0 : Int) ≤ (↑(codeTo (↑x_2 : Int).toNat x_3).snd : Int) ∧ (0 : Int) < (↑x_3 : Int) + (1 : Int)) ∧
 Fits IntKind.i64 ((↑(codeTo (↑x_2 : Int).toNat x_3).snd : Int) / ((↑x_3 : Int) + (1 : Int))) ∧
 Fits IntKind.i64 ((↑x_3 : Int) + (1 : Int)) ∧
 ∃ (x' : Nat),
 x' ≤ (2 : Nat) ^ kOf x ∧
 (2 : Nat) ^ kOf x - x' < (2 : Nat) ^ kOf x - x_3 ∧
 ((codeTo (↑x_2 : Int).toNat x_3).fst ++
 [IntKind.u8.wrap ((↑(codeTo (↑x_2 : Int).toNat x_3).snd : Int) % ((↑x_3 : Int) + (1 : Int)))] =
 (codeTo (↑x_2 : Int).toNat x').fst ∧
 True) ∧
 (↑x_3 : Int) + (1 : Int) = (↑x' : Int) ∧
 (↑(codeTo (↑x_2 : Int).toNat x_3).snd : Int) / ((↑x_3 : Int) + (1 : Int)) =
 (↑(codeTo (↑x_2 : Int).toNat x').snd : Int) ∧
 True ∧
 (↑x_2 : Int) = (↑x_2 : Int) ∧
 (↑(sumTo (kOf x) x_2) : Int) = (↑(sumTo (kOf x) x_2) : Int) ∧
 (↑(facN ((2 : Nat) ^ kOf x)) : Int) = (↑(facN ((2 : Nat) ^ kOf x)) : Int) ∧
 (↑(kOf x) : Int) = (↑(kOf x) : Int) ∧ True) ∧
 (¬(↑x_3 : Int) < (1 : Int) * (2 : Int) ^ (↑(kOf x) : Int).toNat →
 ¬(↑x_3 : Int) < (1 : Int) * (2 : Int) ^ (↑(kOf x) : Int).toNat ∧
 ((0 : Int) ≤ (↑(kOf x) : Int) ∧ (↑(kOf x) : Int) < (64 : Int)) ∧
 Fits IntKind.i64 ((1 : Int) * (2 : Int) ^ (↑(kOf x) : Int).toNat) ∧
 (((0 : Int) ≤ (1 : Int) * (2 : Int) ^ (↑(kOf x) : Int).toNat ∧ (1 : Int) * (2 : Int) ^ (↑(kOf x) : Int).toNat ≤ (100 : Int)) ∧
 (codeTo (↑x_2 : Int).toNat x_3).fst.length ≤ maxLen ∧
 ∀ (b : Int), b ∈ (codeTo (↑x_2 : Int).toNat x_3).fst → (0 : Int) ≤ b ∧ b ≤ (255 : Int)) ∧
 (nthTo (codeTo (↑x_2 : Int).toNat x_3).fst ((1 : Int) * (2 : Int) ^ (↑(kOf x) : Int).toNat).toNat).length ≤ (1000 : Nat) ∧
 (¬(waysF (↑(kOf x) : Int)
 (nthTo (codeTo (↑x_2 : Int).toNat x_3).fst ((1 : Int) * (2 : Int) ^ (↑(kOf x) : Int).toNat).toNat)).snd =
 (0 : Int) →
 ¬(waysF (↑(kOf x) : Int)
 (nthTo (codeTo (↑x_2 : Int).toNat x_3).fst ((1 : Int) * (2 : Int) ^ (↑(kOf x) : Int).toNat).toNat)).snd =
 (0 : Int) ∧
 ¬(waysF (↑(kOf x) : Int)
 (nthTo (codeTo (↑x_2 : Int).toNat x_3).fst ((1 : Int) * (2 : Int) ^ (↑(kOf x) : Int).toNat).toNat)).snd =
 (0 : Int) ∧
 false = true) ∧
 (¬¬(waysF (↑(kOf x) : Int)
 (nthTo (codeTo (↑x_2 : Int).toNat x_3).fst ((1 : Int) * (2 : Int) ^ (↑(kOf x) : Int).toNat).toNat)).snd =
 (0 : Int) →
 ¬¬(waysF (↑(kOf x) : Int)
 (nthTo (codeTo (↑x_2 : Int).toNat x_3).fst ((1 : Int) * (2 : Int) ^ (↑(kOf x) : Int).toNat).toNat)).snd =
 (0 : Int) ∧
 ¬¬(waysF (↑(kOf x) : Int)
 (nthTo (codeTo (↑x_2 : Int).toNat x_3).fst
 ((1 : Int) * (2 : Int) ^ (↑(kOf x) : Int).toNat).toNat)).snd =
 (0 : Int) ∧
 ((waysF (↑(kOf x) : Int)
 (nthTo (codeTo (↑x_2 : Int).toNat x_3).fst
 ((1 : Int) * (2 : Int) ^ (↑(kOf x) : Int).toNat).toNat)).fst <
 (1 : Int) →
 (waysF (↑(kOf x) : Int)
 (nthTo (codeTo (↑x_2 : Int).toNat x_3).fst
 ((1 : Int) * (2 : Int) ^ (↑(kOf x) : Int).toNat).toNat)).fst <
 (1 : Int) ∧
 (waysF (↑(kOf x) : Int)
 (nthTo (codeTo (↑x_2 : Int).toNat x_3).fst
 ((1 : Int) * (2 : Int) ^ (↑(kOf x) : Int).toNat).toNat)).fst <
 (1 : Int) ∧
 false = true) ∧
 (¬(waysF (↑(kOf x) : Int)
 (nthTo (codeTo (↑x_2 : Int).toNat x_3).fst
 ((1 : Int) * (2 : Int) ^ (↑(kOf x) : Int).toNat).toNat)).fst <
 (1 : Int) →
 ¬(waysF (↑(kOf x) : Int)
 (nthTo (codeTo (↑x_2 : Int).toNat x_3).fst
 ((1 : Int) * (2 : Int) ^ (↑(kOf x) : Int).toNat).toNat)).fst <
 (1 : Int) ∧
 ¬(waysF (↑(kOf x) : Int)
 (nthTo (codeTo (↑x_2 : Int).toNat x_3).fst
 ((1 : Int) * (2 : Int) ^ (↑(kOf x) : Int).toNat).toNat)).fst <
 (1 : Int) ∧
 Fits IntKind.i64
 ((↑(sumTo (kOf x) x_2) : Int) +
 (waysF (↑(kOf x) : Int)
 (nthTo (codeTo (↑x_2 : Int).toNat x_3).fst
 ((1 : Int) * (2 : Int) ^ (↑(kOf x) : Int).toNat).toNat)).fst) ∧
 Fits IntKind.i64 ((↑x_2 : Int) + (1 : Int)) ∧
 ∃ (x' : Nat),
 x' ≤ facN ((2 : Nat) ^ kOf x) ∧
 facN ((2 : Nat) ^ kOf x) - x' < facN ((2 : Nat) ^ kOf x) - x_2 ∧
 True ∧
 (↑x_2 : Int) + (1 : Int) = (↑x' : Int) ∧
 (↑(sumTo (kOf x) x_2) : Int) +
 (waysF (↑(kOf x) : Int)
 (nthTo (codeTo (↑x_2 : Int).toNat x_3).fst
 ((1 : Int) * (2 : Int) ^ (↑(kOf x) : Int).toNat).toNat)).fst =
 (↑(sumTo (kOf x) x') : Int) ∧
 (↑(facN ((2 : Nat) ^ kOf x)) : Int) = (↑(facN ((2 : Nat) ^ kOf x)) : Int) ∧
 (↑(kOf x) : Int) = (↑(kOf x) : Int) ∧ True)))) ∧
 (¬(↑x_2 : Int) < (↑(facN ((2 : Nat) ^ kOf x)) : Int) →
 ¬(↑x_2 : Int) < (↑(facN ((2 : Nat) ^ kOf x)) : Int) ∧
 True ∧
 ((1 : Int) ≤ (↑(kOf x) : Int) ∧ (↑(kOf x) : Int) ≤ (3 : Int)) ∧
 ((0 : Int) ≤ switchesF (↑(kOf x) : Int) ∧ switchesF (↑(kOf x) : Int) < (64 : Int)) ∧
 Fits IntKind.i64 ((1 : Int) * (2 : Int) ^ (switchesF (↑(kOf x) : Int)).toNat) ∧
 ((↑(sumTo (kOf x) x_2) : Int) = (1 : Int) * (2 : Int) ^ (switchesF (↑(kOf x) : Int)).toNat →
 (↑(sumTo (kOf x) x_2) : Int) = (1 : Int) * (2 : Int) ^ (switchesF (↑(kOf x) : Int)).toNat ∧
 (↑(sumTo (kOf x) x_2) : Int) = (1 : Int) * (2 : Int) ^ (switchesF (↑(kOf x) : Int)).toNat ∧
 ((waksF (↑(kOf x) : Int)).snd = (0 : Int) →
 (waksF (↑(kOf x) : Int)).snd = (0 : Int) ∧
 (waksF (↑(kOf x) : Int)).snd = (0 : Int) ∧
 (waksF (↑(kOf x) : Int)).snd = (0 : Int) ∧
 ((0 : Int) ≤ (waksF (↑(kOf x) : Int)).fst ∧ (waksF (↑(kOf x) : Int)).fst < (64 : Int)) ∧
 Fits IntKind.i64 ((1 : Int) * (2 : Int) ^ (waksF (↑(kOf x) : Int)).fst.toNat) ∧
 ((↑(facN ((2 : Nat) ^ kOf x)) : Int) ≤ (1 : Int) * (2 : Int) ^ (waksF (↑(kOf x) : Int)).fst.toNat →
 (↑(facN ((2 : Nat) ^ kOf x)) : Int) ≤ (1 : Int) * (2 : Int) ^ (waksF (↑(kOf x) : Int)).fst.toNat ∧
 (↑(facN ((2 : Nat) ^ kOf x)) : Int) ≤ (1 : Int) * (2 : Int) ^ (waksF (↑(kOf x) : Int)).fst.toNat ∧
 (↑(facN ((2 : Nat) ^ kOf x)) : Int) ≤ (1 : Int) * (2 : Int) ^ (waksF (↑(kOf x) : Int)).fst.toNat ∧
 True ∧ true = true) ∧
 (¬(↑(facN ((2 : Nat) ^ kOf x)) : Int) ≤ (1 : Int) * (2 : Int) ^ (waksF (↑(kOf x) : Int)).fst.toNat →
 ¬(↑(facN ((2 : Nat) ^ kOf x)) : Int) ≤ (1 : Int) * (2 : Int) ^ (waksF (↑(kOf x) : Int)).fst.toNat ∧
 ¬(↑(facN ((2 : Nat) ^ kOf x)) : Int) ≤ (1 : Int) * (2 : Int) ^ (waksF (↑(kOf x) : Int)).fst.toNat ∧
 ¬(↑(facN ((2 : Nat) ^ kOf x)) : Int) ≤ (1 : Int) * (2 : Int) ^ (waksF (↑(kOf x) : Int)).fst.toNat ∧
 false = true)) ∧
 (¬(waksF (↑(kOf x) : Int)).snd = (0 : Int) →
 ¬(waksF (↑(kOf x) : Int)).snd = (0 : Int) ∧
 ¬(waksF (↑(kOf x) : Int)).snd = (0 : Int) ∧ ¬(waksF (↑(kOf x) : Int)).snd = (0 : Int) ∧ false = true)) ∧
 (¬(↑(sumTo (kOf x) x_2) : Int) = (1 : Int) * (2 : Int) ^ (switchesF (↑(kOf x) : Int)).toNat →
 ¬(↑(sumTo (kOf x) x_2) : Int) = (1 : Int) * (2 : Int) ^ (switchesF (↑(kOf x) : Int)).toNat ∧
 ¬(↑(sumTo (kOf x) x_2) : Int) = (1 : Int) * (2 : Int) ^ (switchesF (↑(kOf x) : Int)).toNat ∧ false = true)))) := by
 kernel_rfl

end Go.SX.Pa

/- Chapter 06 in plain words, part M: the multigraph of a permutation of a Clos network has degree n. -/
namespace Go.SX.Pa

theorem net_ok {x : Int × Int × Int} (h : Byte3 x) : ClosP (netF x).1 (netF x).2.1 (netF x).2.2 ∧ 1 ≤ (netF x).1 * (netF x).2.1 ∧ (netF x).1 * (netF x).2.1 ≤ 12 := by
  obtain ⟨a, b, c⟩ := x
  obtain ⟨ha, hb, hc⟩ := h
  simp only at ha hb hc
  unfold netF
  simp only
  have h1 : 0 ≤ a % 12 := Int.emod_nonneg _ (by omega)
  have h2 : a % 12 < 12 := Int.emod_lt_of_pos _ (by omega)
  generalize hn : a % 12 + 1 = n
  have hn1 : 1 ≤ n := by omega
  have hn2 : n ≤ 12 := by omega
  have h3 : 1 ≤ 12 / n := Int.le_ediv_of_mul_le (by omega) (by omega)
  have h4 : 12 / n * n ≤ 12 := Int.ediv_mul_le _ (by omega)
  have h5 : 0 ≤ b % (12 / n) := Int.emod_nonneg _ (by omega)
  have h6 : b % (12 / n) < 12 / n := Int.emod_lt_of_pos _ (by omega)
  generalize b % (12 / n) = r at h5 h6 ⊢
  have h7 : n * (r + 1) ≤ n * (12 / n) := Int.mul_le_mul_of_nonneg_left (by omega) (by omega)
  have h8 : n * 1 ≤ n * (r + 1) := Int.mul_le_mul_of_nonneg_left (by omega) (by omega)
  have h9 : 1 * (r + 1) ≤ n * (r + 1) := Int.mul_le_mul_of_nonneg_right (by omega) (by omega)
  rw [Int.mul_comm n (12 / n)] at h7
  unfold ClosP
  omega

theorem div_eq_iff' {i n v : Int} (hn : 0 < n) : i / n = v ↔ v * n ≤ i ∧ i < v * n + n := by
  constructor
  · rintro rfl
    have h1 := Int.ediv_mul_le i (b := n) (by omega)
    have h2 := Int.lt_ediv_add_one_mul_self i hn
    rw [Int.add_mul, Int.one_mul] at h2
    omega
  · rintro ⟨h1, h2⟩
    apply Int.le_antisymm
    · exact Int.lt_add_one_iff.1 (Int.ediv_lt_of_lt_mul hn (by rw [Int.add_mul, Int.one_mul]; exact h2))
    · exact Int.le_ediv_of_mul_le hn h1

/-- Numbers of the same n-block: at most n of them. -/
theorem block_le {n v : Int} (hn : 0 < n) (l : List Int) (hl : l.Nodup) (h : ∀ x ∈ l, x / n = v) : (l.length : Int) ≤ n := by
  have := List.Nodup.length_le_of_subset hl (l₂ := (List.range n.toNat).map fun i : Nat => v * n + (i : Int)) fun x hx => by
    have := (div_eq_iff' hn).1 (h x hx)
    exact List.mem_map.2 ⟨(x - v * n).toNat, List.mem_range.2 (by omega), by omega⟩
  rw [List.length_map, List.length_range] at this
  omega

theorem edgesF_getD {n : Int} {perm : List Int} {i : Nat} (h : i < perm.length) : (edgesF n perm).getD i (0, 0) = ((i : Int) / n, perm.getD i 0 / n) := by
  unfold edgesF edgesTo
  simp [List.getD, h]

theorem cntN_mono (a : Nat → Int) (v : Int) {j k : Nat} (h : j ≤ k) : cntN a v j ≤ cntN a v k := by
  induction k with
  | zero => rw [Nat.le_zero.1 h]; exact Nat.le_refl _
  | succ k ih =>
    by_cases e : j = k + 1
    · rw [e]; exact Nat.le_refl _
    · have := ih (by omega)
      rw [cntN_succ]; omega

section
variable {n r : Int} {perm : List Int}
theorem perm_degA (hn : 1 ≤ n) (v : Int) : (cntN (endA (edgesF n perm)) v perm.length : Int) ≤ n := by
  unfold cntN
  rw [List.countP_eq_length_filter]
  have := block_le (n := n) (v := v) (by omega) (((List.range perm.length).filter fun i => decide (endA (edgesF n perm) i = v)).map fun i : Nat => (i : Int)) (by
    refine List.pairwise_map.2 (List.Pairwise.imp ?_ (List.nodup_range.filter _))
    intro a b hab he
    exact hab (by omega)) (fun x hx => by
    obtain ⟨i, hi, rfl⟩ := List.mem_map.1 hx
    obtain ⟨h1, h2⟩ := List.mem_filter.1 hi
    have h2 : endA (edgesF n perm) i = v := by simpa using h2
    unfold endA at h2
    rw [edgesF_getD (List.mem_range.1 h1)] at h2
    exact h2)
  rwa [List.length_map] at this
theorem perm_degB (hn : 1 ≤ n) (hp : PermP perm (n * r)) (v : Int) : (cntN (endB (edgesF n perm)) v perm.length : Int) ≤ n := by
  unfold cntN
  rw [List.countP_eq_length_filter]
  obtain ⟨_, _, hnd⟩ := hp
  have := block_le (n := n) (v := v) (by omega) (((List.range perm.length).filter fun i => decide (endB (edgesF n perm) i = v)).map fun i : Nat => perm.getD i 0) (by
    refine List.pairwise_map.2 (List.Pairwise.imp_of_mem ?_ (List.nodup_range.filter _))
    intro a b ha hb hab he
    have h1 := List.mem_range.1 (List.mem_filter.1 ha).1
    have h2 := List.mem_range.1 (List.mem_filter.1 hb).1
    rw [List.getD_eq_getElem?_getD, List.getD_eq_getElem?_getD, List.getElem?_eq_getElem h1, List.getElem?_eq_getElem h2] at he
    simp only [Option.getD_some] at he
    exact hab ((List.getElem_inj hnd).1 he)) (fun x hx => by
    obtain ⟨i, hi, rfl⟩ := List.mem_map.1 hx
    obtain ⟨h1, h2⟩ := List.mem_filter.1 hi
    have h2 : endB (edgesF n perm) i = v := by simpa using h2
    unfold endB at h2
    rw [edgesF_getD (List.mem_range.1 h1)] at h2
    exact h2)
  rwa [List.length_map] at this
theorem perm_degA0 (hn : 1 ≤ n) (hr : 1 ≤ r) (hp : PermP perm (n * r)) : n ≤ (cntN (endA (edgesF n perm)) 0 perm.length : Int) := by
  unfold cntN
  rw [List.countP_eq_length_filter]
  obtain ⟨hl, _, _⟩ := hp
  have hnr : n * 1 ≤ n * r := Int.mul_le_mul_of_nonneg_left hr (by omega)
  have := List.Nodup.length_le_of_subset (l₁ := List.range n.toNat) (l₂ := (List.range perm.length).filter fun i => decide (endA (edgesF n perm) i = 0)) List.nodup_range fun i hi => by
    have hi' := List.mem_range.1 hi
    refine List.mem_filter.2 ⟨List.mem_range.2 (by omega), ?_⟩
    rw [decide_eq_true_eq]
    unfold endA
    rw [edgesF_getD (by omega)]
    exact Int.ediv_eq_zero_of_lt (by omega) (by omega)
  rw [List.length_range] at this
  omega
theorem perm_deg (hn : 1 ≤ n) (hr : 1 ≤ r) (hp : PermP perm (n * r)) : degF (edgesF n perm) = n := by
  have hl : (edgesF n perm).length = perm.length := edgesF_length _ _
  have h1 := (degTo_ge (edgesF n perm) perm.length (by omega) 0).1
  have h2 := perm_degA0 hn hr hp
  have he : degF (edgesF n perm) = (degTo (edgesF n perm) perm.length).2.2 := by unfold degF; rw [hl]
  apply Int.le_antisymm
  · rw [he]
    rcases degTo_at (edgesF n perm) perm.length (by omega) with h | ⟨v, j, hj, h⟩ | ⟨v, j, hj, h⟩
    · omega
    · have := perm_degA (perm := perm) hn v
      have hm : cntN (endA (edgesF n perm)) v j ≤ cntN (endA (edgesF n perm)) v perm.length := cntN_mono _ _ hj
      omega
    · have := perm_degB hn hp v
      have hm : cntN (endB (edgesF n perm)) v j ≤ cntN (endB (edgesF n perm)) v perm.length := cntN_mono _ _ hj
      omega
  · omega
end
end Go.SX.Pa

/- Chapter 06, part 13: contracts: the makers of inputs; PatchKonig, PatchEdges, PatchCount. -/
namespace Go.SX.Pa
open Go Go.Proofs

theorem graphTo_succ (x : List Ed) (k : Nat) (h : k < x.length) : graphTo x (k + 1) = graphTo x k ++ [((x.getD k (0, 0)).1 % 6, (x.getD k (0, 0)).2 % 6)] := by
  unfold graphTo; rw [take_snoc x (0, 0) k h, List.map_append]; rfl
theorem graphTo_length (x : List Ed) (k : Nat) : (graphTo x k).length ≤ k := by unfold graphTo; simp; omega
theorem graphX_ok {x : List Ed} (h : ∀ p ∈ x, Byte2 p) : (graphX x).length ≤ 12 ∧ ∀ e ∈ graphX x, (0 ≤ e.1 ∧ e.1 < 6) ∧ 0 ≤ e.2 ∧ e.2 < 6 := by
  refine ⟨graphTo_length x 12, fun e he => ?_⟩
  obtain ⟨p, hp, rfl⟩ := List.mem_map.1 he
  have := h p (List.mem_of_mem_take hp)
  unfold Byte2 at this
  simp only
  omega

theorem ok33 : p33.OK Tryd.prog := p33.ok C33 (fun _ => cx0) (fn := Tryd.f33) rfl (by decide +kernel) rfl fun (x : List Ed) hp => by
  refine (g33_eq x).mpr ?_
  have hp : x.length ≤ maxLen ∧ ∀ p ∈ x, Byte2 p := hp
  simp only [pp1, eq_self, and_true, true_and, and_self, Int.toNat_natCast]
  refine ⟨⟨0, by omega, rfl, rfl⟩, fun k hk => ⟨fun h1 => ⟨fun h2 => ?_, fun h2 => ?_⟩, fun h1 => ?_⟩⟩
  · have hk' : k < x.length := by omega
    have hb := hp.2 _ (getD_mem x (0, 0) hk')
    unfold Byte2 at hb
    have hl := graphTo_length x k
    refine ⟨by omega, fits_i64 (by omega) (by omega), by omega, by omega, fits_i64 (by omega) (by omega), by omega, ?_, fits_i64 (by omega) (by omega), k + 1, by omega, by omega, (graphTo_succ x k hk').symm, by omega⟩
    unfold Small; omega
  · rw [show k = 12 by omega]; rfl
  · unfold graphX graphTo
    rw [List.take_of_length_le (by omega), List.take_of_length_le (by omega)]

theorem ok36 : p36.OK Tryd.prog := p36.ok C36 (fun _ => cx1 (PC.OK.ci ok21)) (fn := Tryd.f36) rfl (by decide +kernel) rfl fun (p : List Int × Int × Int) hp => by
  obtain ⟨l, n, r⟩ := p
  refine (g36_eq l n r).mpr ?_
  have hp : l.length ≤ 1000 ∧ -1000 ≤ r ∧ r ≤ 1000 := hp
  simp only [pp1, eq_self, and_true, true_and, and_self, Int.toNat_natCast]
  refine ⟨⟨0, ⟨by omega, fun x hx => by simp at hx⟩, rfl⟩, fun k hk => ⟨fun h1 => ?_, fun h1 => ?_⟩⟩
  · have hk' : k < l.length := by omega
    refine ⟨by omega, fits_i64 (by omega) (by omega), fun h2 => ?_, fun h2 => ⟨fits_nat (by omega), k + 1, ⟨by omega, fun y hy => ?_⟩, by omega, by omega⟩⟩
    · symm
      rw [decide_eq_false_iff_not]
      rintro ⟨h3, _⟩
      have := h3 _ (getD_mem l 0 hk')
      rw [Bool.not_eq_true', decide_eq_false_iff_not] at h2
      omega
    · rw [Bool.not_eq_false', decide_eq_true_eq] at h2
      rcases (take_mem l 0 y k hk').1 hy with h3 | h3
      · exact hk.2 y h3
      · omega
  · have : k = l.length := by omega
    subst this
    rw [List.take_length] at hk
    apply decide_eq_decide.2
    exact ⟨fun h => ⟨hk.2, h⟩, fun h => h.2⟩
theorem ok37 : p37.OK Tryd.prog := p37.ok (fun _ => cx [] []) (fun _ => cx0) (fn := Tryd.f37) rfl (by decide +kernel) rfl fun (x : Int × Int × Int) hx => by
  obtain ⟨a, b, c⟩ := x
  have hx : Byte3 (a, b, c) := hx
  refine (g37_eq (a, b, c)).mpr ?_
  have hn := net_ok hx
  unfold Byte3 at hx
  unfold netF ClosP at hn
  simp only at hx hn ⊢
  have h3 : 1 ≤ 12 / (a % 12 + 1) := Int.le_ediv_of_mul_le (by omega) (by omega)
  have h4 : 12 / (a % 12 + 1) * (a % 12 + 1) ≤ 12 := Int.ediv_mul_le _ (by omega)
  have h5 : 12 / (a % 12 + 1) * 1 ≤ 12 / (a % 12 + 1) * (a % 12 + 1) := Int.mul_le_mul_of_nonneg_left (by omega) (by omega)
  refine ⟨fits_i64 (by omega) (by omega), by omega, fits_i64 (by omega) (by omega), fits_i64 (by omega) (by omega), by omega, fits_i64 (by omega) (by omega), by omega, fits_i64 (by omega) (by omega), fits_i64 (by omega) (by omega), by omega, fits_i64 (by omega) (by omega), rfl⟩

/-! ### PatchKonig -/
theorem colors_found {a : Int} {es : List Ed} (ha : 1 ≤ a) (ha6 : a ≤ 6) (hl : es.length ≤ 12) (hb : ∀ e ∈ es, (0 ≤ e.1 ∧ e.1 < a) ∧ 0 ≤ e.2 ∧ e.2 < a) : ∃ l, colorsF a a es = (l, 0) ∧ colF es (degF es) = some l ∧ GoodC es (degF es) l := by
  obtain ⟨l, h⟩ := colF_some (es := es) (Int.le_refl _)
  refine ⟨l, ?_, h, colF_good (degF_bound es).1 h⟩
  unfold colorsF
  rw [if_neg (by omega), if_neg, h]
  · rfl
  · rintro (h1 | h1 | h1)
    · omega
    · omega
    · obtain ⟨e, he, h2⟩ := List.any_eq_true.1 h1
      have := hb e he
      unfold badEd at h2
      rw [decide_eq_true_eq] at h2
      omega
theorem good_proper {es : List Ed} {m : Int} {l : List Int} (h : GoodC es m l) : properF es l = true := proper_good h.2.2

theorem ok6 : p6.OK Tryd.prog := p6.ok C6 (fun _ => cx_ok (cs := [p33.ci, p26.ci, p34.ci, p35.ci, p30.ci, p36.ci, p25.ci]) ⟨PC.OK.ci ok33, PC.OK.ci ok26, PC.OK.ci ok34, PC.OK.ci ok35, PC.OK.ci ok30, PC.OK.ci ok36, PC.OK.ci ok25, trivial⟩ _) (fn := Tryd.f6) rfl (by decide +kernel) rfl fun (x : List Ed) hp => by
  refine (g6_eq x).mpr ?_
  have hp : x.length ≤ maxLen ∧ ∀ p ∈ x, Byte2 p := hp
  obtain ⟨h1, h2⟩ := graphX_ok hp.2
  obtain ⟨l, h3, h4, h5⟩ := colors_found (a := 6) (by omega) (by omega) h1 h2
  have h6 := good_proper h5
  have h7 := seen_deg h4
  have h8 := degF_degR (graphX x) h2
  have h9 := degF_bound (graphX x)
  obtain ⟨g1, g2, g3⟩ := h5
  simp only [pp1, eq_self, and_true, true_and, and_self, Int.toNat_natCast, h3]
  rw [h8] at g2 h7 h9
  refine ⟨hp, by omega, ⟨0, by omega, rfl, rfl⟩, fun k hk => ⟨fun q1 => ?_, fun q1 => ?_⟩⟩
  · have hk' : k < l.length := by omega
    have hs := seenF_succ l k hk'
    have hsl := seenF_length (l.take k)
    have htl : (l.take k).length ≤ k := by simp; omega
    refine ⟨by omega, by omega, fun q2 => ⟨by omega, by unfold Small; omega, fits_nat (by omega), k + 1, by omega, by omega, ?_, by omega⟩, fun q2 => ⟨fits_nat (by omega), k + 1, by omega, by omega, ?_, by omega⟩⟩
    · rw [hs, if_neg (by simpa using q2)]
    · rw [hs, if_pos (by simpa using q2)]
  · have hk' : k = l.length := by omega
    subst hk'
    rw [List.take_length, h7]
    refine yes trivial (yes (by omega) ⟨by omega, yesB h6 ⟨by omega, yes rfl ⟨by omega, by omega, fun h => h, fun h => ?_⟩⟩⟩)
    rw [decide_eq_false_iff_not] at h
    exact absurd ⟨fun y hy => by have := g2 y hy; omega, by omega⟩ h

/-! ### PatchEdges -/
theorem badEd_no {a : Int} {es : List Ed} (h : ∀ e ∈ es, (0 ≤ e.1 ∧ e.1 < a) ∧ 0 ≤ e.2 ∧ e.2 < a) : es.any (badEd a a) = false := by
  rw [List.any_eq_false]
  intro e he h2
  have := h e he
  unfold badEd at h2
  rw [decide_eq_true_eq] at h2
  omega
theorem edgesF_in {n r : Int} {perm : List Int} (hn : 1 ≤ n) (hp : PermP perm (n * r)) : ∀ e ∈ edgesF n perm, (0 ≤ e.1 ∧ e.1 < r) ∧ 0 ≤ e.2 ∧ e.2 < r := by
  intro e he
  obtain ⟨hl, hb, _⟩ := hp
  unfold edgesF edgesTo at he
  obtain ⟨i, hi, rfl⟩ := List.mem_map.1 he
  have hi' := List.mem_range.1 hi
  have hx := hb _ (getD_mem perm 0 hi')
  have key : ∀ y : Int, 0 ≤ y → y < n * r → 0 ≤ y / n ∧ y / n < r := fun y h0 h1 => ⟨Int.ediv_nonneg h0 (by omega), Int.ediv_lt_of_lt_mul (by omega) (by rw [Int.mul_comm]; exact h1)⟩
  exact ⟨key _ (by omega) (by omega), key _ hx.1 hx.2⟩
theorem route_found {n r m : Int} {perm : List Int} (hc : ClosP n r m) (hp : PermP perm (n * r)) (hm : n ≤ m) : ∃ l, routeF n r m perm = (l, 0) ∧ colF (edgesF n perm) m = some l ∧ GoodC (edgesF n perm) m l := by
  have hc' := hc
  obtain ⟨c1, c2, c3, c4⟩ := hc'
  have hd := perm_deg c1.1 c2.1 hp
  obtain ⟨l, h⟩ := colF_some (es := edgesF n perm) (m := m) (by omega)
  refine ⟨l, ?_, h, colF_good (by omega) h⟩
  unfold routeF
  rw [if_pos hc, if_pos hp, h]
theorem edges_found {n r : Int} {perm : List Int} (hc : ClosP n r n) (h6 : r ≤ 6) (hp : PermP perm (n * r)) : ∃ l, routeF n r n perm = (l, 0) ∧ colorsF r r (edgesF n perm) = (l, 0) ∧ GoodC (edgesF n perm) n l := by
  obtain ⟨l, h1, h2, h3⟩ := route_found hc hp (Int.le_refl n)
  obtain ⟨c1, c2, c3, c4⟩ := hc
  have hd := perm_deg c1.1 c2.1 hp
  have hl := edgesF_length n perm
  have hpl := hp.1
  refine ⟨l, h1, ?_, h3⟩
  unfold colorsF
  rw [if_neg (by omega), if_neg, hd, h2]
  · rfl
  · rintro (q | q | q)
    · omega
    · omega
    · rw [badEd_no (edgesF_in c1.1 hp)] at q; cases q
theorem edgesTo_succ' (n : Int) (perm : List Int) (k : Nat) : edgesTo n perm (k + 1) = edgesTo n perm k ++ [((k : Int) / n, perm.getD k 0 / n)] := by
  unfold edgesTo; rw [List.range_succ, List.map_append]; rfl

theorem ok7 : p7.OK Tryd.prog := p7.ok C7 (fun _ => cx_ok (cs := [p37.ci, p25.ci, p31.ci, p38.ci, p26.ci, p28.ci, p35.ci]) ⟨PC.OK.ci ok37, PC.OK.ci ok25, PC.OK.ci ok31, PC.OK.ci ok38, PC.OK.ci ok26, PC.OK.ci ok28, PC.OK.ci ok35, trivial⟩ _) (fn := Tryd.f7) rfl (by decide +kernel) rfl fun (p : (Int × Int × Int) × List Int) hp => by
  obtain ⟨x, code⟩ := p
  refine (g7_eq x code).mpr ?_
  have hp : Byte3 x ∧ Bytes code := hp
  have hnet := net_ok hp.1
  simp only [pp1, eq_self, and_true, true_and, and_self, Int.toNat_natCast, List.drop_zero, peta]
  generalize netF x = N at hnet ⊢
  obtain ⟨n, r, m⟩ := N
  simp only at hnet ⊢
  obtain ⟨hc, hN1, hN2⟩ := hnet
  have hperm := nth_perm code (n * r).toNat
  rw [Int.toNat_of_nonneg (by omega)] at hperm
  generalize nthTo code (n * r).toNat = perm at hperm ⊢
  have hpl := hperm.1
  refine ⟨hp.1, fun h => h, fun h6 => ⟨fits_i64 (by omega) (by omega), ⟨by omega, hp.2⟩, ⟨0, by omega, rfl, rfl⟩, fun k hk => ⟨fits_i64 (by omega) (by omega), fun q1 => ?_, fun q1 => ?_⟩⟩⟩
  · have hk' : k < perm.length := by omega
    have hb := hperm.2.1 _ (getD_mem perm 0 hk')
    have c1 := hc.1
    have d1 : (k : Int) / n ≤ k := Int.ediv_le_self _ (by omega)
    have d2 : perm.getD k 0 / n ≤ perm.getD k 0 := Int.ediv_le_self _ (by omega)
    have d3 : 0 ≤ (k : Int) / n := Int.ediv_nonneg (by omega) (by omega)
    have d4 : 0 ≤ perm.getD k 0 / n := Int.ediv_nonneg (by omega) (by omega)
    refine ⟨by omega, fits_i64 (by omega) (by omega), by omega, by omega, fits_i64 (by omega) (by omega), ?_, fits_nat (by omega), k + 1, by omega, by omega, (edgesTo_succ' n perm k).symm, by omega⟩
    rw [edgesTo_length]; unfold Small; omega
  · have hk' : k = perm.length := by omega
    subst hk'
    obtain ⟨l, h1, h2, h3⟩ := edges_found (r := r) (perm := perm) (n := n) ⟨hc.1, hc.2.1, hc.2.2.1, hc.1⟩ (by omega) hperm
    have hl := edgesF_length n perm
    have he : edgesTo n perm perm.length = edgesF n perm := rfl
    rw [he, h1, h2]
    have hg := good_proper h3
    have hgl := h3.1
    refine ⟨by omega, by omega, yes rfl (yes rfl ⟨⟨by simp only; omega, by simp only; omega⟩, yesB (decide_eq_true rfl) ⟨⟨by omega, by simp only; omega⟩, fun h => h, fun h => ?_⟩⟩)⟩
    rw [show (l, (0 : Int)).1 = l from rfl, hg] at h
    cases h
end Go.SX.Pa

/- Chapter 06, part 14: PatchCount: its contract. -/
namespace Go.SX.Pa
open Go Go.Proofs

theorem count_one : (∀ p, p < 2 → 1 ≤ waysTo 1 (permAt 1 p) (2 ^ swN 1)) ∧ sumTo 1 2 = 2 ^ swN 1 := by decide +kernel
theorem count_two : (∀ p, p < 24 → 1 ≤ waysTo 2 (permAt 2 p) (2 ^ swN 2)) ∧ sumTo 2 24 = 2 ^ swN 2 := by decide +kernel
theorem kOf_cases {x : Int} (_h : 0 ≤ x ∧ x ≤ 255) : x % 2 + 1 = (kOf x : Nat) ∧ (kOf x = 1 ∨ kOf x = 2) := by
  have h1 : 0 ≤ x % 2 := Int.emod_nonneg _ (by omega)
  have h2 : x % 2 < 2 := Int.emod_lt_of_pos _ (by omega)
  unfold kOf
  omega
theorem codeTo_length (p : Nat) : (i : Nat) → (codeTo p i).1.length = i
  | 0 => rfl
  | i + 1 => by simp [codeTo, codeTo_length p i]
theorem codeTo_in (p : Nat) : (i : Nat) → i ≤ 255 → ∀ b ∈ (codeTo p i).1, 0 ≤ b ∧ b ≤ 255
  | 0, _, b, h => by simp [codeTo] at h
  | i + 1, hi, b, h => by
    simp only [codeTo, List.mem_append, List.mem_singleton] at h
    rcases h with h | h
    · exact codeTo_in p i (by omega) b h
    · have : (codeTo p i).2 % (i + 1) < i + 1 := Nat.mod_lt _ (by omega)
      omega
theorem codeTo_rest (p : Nat) : (i : Nat) → (codeTo p i).2 ≤ p
  | 0 => Nat.le_refl _
  | i + 1 => Nat.le_trans (Nat.div_le_self _ _) (codeTo_rest p i)
theorem sumTo_le (K : Nat) : (p : Nat) → sumTo K p ≤ p * 2 ^ swN K
  | 0 => Nat.zero_le _
  | p + 1 => by
    have h1 := sumTo_le K p
    have h2 := waysTo_le K (permAt K p) (2 ^ swN K)
    rw [Nat.add_mul, Nat.one_mul]
    show sumTo K p + _ ≤ _
    omega
theorem facN_le : ∀ i, i ≤ 5 → facN i ≤ 120 := by decide
theorem facN_step {i : Nat} (h : 1 ≤ i) : facN (i - 1) * i = facN (i + 1 - 1) := by
  obtain ⟨j, rfl⟩ : ∃ j, i = j + 1 := ⟨i - 1, by omega⟩
  show facN j * (j + 1) = (j + 1) * facN j
  exact Nat.mul_comm _ _
theorem ways_perm {K : Nat} (hK : K = 1 ∨ K = 2) (p : Nat) : waysF (K : Int) (permAt K p) = (((waysTo K (permAt K p) (2 ^ swN K) : Nat) : Int), 0) := by
  have hp : PermP (permAt K p) (2 ^ (K : Int).toNat) := by
    have := nth_perm (codeTo p (2 ^ K)).1 (2 ^ K)
    rw [Int.toNat_natCast]
    simpa [permAt] using this
  unfold waysF
  rw [if_pos (by omega), if_pos hp, Int.toNat_natCast]

theorem ok5 : p5.OK Tryd.prog := p5.ok C5 (fun _ => cx_ok (cs := [p31.ci, p18.ci, p19.ci, p32.ci, p25.ci]) ⟨PC.OK.ci ok31, PC.OK.ci ok18, PC.OK.ci ok19, PC.OK.ci ok32, PC.OK.ci ok25, trivial⟩ _) (fn := Tryd.f5) rfl (by decide +kernel) rfl fun (x : Int) hx => by
  refine (g5_eq x).mpr ?_
  have hx : 0 ≤ x ∧ x ≤ 255 := hx
  obtain ⟨e1, hK⟩ := kOf_cases hx
  simp only [pp1, eq_self, and_true, true_and, and_self, Int.toNat_natCast, List.drop_zero, peta, Int.one_mul]
  generalize kOf x = K at e1 hK ⊢
  have hN : 2 ^ K = 2 ∨ 2 ^ K = 4 := by rcases hK with rfl | rfl <;> simp
  have hNi : (2 : Int) ^ K = ((2 ^ K : Nat) : Int) := by simp
  have hF : facN (2 ^ K) ≤ 24 := by rcases hK with rfl | rfl <;> decide
  have hS : 2 ^ swN K ≤ 64 := by rcases hK with rfl | rfl <;> decide
  have hW : (∀ p, p < facN (2 ^ K) → 1 ≤ waysTo K (permAt K p) (2 ^ swN K)) ∧ sumTo K (facN (2 ^ K)) = 2 ^ swN K := by
    rcases hK with rfl | rfl
    · exact count_one
    · exact count_two
  have hsw : switchesF (K : Int) = (swN K : Nat) := by rcases hK with rfl | rfl <;> decide
  have hwk : waksF (K : Int) = (if K = 1 then 1 else 5, 0) := by rcases hK with rfl | rfl <;> decide
  rw [hNi]
  have hFN : (facN (2 ^ K) : Int) ≤ 2 ^ (if K = 1 then 1 else 5 : Nat) := by rcases hK with rfl | rfl <;> decide
  refine ⟨fits_i64 (by omega) (by omega), by omega, fits_i64 (by omega) (by omega), ⟨2, by omega, e1, rfl, by decide⟩, fun i hi => ⟨by omega, fits_i64 (by omega) (by omega), fun q1 => ?_, fun q1 => ?_⟩⟩
  · have hf := facN_le (i - 1) (by omega)
    have hst := facN_step (i := i) (by omega)
    have hf2 := facN_le (i + 1 - 1) (by omega)
    have hst' : (facN (i - 1) : Int) * (i : Int) = (facN (i + 1 - 1) : Nat) := by rw [← hst]; simp
    refine ⟨by rw [hst']; exact fits_i64 (by omega) (by omega), fits_nat (by omega), i + 1, by omega, by omega, by omega, hst'⟩
  · have hi' : i - 1 = 2 ^ K := by omega
    rw [hi']
    refine ⟨⟨0, by omega, rfl, rfl, rfl⟩, fun p hp => ⟨fun q2 => ⟨⟨0, by omega, rfl, rfl, rfl⟩, fun j hj => ⟨by omega, fits_i64 (by omega) (by omega), fun q3 => ?_, fun q3 => ?_⟩⟩, fun q2 => ?_⟩⟩
    · have hr := codeTo_rest p j
      have hl := codeTo_length p j
      have hm : (codeTo p j).2 % (j + 1) < j + 1 := Nat.mod_lt _ (by omega)
      have em : ((codeTo p j).2 : Int) % ((j : Int) + 1) = ((codeTo p j).2 % (j + 1) : Nat) := by simp
      have ed : ((codeTo p j).2 : Int) / ((j : Int) + 1) = ((codeTo p j).2 / (j + 1) : Nat) := by simp
      have hd : (codeTo p j).2 / (j + 1) ≤ (codeTo p j).2 := Nat.div_le_self _ _
      have hfd : Fits .i64 (((codeTo p j).2 / (j + 1) : Nat) : Int) := by
        generalize (codeTo p j).2 / (j + 1) = q at hd
        exact fits_i64 (by omega) (by omega)
      rw [em, ed, wrap_small (by omega)]
      refine ⟨fits_nat (by omega), by omega, by unfold Small; omega, fits_nat (by omega), by omega, hfd, fits_nat (by omega), j + 1, by omega, by omega, rfl, by omega, rfl⟩
    · have hj' : j = 2 ^ K := by omega
      subst hj'
      rw [show nthTo (codeTo p (2 ^ K)).1 (((2 ^ K : Nat) : Int)).toNat = permAt K p by rw [Int.toNat_natCast]; rfl, ways_perm hK p]
      have hl := codeTo_length p (2 ^ K)
      have hpl : (permAt K p).length = 2 ^ K := nthTo_length _ _
      have h1 := hW.1 p (by omega)
      have h2 := waysTo_le K (permAt K p) (2 ^ swN K)
      have h3 := sumTo_le K p
      have h4 : p * 2 ^ swN K ≤ 24 * 64 := Nat.mul_le_mul (by omega) hS
      refine ⟨by omega, fits_i64 (by omega) (by omega), ⟨by omega, by rw [hl]; exact Nat.le_trans (show 2 ^ K ≤ 4 by omega) (by decide), codeTo_in p _ (by omega)⟩, by omega, no (fun h => h rfl) (no (by simp only; omega) ⟨fits_i64 (by simp only; omega) (by simp only; omega), fits_nat (by omega), p + 1, by omega, by omega, by omega, ?_⟩)⟩
      show _ = ((sumTo K p + waysTo K (permAt K p) (2 ^ swN K) : Nat) : Int)
      simp
    · have hp' : p = facN (2 ^ K) := by omega
      rw [hp', hW.2, hsw, hwk, Int.toNat_natCast]
      have hs6 : swN K ≤ 6 := by rcases hK with rfl | rfl <;> decide
      have e2 : (2 : Int) ^ swN K = ((2 ^ swN K : Nat) : Int) := by simp
      rw [e2]
      refine ⟨by omega, by omega, fits_i64 (by omega) (by omega), yes rfl (yes rfl ⟨?_, ?_, yes ?_ ?_⟩)⟩
      · simp only; split <;> omega
      · simp only; split <;> exact fits_i64 (by decide) (by decide)
      · have e3 : (if K = 1 then (1 : Int) else 5).toNat = if K = 1 then 1 else 5 := by split <;> rfl
        simp only
        rw [e3]; exact hFN
      · have e3 : (if K = 1 then (1 : Int) else 5).toNat = if K = 1 then 1 else 5 := by split <;> rfl
        simp only
        rw [e3]; exact hFN
end Go.SX.Pa

/- Chapter 06: the rows' common ground: the arguments' types. -/
namespace Go.SX.Pa
open Go Go.Proofs
theorem tyI : TyM Tryd.prog 3 (.int .i64) := .int Tryd.underlying3
theorem tyIs : TyM Tryd.prog 22 (.slice (.int .i64)) := .slice Tryd.underlying22 (by kernel_rfl) tyI
theorem tyC : TyM Tryd.prog 23 tCl := .three Tryd.underlying23 (by kernel_rfl) tyI (by kernel_rfl)
theorem tyEd : TyM Tryd.prog 58 tEd := .pair Tryd.underlying58 rfl rfl (by kernel_rfl) (by kernel_rfl) tyI tyI (by kernel_rfl)
theorem tyEds : TyM Tryd.prog 36 (.slice tEd) := .slice Tryd.underlying36 (by kernel_rfl) tyEd
theorem tyU : TyM Tryd.prog 5 (.int .u8) := .int Tryd.underlying5
theorem tyS : TyM Tryd.prog 9 .str := .str Tryd.underlying9
theorem tyBs : TyM Tryd.prog 44 (.slice (.int .u8)) := .slice Tryd.underlying44 (by kernel_rfl) tyU
theorem tyB2 : TyM Tryd.prog 77 (.pair (.int .u8) (.int .u8)) := .two Tryd.underlying77 (by kernel_rfl) tyU (by kernel_rfl)
theorem tyB2s : TyM Tryd.prog 48 (.slice (.pair (.int .u8) (.int .u8))) := .slice Tryd.underlying48 (by kernel_rfl) tyB2
theorem tyB3 : TyM Tryd.prog 54 (.pair (.int .u8) (.pair (.int .u8) (.int .u8))) := .three Tryd.underlying54 (by kernel_rfl) tyU (by kernel_rfl)
set_option maxRecDepth 100000 in
theorem slice_rep {W : World} {ok : Nat → Prop} {T : Ty} {y : (Ty.slice T).den} {t e : TypeId} {v : Value} {base : Nat} (ht : Tryd.prog.underlying t = some (.slice e)) (hv : Value.okWide Tryd.prog W .any base t v)
    (h : (Ty.slice T).Rep W ok y v.cells.toList) : (Ty.slice T).Rep W ok y [v] := by
  obtain ⟨a, len, cap, rfl⟩ := WideShapes.okWide_slice ht hv
  exact h
set_option maxRecDepth 100000 in
theorem int_rep {W : World} {ok : Nat → Prop} {k k' : IntKind} {y : Int} {t : TypeId} {v : Value} {base : Nat} (ht : Tryd.prog.underlying t = some (.int k')) (hv : Value.okWide Tryd.prog W .any base t v)
    (h : (Ty.int k).Rep W ok y v.cells.toList) : (Ty.int k).Rep W ok y [v] := by
  obtain ⟨n, rfl⟩ := WideShapes.okWide_int ht hv
  exact h
set_option maxRecDepth 100000 in
theorem arr_rep {W : World} {ok : Nat → Prop} {T : Ty} {y : T.den} {t e : TypeId} {n : Nat} {v : Value} {base : Nat} (ht : Tryd.prog.underlying t = some (.array n e)) (hv : Value.okWide Tryd.prog W .any base t v)
    (h : T.Rep W ok y v.cells.toList) : ∃ cs : List Value, v = .agg cs.toArray ∧ T.Rep W ok y cs := by
  obtain ⟨cs, rfl⟩ : ∃ cs, v = .agg cs := by
    unfold Value.okWide at hv
    simp only [ht] at hv
    obtain ⟨cs, e, _⟩ := hv
    exact ⟨cs, e⟩
  exact ⟨cs.toList, by simp, h⟩
set_option maxRecDepth 100000 in
theorem str_rep {W : World} {ok : Nat → Prop} {y : ByteArray} {t : TypeId} {v : Value} {base : Nat} (ht : Tryd.prog.underlying t = some .string) (hv : Value.okWide Tryd.prog W .any base t v)
    (h : Ty.str.Rep W ok y v.cells.toList) : Ty.str.Rep W ok y [v] := by
  obtain ⟨n, rfl⟩ := WideShapes.okWide_string ht hv
  exact h
theorem wfU {n : Int} (h : (Ty.int .u8).Wf n) : 0 ≤ n ∧ n ≤ 255 := h
theorem wfBs {l : List Int} (h : (Ty.slice (.int .u8)).Wf l) : Bytes l := h
theorem wfB2 {p : Int × Int} (h : (Ty.pair (.int .u8) (.int .u8)).Wf p) : Byte2 p := h
theorem wfB2s {l : List (Int × Int)} (h : (Ty.slice (.pair (.int .u8) (.int .u8))).Wf l) : l.length ≤ maxLen ∧ ∀ p ∈ l, Byte2 p := h
theorem wfB3 {p : Int × Int × Int} (h : (Ty.pair (.int .u8) (.pair (.int .u8) (.int .u8))).Wf p) : Byte3 p := h
theorem own : ownKnob Tryd.prog.godebug = none := by kernel_rfl
theorem laidOut : laidOutB Tryd.prog = true := by kernel_rfl
end Go.SX.Pa
