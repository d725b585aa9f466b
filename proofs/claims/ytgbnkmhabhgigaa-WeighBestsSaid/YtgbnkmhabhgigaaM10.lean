/- Parts of the proof, one after the other: WeL WeM. -/
import Derived.Test.YtgbnkmhabhgigaaM8
/- Chapter 08: when there is a clash. -/
namespace Go.SX.We

theorem sumAt_append (w : List Int) : ∀ a b : List Int, sumAt w (a ++ b) = sumAt w a + sumAt w b
  | [], b => by simp [sumAt]
  | i :: a, b => by simp [sumAt, sumAt_append w a b, Int.add_assoc]
theorem sumAt_filter (w : List Int) (p : Int → Bool) : ∀ t : List Int, sumAt w t = sumAt w (t.filter p) + sumAt w (t.filter fun i => !p i)
  | [] => rfl
  | i :: t => by
    have ih := sumAt_filter w p t
    cases h : p i with
    | true => simp only [sumAt, List.filter_cons, h]; simp [sumAt]; omega
    | false => simp only [sumAt, List.filter_cons, h]; simp [sumAt]; omega
theorem Ris.lo {N : Nat} : {t : List Int} → {a : Nat} → Ris a N t → ∀ i ∈ t, (a : Int) ≤ i ∧ i < (N : Int)
  | [], _, _, i, h => by simp at h
  | j :: t, a, ⟨h1, h2, h3⟩, i, h => by
    rcases List.mem_cons.1 h with rfl | h
    · exact ⟨h1, h2⟩
    · have := Ris.lo h3 i h; omega
theorem Ris.filter {N : Nat} (p : Int → Bool) : {t : List Int} → {a : Nat} → Ris a N t → Ris a N (t.filter p)
  | [], _, _ => trivial
  | j :: t, a, ⟨h1, h2, h3⟩ => by
    have ih := Ris.filter p h3
    rw [List.filter_cons]
    split
    · exact ⟨h1, h2, ih⟩
    · exact ih.mono (by omega)
theorem Ris.ext {N : Nat} : {t u : List Int} → {a : Nat} → Ris a N t → Ris a N u → (∀ i, i ∈ t ↔ i ∈ u) → t = u
  | [], [], _, _, _, _ => rfl
  | [], j :: u, _, _, _, h => absurd ((h j).2 (by simp)) (by simp)
  | i :: t, [], _, _, _, h => absurd ((h i).1 (by simp)) (by simp)
  | i :: t, j :: u, a, ⟨h1, h2, h3⟩, ⟨k1, k2, k3⟩, h => by
    have e : i = j := by
      rcases List.mem_cons.1 ((h i).1 (by simp)) with e | e
      · exact e
      · have q1 := Ris.lo k3 i e
        rcases List.mem_cons.1 ((h j).2 (by simp)) with e2 | e2
        · exact e2.symm
        · have q2 := Ris.lo h3 j e2; omega
    subst e
    congr 1
    refine Ris.ext h3 k3 fun x => ?_
    constructor
    · intro hx
      have q := Ris.lo h3 x hx
      rcases List.mem_cons.1 ((h x).1 (List.mem_cons_of_mem _ hx)) with e | e
      · omega
      · exact e
    · intro hx
      have q := Ris.lo k3 x hx
      rcases List.mem_cons.1 ((h x).2 (List.mem_cons_of_mem _ hx)) with e | e
      · omega
      · exact e
theorem sumAt_pos {w : List Int} (hw : ∀ v ∈ w, 1 ≤ v) : {t : List Int} → {a : Nat} → Ris a w.length t → 0 ≤ sumAt w t ∧ (t ≠ [] → 1 ≤ sumAt w t)
  | [], _, _ => ⟨Int.le_refl 0, fun h => absurd rfl h⟩
  | i :: t, a, ⟨h1, h2, h3⟩ => by
    have ih := (sumAt_pos hw h3).1
    have hv := hw _ (getD_mem w 0 (k := i.toNat) (by omega))
    unfold sumAt
    exact ⟨by omega, fun _ => by omega⟩
theorem cmp_before : ∀ a b : List Int, decide (cmpF a b < 0) = beforeF a b
  | [], [] => rfl
  | [], _ :: _ => rfl
  | _ :: _, [] => rfl
  | x :: a, y :: b => by
    have ih := cmp_before a b
    unfold cmpF beforeF
    by_cases h1 : x < y
    · rw [decide_eq_true h1, if_neg (by omega)]; simp
    · rw [decide_eq_false h1]
      by_cases h2 : y < x
      · rw [decide_eq_true h2, if_neg (by omega)]; simp
      · rw [decide_eq_false h2, if_pos (by omega)]; exact ih
theorem before_total {a b : List Int} (h : a ≠ b) : beforeF a b = true ∨ beforeF b a = true := by
  have := before_same a b
  rw [decide_eq_false h] at this
  cases h1 : beforeF a b <;> cases h2 : beforeF b a <;> simp_all
theorem before_irrefl (a : List Int) : beforeF a a = false := by
  have := before_same a a
  rw [decide_eq_true rfl] at this
  cases h1 : beforeF a a <;> simp_all
theorem apart_iff {x y : List Int} : apartF x y = true ↔ beforeF x y = true ∧ ∀ i ∈ x, i ∉ y := by
  unfold apartF
  rw [cmp_before, Bool.and_eq_true, Bool.not_eq_true', List.any_eq_false]
  constructor
  · rintro ⟨h1, h2⟩
    exact ⟨h1, fun i hi hy => h2 i hi (by simp [hasI, hy])⟩
  · rintro ⟨h1, h2⟩
    exact ⟨h1, fun i hi => by simp [hasI, h2 i hi]⟩

/-- Two sets with one sum. -/
structure Cl (w x y : List Int) : Prop where
  rx : Ris 0 w.length x
  ry : Ris 0 w.length y
  sum : sumAt w x = sumAt w y
  ap : beforeF x y = true
  dis : ∀ i ∈ x, i ∉ y
theorem Cl.ne {w x y : List Int} (h : Cl w x y) (hw : ∀ v ∈ w, 1 ≤ v) : x ≠ [] ∧ y ≠ [] := by
  have h1 := sumAt_pos hw h.rx
  have h2 := sumAt_pos hw h.ry
  have hy : y ≠ [] := by
    rintro rfl
    have := h.ap
    rw [beforeF_nil_right] at this; cases this
  refine ⟨?_, hy⟩
  rintro rfl
  have h3 := h2.2 hy
  have h4 := h.sum
  have : sumAt w [] = 0 := rfl
  omega
theorem lists_nodup (N : Nat) : (lists N).Nodup := by
  have key : ∀ n, n ≤ N → (tlF N n).Nodup := by
    intro n
    induction n with
    | zero => intro _; exact List.nodup_nil
    | succ n ih =>
      intro hn
      have ih := ih (by omega)
      unfold tlF
      rw [List.nodup_append]
      refine ⟨?_, ih, ?_⟩
      · have h0 : ([] :: tlF N n).Nodup := by
          rw [List.nodup_cons]
          exact ⟨fun h => ((mem_tlF (by omega)).1 h).1 rfl, ih⟩
        exact List.pairwise_map.2 (h0.imp fun hab e => hab (by simpa using e))
      · intro a ha b hb e
        subst e
        obtain ⟨u, _, rfl⟩ := List.mem_map.1 ha
        obtain ⟨_, q, _⟩ := (mem_tlF (N := N) (n := n) (by omega)).1 hb
        omega
  unfold lists
  rw [List.nodup_cons]
  exact ⟨fun h => ((mem_tlF (Nat.le_refl N)).1 h).1 rfl, key N (Nat.le_refl N)⟩
/-- Sums are distinct if the sets are told by them. -/
theorem distF_inj {w : List Int} : distF w = true ↔ ∀ x y, Ris 0 w.length x → Ris 0 w.length y → sumAt w x = sumAt w y → x = y := by
  rw [distF_iff]
  have e : sumsF w = (lists w.length).map (sumAt w) := by unfold sumsF; rw [subsF_eq, List.map_map]; rfl
  rw [e]
  constructor
  · intro h x y hx hy hs
    have hx := mem_lists.2 hx
    have hy := mem_lists.2 hy
    obtain ⟨i, hi, rfl⟩ := List.mem_iff_getElem.1 hx
    obtain ⟨j, hj, rfl⟩ := List.mem_iff_getElem.1 hy
    unfold List.Nodup at h
    rw [List.pairwise_map, List.pairwise_iff_getElem] at h
    rcases Nat.lt_trichotomy i j with h1 | h1 | h1
    · exact absurd hs (h i j hi hj h1)
    · subst h1; rfl
    · exact absurd hs.symm (h j i hj hi h1)
  · intro h
    unfold List.Nodup
    rw [List.pairwise_map]
    refine List.Pairwise.imp_of_mem ?_ (lists_nodup w.length)
    intro a b ha hb hab e
    exact hab (h a b (mem_lists.1 ha) (mem_lists.1 hb) e)
theorem clash_of {w : List Int} (h : distF w = false) : ∃ x y, Cl w x y := by
  have h : ¬ ∀ x y, Ris 0 w.length x → Ris 0 w.length y → sumAt w x = sumAt w y → x = y := fun hn => by rw [distF_inj.2 hn] at h; cases h
  obtain ⟨t, h⟩ := Classical.not_forall.1 h
  obtain ⟨u, h⟩ := Classical.not_forall.1 h
  have ht : Ris 0 w.length t := Classical.byContradiction fun n => h fun h1 => absurd h1 n
  have hu : Ris 0 w.length u := Classical.byContradiction fun n => h fun _ h1 => absurd h1 n
  have hs : sumAt w t = sumAt w u := Classical.byContradiction fun n => h fun _ _ h1 => absurd h1 n
  have hne : t ≠ u := fun e => h fun _ _ _ => e
  have hcom : t.filter (fun i => decide (i ∈ u)) = u.filter (fun i => decide (i ∈ t)) := Ris.ext (ht.filter _) (hu.filter _) fun i => by simp [and_comm]
  have s1 := sumAt_filter w (fun i => decide (i ∈ u)) t
  have s2 := sumAt_filter w (fun i => decide (i ∈ t)) u
  have rp := ht.filter (fun i => !decide (i ∈ u))
  have rq := hu.filter (fun i => !decide (i ∈ t))
  have hsum : sumAt w (t.filter fun i => !decide (i ∈ u)) = sumAt w (u.filter fun i => !decide (i ∈ t)) := by rw [hcom] at s1; omega
  have hd : ∀ i ∈ t.filter (fun i => !decide (i ∈ u)), i ∉ u.filter (fun i => !decide (i ∈ t)) := fun i hi hq => by
    simp at hi hq; exact hq.2 hi.1
  have hpq : t.filter (fun i => !decide (i ∈ u)) ≠ u.filter (fun i => !decide (i ∈ t)) := fun e => by
    refine hne (Ris.ext ht hu fun i => ⟨fun hi => Classical.byContradiction fun n => ?_, fun hi => Classical.byContradiction fun n => ?_⟩)
    · have h1 : i ∈ t.filter (fun i => !decide (i ∈ u)) := by simp [hi, n]
      have h2 := h1
      rw [e] at h2
      exact hd i h1 h2
    · have h1 : i ∈ u.filter (fun i => !decide (i ∈ t)) := by simp [hi, n]
      have h2 := h1
      rw [← e] at h2
      exact hd i h2 h1
  rcases before_total hpq with hb | hb
  · exact ⟨_, _, rp, rq, hsum, hb, hd⟩
  · exact ⟨_, _, rq, rp, hsum.symm, hb, fun i hi hq => hd i hq hi⟩
theorem mate_some {w : List Int} {s : List Int × Int} {y : List Int} (hs : s ∈ subsF w) (h : mateF w s = some y) : Cl w s.1 y := by
  unfold mateF at h
  rw [withF_eq] at h
  have h1 := List.mem_of_find?_eq_some h
  have h2 := List.find?_some h
  obtain ⟨q1, q2⟩ := apart_iff.1 h2
  obtain ⟨r1, r2⟩ := mem_subsF.1 hs
  obtain ⟨k1, k2⟩ := mem_subsF.1 (mem_bySum.1 h1)
  exact ⟨r1, k1, by rw [← r2]; exact k2, q1, q2⟩
theorem good_of {w x y : List Int} (h : Cl w x y) : (x, sumAt w x) ∈ subsF w ∧ goodC w (x, sumAt w x) = true := by
  refine ⟨mem_subsF.2 ⟨h.rx, rfl⟩, ?_⟩
  unfold goodC mateF
  rw [withF_eq, List.find?_isSome]
  exact ⟨y, mem_bySum.2 (mem_subsF.2 ⟨h.ry, h.sum⟩), apart_iff.2 ⟨h.ap, h.dis⟩⟩
/-- What Clash finds. -/
theorem clashF_some {w : List Int} (hw : Wts w) (h : distF w = false) : ∃ x y, clashF w = (x, y, 0) ∧ Cl w x y := by
  obtain ⟨x0, y0, hc⟩ := clash_of h
  obtain ⟨h1, h2⟩ := good_of hc
  unfold clashF
  rw [decide_eq_true (check_ok.2 hw)]
  simp only [cond_true]
  cases hf : (subsF w).find? (goodC w) with
  | none => exact absurd h2 (List.find?_eq_none.1 hf _ h1)
  | some s =>
    have hs := List.mem_of_find?_eq_some hf
    have hg := List.find?_some hf
    unfold goodC at hg
    obtain ⟨y, hy⟩ := Option.isSome_iff_exists.1 hg
    refine ⟨s.1, y, by simp [hy], mate_some hs hy⟩
theorem clashF_none {w : List Int} (hw : Wts w) (h : distF w = true) : clashF w = ([], [], 5) := by
  unfold clashF
  rw [decide_eq_true (check_ok.2 hw)]
  simp only [cond_true]
  cases hf : (subsF w).find? (goodC w) with
  | none => rfl
  | some s =>
    have hs := List.mem_of_find?_eq_some hf
    have hg := List.find?_some hf
    unfold goodC at hg
    obtain ⟨y, hy⟩ := Option.isSome_iff_exists.1 hg
    have hc := mate_some hs hy
    have := distF_inj.1 h _ _ hc.rx hc.ry hc.sum
    have hb := hc.ap
    rw [← this, before_irrefl] at hb; cases hb
theorem ris_risF {N : Nat} {t : List Int} (h : Ris 0 N t) : risF (N : Int) t = true := by
  have key : ∀ (t : List Int) (a : Nat), Ris a N t → ∀ j, j < t.length → ((a : Int) ≤ t.getD j 0 ∧ t.getD j 0 ≤ (N : Int) - 1) ∧ (j = 0 ∨ t.getD (j - 1) 0 < t.getD j 0) := by
    intro t
    induction t with
    | nil => intro a _ j hj; simp at hj
    | cons i t ih =>
      rintro a ⟨h1, h2, h3⟩ j hj
      cases j with
      | zero => simp; omega
      | succ j =>
        have := ih _ h3 j (by simpa using hj)
        cases j with
        | zero => simp at this ⊢; omega
        | succ j => simp at this ⊢; omega
  unfold risF
  rw [List.all_eq_true]
  intro j hj
  have := key t 0 h j (by simpa using hj)
  simp only [Bool.and_eq_true, Bool.or_eq_true, decide_eq_true_eq]
  exact this
end Go.SX.We

/- Chapter 08: weights from numbers, in plain words. -/
namespace Go.SX.We

def madeS (x : List Int) : Nat → Int
  | 0 => 0
  | k + 1 => madeS x k + (x.getD k 0 % 8000 + 1)
def madeL (x : List Int) (k : Nat) : List Int := (List.range k).map fun i => madeS x (i + 1)
def madeF (x : List Int) (most : Nat) : List Int := bif decide (min x.length most = 0) then [1] else madeL x (min x.length most)
theorem madeL_length (x : List Int) (k : Nat) : (madeL x k).length = k := by simp [madeL]
theorem madeL_snoc (x : List Int) (k : Nat) : madeL x (k + 1) = madeL x k ++ [madeS x (k + 1)] := by simp [madeL, List.range_succ]
theorem madeS_small (x : List Int) : ∀ k, 0 ≤ madeS x k ∧ madeS x k ≤ 8000 * (k : Int)
  | 0 => by simp [madeS]
  | k + 1 => by
    have := madeS_small x k
    unfold madeS
    omega
theorem madeS_lt (x : List Int) (i : Nat) : ∀ d, madeS x i < madeS x (i + d + 1)
  | 0 => by
    rw [Nat.add_zero, madeS]; omega
  | d + 1 => by
    have := madeS_lt x i d
    show _ < madeS x (i + d + 1) + (x.getD (i + d + 1) 0 % 8000 + 1)
    omega
theorem made_wts (x : List Int) {m : Nat} (h0 : 0 < m) (hm : m ≤ 12) : Wts (madeF x m) := by
  unfold madeF
  by_cases h : min x.length m = 0
  · rw [decide_eq_true h]
    show Wts [1]
    exact check_ok.1 (by decide)
  · rw [decide_eq_false h]
    simp only [cond_false]
    refine ⟨by rw [madeL_length]; omega, by rw [madeL_length]; omega, fun v hv => ?_, fun v hv => ?_, ?_⟩
    · obtain ⟨i, _, rfl⟩ := List.mem_map.1 hv
      have := madeS_small x i
      rw [madeS]; omega
    · obtain ⟨i, hi, rfl⟩ := List.mem_map.1 hv
      rw [List.mem_range] at hi
      have := madeS_small x (i + 1)
      omega
    · unfold madeL
      rw [List.pairwise_map, List.pairwise_iff_getElem]
      intro i j hi hj hij
      simp only [List.getElem_range]
      obtain ⟨d, rfl⟩ : ∃ d, j = i + d + 1 := ⟨j - i - 1, by omega⟩
      have := madeS_lt x (i + 1) d
      rwa [show i + 1 + d + 1 = i + d + 1 + 1 by omega] at this
def totF (l set : List Int) : Int := bif risF (l.length : Int) set then sumAt l set else -1
theorem risF_get {n : Int} {l : List Int} (h : risF n l = true) {j : Nat} (hj : j < l.length) : 0 ≤ l.getD j 0 ∧ l.getD j 0 ≤ n - 1 := by
  unfold risF at h
  rw [List.all_eq_true] at h
  have := h j (List.mem_range.2 hj)
  simp only [Bool.and_eq_true, decide_eq_true_eq] at this
  exact this.1
theorem sumAt_bound {w : List Int} (hw : ∀ v ∈ w, 0 ≤ v ∧ v ≤ 100000) : ∀ t : List Int, (∀ i ∈ t, 0 ≤ i ∧ i < (w.length : Int)) → 0 ≤ sumAt w t ∧ sumAt w t ≤ 100000 * (t.length : Int)
  | [], _ => by simp [sumAt]
  | i :: t, h => by
    have ih := sumAt_bound hw t fun j hj => h j (List.mem_cons_of_mem _ hj)
    have hi := h i (by simp)
    have hv := hw _ (getD_mem w 0 (k := i.toNat) (by omega))
    simp only [sumAt, List.length_cons]
    omega
end Go.SX.We
