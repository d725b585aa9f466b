/- Parts of the proof, one after the other: WeL WeM We10 We10E We10Q. -/
import Derived.Test.YtgbnkmhabhgigaaM8
import Derived.Test.YtgbnkmhabhgigaaM9
/- Chapter 08: when there is a clash. -/
namespace Go.SX.We

theorem sumAt_append (w : List Int) : ∀ a b : List Int, sumAt w (a ++ b) = sumAt w a + sumAt w b
  | [], b => by simp [sumAt]
  | i :: a, b => by simp [sumAt, sumAt_append w a b, Int.add_assoc]
theorem sumAt_filter (w : List Int) (p : Int → Bool) : ∀ t : List Int, sumAt w t = sumAt w (t.filter p) + sumAt w (t.filter fun i => !p i)
  | [] => rfl
  | i :: t => by
    have ih := sumAt_filter w p t
    cases h : p i with
    | true => simp only [sumAt, List.filter_cons, h]; simp [sumAt]; omega
    | false => simp only [sumAt, List.filter_cons, h]; simp [sumAt]; omega
theorem Ris.lo {N : Nat} : {t : List Int} → {a : Nat} → Ris a N t → ∀ i ∈ t, (a : Int) ≤ i ∧ i < (N : Int)
  | [], _, _, i, h => by simp at h
  | j :: t, a, ⟨h1, h2, h3⟩, i, h => by
    rcases List.mem_cons.1 h with rfl | h
    · exact ⟨h1, h2⟩
    · have := Ris.lo h3 i h; omega
theorem Ris.filter {N : Nat} (p : Int → Bool) : {t : List Int} → {a : Nat} → Ris a N t → Ris a N (t.filter p)
  | [], _, _ => trivial
  | j :: t, a, ⟨h1, h2, h3⟩ => by
    have ih := Ris.filter p h3
    rw [List.filter_cons]
    split
    · exact ⟨h1, h2, ih⟩
    · exact ih.mono (by omega)
theorem Ris.ext {N : Nat} : {t u : List Int} → {a : Nat} → Ris a N t → Ris a N u → (∀ i, i ∈ t ↔ i ∈ u) → t = u
  | [], [], _, _, _, _ => rfl
  | [], j :: u, _, _, _, h => absurd ((h j).2 (by simp)) (by simp)
  | i :: t, [], _, _, _, h => absurd ((h i).1 (by simp)) (by simp)
  | i :: t, j :: u, a, ⟨h1, h2, h3⟩, ⟨k1, k2, k3⟩, h => by
    have e : i = j := by
      rcases List.mem_cons.1 ((h i).1 (by simp)) with e | e
      · exact e
      · have q1 := Ris.lo k3 i e
        rcases List.mem_cons.1 ((h j).2 (by simp)) with e2 | e2
        · exact e2.symm
        · have q2 := Ris.lo h3 j e2; omega
    subst e
    congr 1
    refine Ris.ext h3 k3 fun x => ?_
    constructor
    · intro hx
      have q := Ris.lo h3 x hx
      rcases List.mem_cons.1 ((h x).1 (List.mem_cons_of_mem _ hx)) with e | e
      · omega
      · exact e
    · intro hx
      have q := Ris.lo k3 x hx
      rcases List.mem_cons.1 ((h x).2 (List.mem_cons_of_mem _ hx)) with e | e
      · omega
      · exact e
theorem sumAt_pos {w : List Int} (hw : ∀ v ∈ w, 1 ≤ v) : {t : List Int} → {a : Nat} → Ris a w.length t → 0 ≤ sumAt w t ∧ (t ≠ [] → 1 ≤ sumAt w t)
  | [], _, _ => ⟨Int.le_refl 0, fun h => absurd rfl h⟩
  | i :: t, a, ⟨h1, h2, h3⟩ => by
    have ih := (sumAt_pos hw h3).1
    have hv := hw _ (getD_mem w 0 (k := i.toNat) (by omega))
    unfold sumAt
    exact ⟨by omega, fun _ => by omega⟩
theorem cmp_before : ∀ a b : List Int, decide (cmpF a b < 0) = beforeF a b
  | [], [] => rfl
  | [], _ :: _ => rfl
  | _ :: _, [] => rfl
  | x :: a, y :: b => by
    have ih := cmp_before a b
    unfold cmpF beforeF
    by_cases h1 : x < y
    · rw [decide_eq_true h1, if_neg (by omega)]; simp
    · rw [decide_eq_false h1]
      by_cases h2 : y < x
      · rw [decide_eq_true h2, if_neg (by omega)]; simp
      · rw [decide_eq_false h2, if_pos (by omega)]; exact ih
theorem before_total {a b : List Int} (h : a ≠ b) : beforeF a b = true ∨ beforeF b a = true := by
  have := before_same a b
  rw [decide_eq_false h] at this
  cases h1 : beforeF a b <;> cases h2 : beforeF b a <;> simp_all
theorem before_irrefl (a : List Int) : beforeF a a = false := by
  have := before_same a a
  rw [decide_eq_true rfl] at this
  cases h1 : beforeF a a <;> simp_all
theorem apart_iff {x y : List Int} : apartF x y = true ↔ beforeF x y = true ∧ ∀ i ∈ x, i ∉ y := by
  unfold apartF
  rw [cmp_before, Bool.and_eq_true, Bool.not_eq_true', List.any_eq_false]
  constructor
  · rintro ⟨h1, h2⟩
    exact ⟨h1, fun i hi hy => h2 i hi (by simp [hasI, hy])⟩
  · rintro ⟨h1, h2⟩
    exact ⟨h1, fun i hi => by simp [hasI, h2 i hi]⟩

/-- Two sets with one sum. -/
structure Cl (w x y : List Int) : Prop where
  rx : Ris 0 w.length x
  ry : Ris 0 w.length y
  sum : sumAt w x = sumAt w y
  ap : beforeF x y = true
  dis : ∀ i ∈ x, i ∉ y
theorem Cl.ne {w x y : List Int} (h : Cl w x y) (hw : ∀ v ∈ w, 1 ≤ v) : x ≠ [] ∧ y ≠ [] := by
  have h1 := sumAt_pos hw h.rx
  have h2 := sumAt_pos hw h.ry
  have hy : y ≠ [] := by
    rintro rfl
    have := h.ap
    rw [beforeF_nil_right] at this; cases this
  refine ⟨?_, hy⟩
  rintro rfl
  have h3 := h2.2 hy
  have h4 := h.sum
  have : sumAt w [] = 0 := rfl
  omega
theorem lists_nodup (N : Nat) : (lists N).Nodup := by
  have key : ∀ n, n ≤ N → (tlF N n).Nodup := by
    intro n
    induction n with
    | zero => intro _; exact List.nodup_nil
    | succ n ih =>
      intro hn
      have ih := ih (by omega)
      unfold tlF
      rw [List.nodup_append]
      refine ⟨?_, ih, ?_⟩
      · have h0 : ([] :: tlF N n).Nodup := by
          rw [List.nodup_cons]
          exact ⟨fun h => ((mem_tlF (by omega)).1 h).1 rfl, ih⟩
        exact List.pairwise_map.2 (h0.imp fun hab e => hab (by simpa using e))
      · intro a ha b hb e
        subst e
        obtain ⟨u, _, rfl⟩ := List.mem_map.1 ha
        obtain ⟨_, q, _⟩ := (mem_tlF (N := N) (n := n) (by omega)).1 hb
        omega
  unfold lists
  rw [List.nodup_cons]
  exact ⟨fun h => ((mem_tlF (Nat.le_refl N)).1 h).1 rfl, key N (Nat.le_refl N)⟩
/-- Sums are distinct if the sets are told by them. -/
theorem distF_inj {w : List Int} : distF w = true ↔ ∀ x y, Ris 0 w.length x → Ris 0 w.length y → sumAt w x = sumAt w y → x = y := by
  rw [distF_iff]
  have e : sumsF w = (lists w.length).map (sumAt w) := by unfold sumsF; rw [subsF_eq, List.map_map]; rfl
  rw [e]
  constructor
  · intro h x y hx hy hs
    have hx := mem_lists.2 hx
    have hy := mem_lists.2 hy
    obtain ⟨i, hi, rfl⟩ := List.mem_iff_getElem.1 hx
    obtain ⟨j, hj, rfl⟩ := List.mem_iff_getElem.1 hy
    unfold List.Nodup at h
    rw [List.pairwise_map, List.pairwise_iff_getElem] at h
    rcases Nat.lt_trichotomy i j with h1 | h1 | h1
    · exact absurd hs (h i j hi hj h1)
    · subst h1; rfl
    · exact absurd hs.symm (h j i hj hi h1)
  · intro h
    unfold List.Nodup
    rw [List.pairwise_map]
    refine List.Pairwise.imp_of_mem ?_ (lists_nodup w.length)
    intro a b ha hb hab e
    exact hab (h a b (mem_lists.1 ha) (mem_lists.1 hb) e)
theorem clash_of {w : List Int} (h : distF w = false) : ∃ x y, Cl w x y := by
  have h : ¬ ∀ x y, Ris 0 w.length x → Ris 0 w.length y → sumAt w x = sumAt w y → x = y := fun hn => by rw [distF_inj.2 hn] at h; cases h
  obtain ⟨t, h⟩ := Classical.not_forall.1 h
  obtain ⟨u, h⟩ := Classical.not_forall.1 h
  have ht : Ris 0 w.length t := Classical.byContradiction fun n => h fun h1 => absurd h1 n
  have hu : Ris 0 w.length u := Classical.byContradiction fun n => h fun _ h1 => absurd h1 n
  have hs : sumAt w t = sumAt w u := Classical.byContradiction fun n => h fun _ _ h1 => absurd h1 n
  have hne : t ≠ u := fun e => h fun _ _ _ => e
  have hcom : t.filter (fun i => decide (i ∈ u)) = u.filter (fun i => decide (i ∈ t)) := Ris.ext (ht.filter _) (hu.filter _) fun i => by simp [and_comm]
  have s1 := sumAt_filter w (fun i => decide (i ∈ u)) t
  have s2 := sumAt_filter w (fun i => decide (i ∈ t)) u
  have rp := ht.filter (fun i => !decide (i ∈ u))
  have rq := hu.filter (fun i => !decide (i ∈ t))
  have hsum : sumAt w (t.filter fun i => !decide (i ∈ u)) = sumAt w (u.filter fun i => !decide (i ∈ t)) := by rw [hcom] at s1; omega
  have hd : ∀ i ∈ t.filter (fun i => !decide (i ∈ u)), i ∉ u.filter (fun i => !decide (i ∈ t)) := fun i hi hq => by
    simp at hi hq; exact hq.2 hi.1
  have hpq : t.filter (fun i => !decide (i ∈ u)) ≠ u.filter (fun i => !decide (i ∈ t)) := fun e => by
    refine hne (Ris.ext ht hu fun i => ⟨fun hi => Classical.byContradiction fun n => ?_, fun hi => Classical.byContradiction fun n => ?_⟩)
    · have h1 : i ∈ t.filter (fun i => !decide (i ∈ u)) := by simp [hi, n]
      have h2 := h1
      rw [e] at h2
      exact hd i h1 h2
    · have h1 : i ∈ u.filter (fun i => !decide (i ∈ t)) := by simp [hi, n]
      have h2 := h1
      rw [← e] at h2
      exact hd i h2 h1
  rcases before_total hpq with hb | hb
  · exact ⟨_, _, rp, rq, hsum, hb, hd⟩
  · exact ⟨_, _, rq, rp, hsum.symm, hb, fun i hi hq => hd i hq hi⟩
theorem mate_some {w : List Int} {s : List Int × Int} {y : List Int} (hs : s ∈ subsF w) (h : mateF w s = some y) : Cl w s.1 y := by
  unfold mateF at h
  rw [withF_eq] at h
  have h1 := List.mem_of_find?_eq_some h
  have h2 := List.find?_some h
  obtain ⟨q1, q2⟩ := apart_iff.1 h2
  obtain ⟨r1, r2⟩ := mem_subsF.1 hs
  obtain ⟨k1, k2⟩ := mem_subsF.1 (mem_bySum.1 h1)
  exact ⟨r1, k1, by rw [← r2]; exact k2, q1, q2⟩
theorem good_of {w x y : List Int} (h : Cl w x y) : (x, sumAt w x) ∈ subsF w ∧ goodC w (x, sumAt w x) = true := by
  refine ⟨mem_subsF.2 ⟨h.rx, rfl⟩, ?_⟩
  unfold goodC mateF
  rw [withF_eq, List.find?_isSome]
  exact ⟨y, mem_bySum.2 (mem_subsF.2 ⟨h.ry, h.sum⟩), apart_iff.2 ⟨h.ap, h.dis⟩⟩
/-- What Clash finds. -/
theorem clashF_some {w : List Int} (hw : Wts w) (h : distF w = false) : ∃ x y, clashF w = (x, y, 0) ∧ Cl w x y := by
  obtain ⟨x0, y0, hc⟩ := clash_of h
  obtain ⟨h1, h2⟩ := good_of hc
  unfold clashF
  rw [decide_eq_true (check_ok.2 hw)]
  simp only [cond_true]
  cases hf : (subsF w).find? (goodC w) with
  | none => exact absurd h2 (List.find?_eq_none.1 hf _ h1)
  | some s =>
    have hs := List.mem_of_find?_eq_some hf
    have hg := List.find?_some hf
    unfold goodC at hg
    obtain ⟨y, hy⟩ := Option.isSome_iff_exists.1 hg
    refine ⟨s.1, y, by simp [hy], mate_some hs hy⟩
theorem clashF_none {w : List Int} (hw : Wts w) (h : distF w = true) : clashF w = ([], [], 5) := by
  unfold clashF
  rw [decide_eq_true (check_ok.2 hw)]
  simp only [cond_true]
  cases hf : (subsF w).find? (goodC w) with
  | none => rfl
  | some s =>
    have hs := List.mem_of_find?_eq_some hf
    have hg := List.find?_some hf
    unfold goodC at hg
    obtain ⟨y, hy⟩ := Option.isSome_iff_exists.1 hg
    have hc := mate_some hs hy
    have := distF_inj.1 h _ _ hc.rx hc.ry hc.sum
    have hb := hc.ap
    rw [← this, before_irrefl] at hb; cases hb
theorem ris_risF {N : Nat} {t : List Int} (h : Ris 0 N t) : risF (N : Int) t = true := by
  have key : ∀ (t : List Int) (a : Nat), Ris a N t → ∀ j, j < t.length → ((a : Int) ≤ t.getD j 0 ∧ t.getD j 0 ≤ (N : Int) - 1) ∧ (j = 0 ∨ t.getD (j - 1) 0 < t.getD j 0) := by
    intro t
    induction t with
    | nil => intro a _ j hj; simp at hj
    | cons i t ih =>
      rintro a ⟨h1, h2, h3⟩ j hj
      cases j with
      | zero => simp; omega
      | succ j =>
        have := ih _ h3 j (by simpa using hj)
        cases j with
        | zero => simp at this ⊢; omega
        | succ j => simp at this ⊢; omega
  unfold risF
  rw [List.all_eq_true]
  intro j hj
  have := key t 0 h j (by simpa using hj)
  simp only [Bool.and_eq_true, Bool.or_eq_true, decide_eq_true_eq]
  exact this
end Go.SX.We

/- Chapter 08: weights from numbers, in plain words. -/
namespace Go.SX.We

def madeS (x : List Int) : Nat → Int
  | 0 => 0
  | k + 1 => madeS x k + (x.getD k 0 % 8000 + 1)
def madeL (x : List Int) (k : Nat) : List Int := (List.range k).map fun i => madeS x (i + 1)
def madeF (x : List Int) (most : Nat) : List Int := bif decide (min x.length most = 0) then [1] else madeL x (min x.length most)
theorem madeL_length (x : List Int) (k : Nat) : (madeL x k).length = k := by simp [madeL]
theorem madeL_snoc (x : List Int) (k : Nat) : madeL x (k + 1) = madeL x k ++ [madeS x (k + 1)] := by simp [madeL, List.range_succ]
theorem madeS_small (x : List Int) : ∀ k, 0 ≤ madeS x k ∧ madeS x k ≤ 8000 * (k : Int)
  | 0 => by simp [madeS]
  | k + 1 => by
    have := madeS_small x k
    unfold madeS
    omega
theorem madeS_lt (x : List Int) (i : Nat) : ∀ d, madeS x i < madeS x (i + d + 1)
  | 0 => by
    rw [Nat.add_zero, madeS]; omega
  | d + 1 => by
    have := madeS_lt x i d
    show _ < madeS x (i + d + 1) + (x.getD (i + d + 1) 0 % 8000 + 1)
    omega
theorem made_wts (x : List Int) {m : Nat} (h0 : 0 < m) (hm : m ≤ 12) : Wts (madeF x m) := by
  unfold madeF
  by_cases h : min x.length m = 0
  · rw [decide_eq_true h]
    show Wts [1]
    exact check_ok.1 (by decide)
  · rw [decide_eq_false h]
    simp only [cond_false]
    refine ⟨by rw [madeL_length]; omega, by rw [madeL_length]; omega, fun v hv => ?_, fun v hv => ?_, ?_⟩
    · obtain ⟨i, _, rfl⟩ := List.mem_map.1 hv
      have := madeS_small x i
      rw [madeS]; omega
    · obtain ⟨i, hi, rfl⟩ := List.mem_map.1 hv
      rw [List.mem_range] at hi
      have := madeS_small x (i + 1)
      omega
    · unfold madeL
      rw [List.pairwise_map, List.pairwise_iff_getElem]
      intro i j hi hj hij
      simp only [List.getElem_range]
      obtain ⟨d, rfl⟩ : ∃ d, j = i + d + 1 := ⟨j - i - 1, by omega⟩
      have := madeS_lt x (i + 1) d
      rwa [show i + 1 + d + 1 = i + d + 1 + 1 by omega] at this
def totF (l set : List Int) : Int := bif risF (l.length : Int) set then sumAt l set else -1
theorem risF_get {n : Int} {l : List Int} (h : risF n l = true) {j : Nat} (hj : j < l.length) : 0 ≤ l.getD j 0 ∧ l.getD j 0 ≤ n - 1 := by
  unfold risF at h
  rw [List.all_eq_true] at h
  have := h j (List.mem_range.2 hj)
  simp only [Bool.and_eq_true, decide_eq_true_eq] at this
  exact this.1
theorem sumAt_bound {w : List Int} (hw : ∀ v ∈ w, 0 ≤ v ∧ v ≤ 100000) : ∀ t : List Int, (∀ i ∈ t, 0 ≤ i ∧ i < (w.length : Int)) → 0 ≤ sumAt w t ∧ sumAt w t ≤ 100000 * (t.length : Int)
  | [], _ => by simp [sumAt]
  | i :: t, h => by
    have ih := sumAt_bound hw t fun j hj => h j (List.mem_cons_of_mem _ hj)
    have hi := h i (by simp)
    have hv := hw _ (getD_mem w 0 (k := i.toNat) (by omega))
    simp only [sumAt, List.length_cons]
    omega
end Go.SX.We

/- Chapter 08: the law of Clash, what is asked. -/
namespace Go.SX.We
open Go Go.Proofs
noncomputable section
abbrev aWs : ATy := (false, .slice (.int .u16))
abbrev aW : ATy := (false, .int .u16)
abbrev aU8 : ATy := (false, .int .u8)
abbrev aBs : ATy := (false, .slice (.int .u8))
abbrev aB2 : ATy := (true, .pair (.int .u8) (.int .u8))
@[reducible] def p32 : PC := ⟨32, [aWs, aI], [aIs], fun p => (∀ v ∈ p.1, 0 ≤ v ∧ v ≤ 65535) ∧ 1 ≤ p.2 ∧ p.2 ≤ 12, fun p => madeF p.1 p.2.toNat⟩
@[reducible] def A32 (x : List Int) (m : Nat) : Ann where
  τ := Nat
  pre := []
  preC := []
  keep := [0, 1]
  slots k := [(5, .c (.own 0 1)), (6, .c (.int .i64 (madeS x k))), (7, .c (.int .i64 k))]
  ents k := [(0, .row 3 (.int .i64) 0 (madeL x k))]
  ok k := k ≤ min x.length m
  m k := min x.length m - k
@[reducible] def C32 (p : List Int × Int) : Ctx := cx [] [(0, fun _ => A32 p.1 p.2.toNat)]
def g32 (x : List Int) (m : Int) : Prop := p32.VC (C32 (x, m)) Try.f32 (x, m)
@[reducible] def p34 : PC := ⟨34, [aIs, aIs], [aI], fun p => (p.1.length ≤ 1000 ∧ p.2.length ≤ 1000) ∧ ∀ v ∈ p.1, 0 ≤ v ∧ v ≤ 100000, fun p => totF p.1 p.2⟩
@[reducible] def C34 (p : List Int × List Int) : Ctx := cx [p62.ci] [(0, fun _ => upToS p.2.length 6 [0, 1] (fun _ => True) fun k => [(5, .c (.int .i64 (sumAt p.1 (p.2.take k))))])]
def g34 (l set : List Int) : Prop := p34.VC (C34 (l, set)) Try.f34 (l, set)
@[reducible] def p7 : PC := ⟨7, [aWs], [aB], fun x => ∀ v ∈ x, 0 ≤ v ∧ v ≤ 65535, fun _ => true⟩
@[reducible] def C7 (x : List Int) : Ctx := cx [p32.ci, p16.ci, p17.ci, p19.ci, p33.ci, p34.ci, p35.ci] [(0, fun _ => upTo (clashF (madeF x 12)).1.length 9 [3, 6, 7] fun _ => True)]
def g7 (x : List Int) : Prop := p7.VC (C7 x) Try.f7 x
end
end Go.SX.We

/- Printed by VC.lean: what the executor asks. -/
namespace Go.SX.We
open Go Go.Proofs
theorem g32_eq (x : List Int) (m : Int) : g32 x m = (
 (∃ (x0 : Nat), x0 ≤ min x.length m.toNat ∧ (nilT Int = madeL x x0 ∧ True) ∧ True ∧ (0 : Int) = madeS x x0 ∧ (0 : Int) = (↑x0 : Int) ∧ x = x ∧ m = m ∧ True) ∧
 ∀ (x_1 : Nat),
 x_1 ≤ min x.length m.toNat →
 ((↑x_1 : Int) < (↑x.length : Int) →
 (↑x_1 : Int) < (↑x.length : Int) ∧
 (↑x_1 : Int) < (↑x.length : Int) ∧
 ((↑x_1 : Int) < m →
 (↑x_1 : Int) < m ∧
 (↑x_1 : Int) < m ∧
 ((0 : Int) ≤ (↑x_1 : Int) ∧ (↑x_1 : Int) < (↑x.length : Int)) ∧
 Fits IntKind.i64 (x.getD (↑x_1 : Int).toNat (0 : Int)) ∧
 ((0 : Int) ≤ x.getD (↑x_1 : Int).toNat (0 : Int) ∧ (0 : Int) < (8000 : Int)) ∧
 Fits IntKind.i64 (x.getD (↑x_1 : Int).toNat (0 : Int) % (8000 : Int) + (1 : Int)) ∧
 Fits IntKind.i64 (madeS x x_1 + (x.getD (↑x_1 : Int).toNat (0 : Int) % (8000 : Int) + (1 : Int))) ∧
 Small ((madeL x x_1).length + ((0 : Nat) + (1 : Nat))) ∧
 Fits IntKind.i64 ((↑x_1 : Int) + (1 : Int)) ∧
 ∃ (x' : Nat),
 x' ≤ min x.length m.toNat ∧
 min x.length m.toNat - x' < min x.length m.toNat - x_1 ∧
 (madeL x x_1 ++ [madeS x x_1 + (x.getD (↑x_1 : Int).toNat (0 : Int) % (8000 : Int) + (1 : Int))] = madeL x x' ∧ True) ∧
 True ∧
 madeS x x_1 + (x.getD (↑x_1 : Int).toNat (0 : Int) % (8000 : Int) + (1 : Int)) = madeS x x' ∧
 (↑x_1 : Int) + (1 : Int) = (↑x' : Int) ∧ x = x ∧ m = m ∧ True) ∧
 (¬(↑x_1 : Int) < m →
 ¬(↑x_1 : Int) < m ∧
 ¬(↑x_1 : Int) < m ∧
 ((↑(madeL x x_1).length : Int) = (0 : Int) → (↑(madeL x x_1).length : Int) = (0 : Int) ∧ [(1 : Int)] = madeF x m.toNat) ∧
 (¬(↑(madeL x x_1).length : Int) = (0 : Int) → ¬(↑(madeL x x_1).length : Int) = (0 : Int) ∧ madeL x x_1 = madeF x m.toNat))) ∧
 (¬(↑x_1 : Int) < (↑x.length : Int) →
 ¬(↑x_1 : Int) < (↑x.length : Int) ∧
 ¬(↑x_1 : Int) < (↑x.length : Int) ∧
 ((↑(madeL x x_1).length : Int) = (0 : Int) → (↑(madeL x x_1).length : Int) = (0 : Int) ∧ [(1 : Int)] = madeF x m.toNat) ∧
 (¬(↑(madeL x x_1).length : Int) = (0 : Int) → ¬(↑(madeL x x_1).length : Int) = (0 : Int) ∧ madeL x x_1 = madeF x m.toNat))) := by
 kernel_rfl

theorem g34_eq (l : List Int) (set : List Int) : g34 l set = (
 (set.length ≤ (1000 : Nat) ∧ (0 : Int) ≤ (↑l.length : Int) ∧ (↑l.length : Int) ≤ (1000 : Int)) ∧
 ((!risF (↑l.length : Int) set) = true → (!risF (↑l.length : Int) set) = true ∧ (-1 : Int) = totF l set) ∧
 ((!risF (↑l.length : Int) set) = false →
 (!risF (↑l.length : Int) set) = false ∧
 (∃ (x0 : Nat), (x0 ≤ set.length ∧ True) ∧ True ∧ (0 : Int) = (↑x0 : Int) ∧ (0 : Int) = sumAt l (List.take x0 set) ∧ l = l ∧ set = set ∧ True) ∧
 ∀ (x : Nat),
 x ≤ set.length ∧ True →
 ((↑x : Int) < (↑set.length : Int) →
 (↑x : Int) < (↑set.length : Int) ∧
 ((0 : Int) ≤ (↑x : Int) ∧ (↑x : Int) < (↑set.length : Int)) ∧
 ((0 : Int) ≤ set.getD (↑x : Int).toNat (0 : Int) ∧ set.getD (↑x : Int).toNat (0 : Int) < (↑l.length : Int)) ∧
 Fits IntKind.i64 (sumAt l (List.take x set) + l.getD (set.getD (↑x : Int).toNat (0 : Int)).toNat (0 : Int)) ∧
 Fits IntKind.i64 ((↑x : Int) + (1 : Int)) ∧
 ∃ (x' : Nat),
 (x' ≤ set.length ∧ True) ∧
 set.length - x' < set.length - x ∧
 True ∧
 (↑x : Int) + (1 : Int) = (↑x' : Int) ∧
 sumAt l (List.take x set) + l.getD (set.getD (↑x : Int).toNat (0 : Int)).toNat (0 : Int) = sumAt l (List.take x' set) ∧
 l = l ∧ set = set ∧ True) ∧
 (¬(↑x : Int) < (↑set.length : Int) → ¬(↑x : Int) < (↑set.length : Int) ∧ sumAt l (List.take x set) = totF l set))) := by
 kernel_rfl

theorem g7_eq (x : List Int) : g7 x = (
 ((∀ (v : Int), v ∈ x → (0 : Int) ≤ v ∧ v ≤ (65535 : Int)) ∧ (1 : Int) ≤ (12 : Int) ∧ (12 : Int) ≤ (12 : Int)) ∧
 (madeF x (Int.toNat (12 : Int))).length ≤ (1000 : Nat) ∧
 (madeF x (Int.toNat (12 : Int))).length ≤ (1000 : Nat) ∧
 (¬(distinctF (madeF x (Int.toNat (12 : Int)))).snd = (0 : Int) →
 ¬(distinctF (madeF x (Int.toNat (12 : Int)))).snd = (0 : Int) ∧ ¬(distinctF (madeF x (Int.toNat (12 : Int)))).snd = (0 : Int) ∧ false = true) ∧
 (¬¬(distinctF (madeF x (Int.toNat (12 : Int)))).snd = (0 : Int) →
 ¬¬(distinctF (madeF x (Int.toNat (12 : Int)))).snd = (0 : Int) ∧
 ¬¬(distinctF (madeF x (Int.toNat (12 : Int)))).snd = (0 : Int) ∧
 (¬(distinctF (madeF x (Int.toNat (12 : Int)))).fst = decide ((clashF (madeF x (Int.toNat (12 : Int)))).snd.snd = (5 : Int)) →
 ¬(distinctF (madeF x (Int.toNat (12 : Int)))).fst = decide ((clashF (madeF x (Int.toNat (12 : Int)))).snd.snd = (5 : Int)) ∧
 ¬(distinctF (madeF x (Int.toNat (12 : Int)))).fst = decide ((clashF (madeF x (Int.toNat (12 : Int)))).snd.snd = (5 : Int)) ∧
 ¬(distinctF (madeF x (Int.toNat (12 : Int)))).fst = decide ((clashF (madeF x (Int.toNat (12 : Int)))).snd.snd = (5 : Int)) ∧ false = true) ∧
 (¬¬(distinctF (madeF x (Int.toNat (12 : Int)))).fst = decide ((clashF (madeF x (Int.toNat (12 : Int)))).snd.snd = (5 : Int)) →
 ¬¬(distinctF (madeF x (Int.toNat (12 : Int)))).fst = decide ((clashF (madeF x (Int.toNat (12 : Int)))).snd.snd = (5 : Int)) ∧
 ¬¬(distinctF (madeF x (Int.toNat (12 : Int)))).fst = decide ((clashF (madeF x (Int.toNat (12 : Int)))).snd.snd = (5 : Int)) ∧
 ¬¬(distinctF (madeF x (Int.toNat (12 : Int)))).fst = decide ((clashF (madeF x (Int.toNat (12 : Int)))).snd.snd = (5 : Int)) ∧
 (¬(!(distinctF (madeF x (Int.toNat (12 : Int)))).fst) = decide ((clashF (madeF x (Int.toNat (12 : Int)))).snd.snd = (0 : Int)) →
 ¬(!(distinctF (madeF x (Int.toNat (12 : Int)))).fst) = decide ((clashF (madeF x (Int.toNat (12 : Int)))).snd.snd = (0 : Int)) ∧
 ¬(!(distinctF (madeF x (Int.toNat (12 : Int)))).fst) = decide ((clashF (madeF x (Int.toNat (12 : Int)))).snd.snd = (0 : Int)) ∧
 ¬(!(distinctF (madeF x (Int.toNat (12 : Int)))).fst) = decide ((clashF (madeF x (Int.toNat (12 : Int)))).snd.snd = (0 : Int)) ∧ false = true) ∧
 (¬¬(!(distinctF (madeF x (Int.toNat (12 : Int)))).fst) = decide ((clashF (madeF x (Int.toNat (12 : Int)))).snd.snd = (0 : Int)) →
 ¬¬(!(distinctF (madeF x (Int.toNat (12 : Int)))).fst) = decide ((clashF (madeF x (Int.toNat (12 : Int)))).snd.snd = (0 : Int)) ∧
 ¬¬(!(distinctF (madeF x (Int.toNat (12 : Int)))).fst) = decide ((clashF (madeF x (Int.toNat (12 : Int)))).snd.snd = (0 : Int)) ∧
 ¬¬(!(distinctF (madeF x (Int.toNat (12 : Int)))).fst) = decide ((clashF (madeF x (Int.toNat (12 : Int)))).snd.snd = (0 : Int)) ∧
 True ∧
 (false = true → false = true ∧ false = true ∧ false = true) ∧
 (false = false →
 false = false ∧
 false = false ∧
 ((distinctF (madeF x (Int.toNat (12 : Int)))).fst = true →
 (distinctF (madeF x (Int.toNat (12 : Int)))).fst = true ∧
 (distinctF (madeF x (Int.toNat (12 : Int)))).fst = true ∧
 (distinctF (madeF x (Int.toNat (12 : Int)))).fst = true ∧
 (distinctF (madeF x (Int.toNat (12 : Int)))).fst = true ∧
 (distinctF (madeF x (Int.toNat (12 : Int)))).fst = true ∧ true = true) ∧
 ((distinctF (madeF x (Int.toNat (12 : Int)))).fst = false →
 (distinctF (madeF x (Int.toNat (12 : Int)))).fst = false ∧
 (distinctF (madeF x (Int.toNat (12 : Int)))).fst = false ∧
 (distinctF (madeF x (Int.toNat (12 : Int)))).fst = false ∧
 (distinctF (madeF x (Int.toNat (12 : Int)))).fst = false ∧
 (distinctF (madeF x (Int.toNat (12 : Int)))).fst = false ∧
 (∃ (x0 : Nat),
 (x0 ≤ (clashF (madeF x (12 : Nat))).fst.length ∧ True) ∧
 True ∧
 (0 : Int) = (↑x0 : Int) ∧
 (clashF (madeF x (Int.toNat (12 : Int)))).snd.fst = (clashF (madeF x (Int.toNat (12 : Int)))).snd.fst ∧
 (clashF (madeF x (Int.toNat (12 : Int)))).fst = (clashF (madeF x (Int.toNat (12 : Int)))).fst ∧
 madeF x (Int.toNat (12 : Int)) = madeF x (Int.toNat (12 : Int)) ∧ True) ∧
 ∀ (x_1 : Nat),
 x_1 ≤ (clashF (madeF x (12 : Nat))).fst.length ∧ True →
 ((↑x_1 : Int) < (↑(clashF (madeF x (Int.toNat (12 : Int)))).fst.length : Int) →
 (↑x_1 : Int) < (↑(clashF (madeF x (Int.toNat (12 : Int)))).fst.length : Int) ∧
 ((0 : Int) ≤ (↑x_1 : Int) ∧ (↑x_1 : Int) < (↑(clashF (madeF x (Int.toNat (12 : Int)))).fst.length : Int)) ∧
 (clashF (madeF x (Int.toNat (12 : Int)))).snd.fst.length ≤ (1000 : Nat) ∧
 (hasI (clashF (madeF x (Int.toNat (12 : Int)))).snd.fst
 ((clashF (madeF x (Int.toNat (12 : Int)))).fst.getD (↑x_1 : Int).toNat (0 : Int)) =
 true →
 hasI (clashF (madeF x (Int.toNat (12 : Int)))).snd.fst
 ((clashF (madeF x (Int.toNat (12 : Int)))).fst.getD (↑x_1 : Int).toNat (0 : Int)) =
 true ∧
 false = true) ∧
 (hasI (clashF (madeF x (Int.toNat (12 : Int)))).snd.fst
 ((clashF (madeF x (Int.toNat (12 : Int)))).fst.getD (↑x_1 : Int).toNat (0 : Int)) =
 false →
 hasI (clashF (madeF x (Int.toNat (12 : Int)))).snd.fst
 ((clashF (madeF x (Int.toNat (12 : Int)))).fst.getD (↑x_1 : Int).toNat (0 : Int)) =
 false ∧
 Fits IntKind.i64 ((↑x_1 : Int) + (1 : Int)) ∧
 ∃ (x' : Nat),
 (x' ≤ (clashF (madeF x (12 : Nat))).fst.length ∧ True) ∧
 (clashF (madeF x (12 : Nat))).fst.length - x' <
 (clashF (madeF x (12 : Nat))).fst.length - x_1 ∧
 True ∧
 (↑x_1 : Int) + (1 : Int) = (↑x' : Int) ∧
 (clashF (madeF x (Int.toNat (12 : Int)))).snd.fst =
 (clashF (madeF x (Int.toNat (12 : Int)))).snd.fst ∧
 (clashF (madeF x (Int.toNat (12 : Int)))).fst =
 (clashF (madeF x (Int.toNat (12 : Int)))).fst ∧
 madeF x (Int.toNat (12 : Int)) = madeF x (Int.toNat (12 : Int)) ∧ True)) ∧
 (¬(↑x_1 : Int) < (↑(clashF (madeF x (Int.toNat (12 : Int)))).fst.length : Int) →
 ¬(↑x_1 : Int) < (↑(clashF (madeF x (Int.toNat (12 : Int)))).fst.length : Int) ∧
 ((0 : Int) < (↑(clashF (madeF x (Int.toNat (12 : Int)))).fst.length : Int) →
 (0 : Int) < (↑(clashF (madeF x (Int.toNat (12 : Int)))).fst.length : Int) ∧
 (0 : Int) < (↑(clashF (madeF x (Int.toNat (12 : Int)))).fst.length : Int) ∧
 ((0 : Int) < (↑(clashF (madeF x (Int.toNat (12 : Int)))).snd.fst.length : Int) →
 (0 : Int) < (↑(clashF (madeF x (Int.toNat (12 : Int)))).snd.fst.length : Int) ∧
 (0 : Int) < (↑(clashF (madeF x (Int.toNat (12 : Int)))).snd.fst.length : Int) ∧
 (0 : Int) < (↑(clashF (madeF x (Int.toNat (12 : Int)))).snd.fst.length : Int) ∧
 (((madeF x (Int.toNat (12 : Int))).length ≤ (1000 : Nat) ∧
 (clashF (madeF x (Int.toNat (12 : Int)))).fst.length ≤ (1000 : Nat)) ∧
 ∀ (v : Int), v ∈ madeF x (Int.toNat (12 : Int)) → (0 : Int) ≤ v ∧ v ≤ (100000 : Int)) ∧
 ((0 : Int) ≤
 totF (madeF x (Int.toNat (12 : Int)))
 (clashF (madeF x (Int.toNat (12 : Int)))).fst →
 (0 : Int) ≤
 totF (madeF x (Int.toNat (12 : Int)))
 (clashF (madeF x (Int.toNat (12 : Int)))).fst ∧
 (0 : Int) ≤
 totF (madeF x (Int.toNat (12 : Int)))
 (clashF (madeF x (Int.toNat (12 : Int)))).fst ∧
 (0 : Int) ≤
 totF (madeF x (Int.toNat (12 : Int)))
 (clashF (madeF x (Int.toNat (12 : Int)))).fst ∧
 (((madeF x (Int.toNat (12 : Int))).length ≤ (1000 : Nat) ∧
 (clashF (madeF x (Int.toNat (12 : Int)))).fst.length ≤ (1000 : Nat)) ∧
 ∀ (v : Int),
 v ∈ madeF x (Int.toNat (12 : Int)) → (0 : Int) ≤ v ∧ v ≤ (100000 : Int)) ∧
 (((madeF x (Int.toNat (12 : Int))).length ≤ (1000 : Nat) ∧
 (clashF (madeF x (Int.toNat (12 : Int)))).snd.fst.length ≤
 (1000 : Nat)) ∧
 ∀ (v : Int),
 v ∈ madeF x (Int.toNat (12 : Int)) →
 (0 : Int) ≤ v ∧ v ≤ (100000 : Int)) ∧
 (totF (madeF x (Int.toNat (12 : Int)))
 (clashF (madeF x (Int.toNat (12 : Int)))).fst =
 totF (madeF x (Int.toNat (12 : Int)))
 (clashF (madeF x (Int.toNat (12 : Int)))).snd.fst →
 totF (madeF x (Int.toNat (12 : Int)))
 (clashF (madeF x (Int.toNat (12 : Int)))).fst =
 totF (madeF x (Int.toNat (12 : Int)))
 (clashF (madeF x (Int.toNat (12 : Int)))).snd.fst ∧
 totF (madeF x (Int.toNat (12 : Int)))
 (clashF (madeF x (Int.toNat (12 : Int)))).fst =
 totF (madeF x (Int.toNat (12 : Int)))
 (clashF (madeF x (Int.toNat (12 : Int)))).snd.fst ∧
 totF (madeF x (Int.toNat (12 : Int)))
 (clashF (madeF x (Int.toNat (12 : Int)))).fst =
 totF (madeF x (Int.toNat (12 : Int)))
 (clashF (madeF x (Int.toNat (12 : Int)))).snd.fst ∧
 ((clashF (madeF x (Int.toNat (12 : Int)))).fst.length ≤
 (1000 : Nat) ∧
 (clashF (madeF x (Int.toNat (12 : Int)))).snd.fst.length ≤
 (1000 : Nat)) ∧
 beforeF (clashF (madeF x (Int.toNat (12 : Int)))).fst
 (clashF (madeF x (Int.toNat (12 : Int)))).snd.fst =
 true) ∧
 (¬totF (madeF x (Int.toNat (12 : Int)))
 (clashF (madeF x (Int.toNat (12 : Int)))).fst =
 totF (madeF x (Int.toNat (12 : Int)))
 (clashF (madeF x (Int.toNat (12 : Int)))).snd.fst →
 ¬totF (madeF x (Int.toNat (12 : Int)))
 (clashF (madeF x (Int.toNat (12 : Int)))).fst =
 totF (madeF x (Int.toNat (12 : Int)))
 (clashF (madeF x (Int.toNat (12 : Int)))).snd.fst ∧
 ¬totF (madeF x (Int.toNat (12 : Int)))
 (clashF (madeF x (Int.toNat (12 : Int)))).fst =
 totF (madeF x (Int.toNat (12 : Int)))
 (clashF (madeF x (Int.toNat (12 : Int)))).snd.fst ∧
 ¬totF (madeF x (Int.toNat (12 : Int)))
 (clashF (madeF x (Int.toNat (12 : Int)))).fst =
 totF (madeF x (Int.toNat (12 : Int)))
 (clashF (madeF x (Int.toNat (12 : Int)))).snd.fst ∧
 false = true)) ∧
 (¬(0 : Int) ≤
 totF (madeF x (Int.toNat (12 : Int)))
 (clashF (madeF x (Int.toNat (12 : Int)))).fst →
 ¬(0 : Int) ≤
 totF (madeF x (Int.toNat (12 : Int)))
 (clashF (madeF x (Int.toNat (12 : Int)))).fst ∧
 ¬(0 : Int) ≤
 totF (madeF x (Int.toNat (12 : Int)))
 (clashF (madeF x (Int.toNat (12 : Int)))).fst ∧
 ¬(0 : Int) ≤
 totF (madeF x (Int.toNat (12 : Int)))
 (clashF (madeF x (Int.toNat (12 : Int)))).fst ∧
 false = true)) ∧
 (¬(0 : Int) < (↑(clashF (madeF x (Int.toNat (12 : Int)))).snd.fst.length : Int) →
 ¬(0 : Int) < (↑(clashF (madeF x (Int.toNat (12 : Int)))).snd.fst.length : Int) ∧
 ¬(0 : Int) < (↑(clashF (madeF x (Int.toNat (12 : Int)))).snd.fst.length : Int) ∧
 ¬(0 : Int) < (↑(clashF (madeF x (Int.toNat (12 : Int)))).snd.fst.length : Int) ∧
 false = true)) ∧
 (¬(0 : Int) < (↑(clashF (madeF x (Int.toNat (12 : Int)))).fst.length : Int) →
 ¬(0 : Int) < (↑(clashF (madeF x (Int.toNat (12 : Int)))).fst.length : Int) ∧
 ¬(0 : Int) < (↑(clashF (madeF x (Int.toNat (12 : Int)))).fst.length : Int) ∧ false = true)))))))) := by
 kernel_rfl

end Go.SX.We

/- Chapter 08: the law of Clash, proved. -/
namespace Go.SX.We
open Go Go.Proofs

theorem ok32 : p32.OK Try.prog := p32.ok (fn := Try.f32) C32 (fun _ => cx0') (by kernel_rfl) (by kernel_rfl) (by kernel_rfl) fun p hp => by
  have key : ∀ (x : List Int) (m : Int), (∀ v ∈ x, 0 ≤ v ∧ v ≤ 65535) → 1 ≤ m → m ≤ 12 → g32 x m := fun x m hx h1 h2 => by
    refine (g32_eq x m).mpr ?_
    simp only [pp1, eq_self, and_true, true_and, Int.toNat_natCast, madeL_length]
    have fin : ∀ k : Nat, k = min x.length m.toNat → ((k : Int) = 0 → [1] = madeF x m.toNat) ∧ (¬ (k : Int) = 0 → madeL x k = madeF x m.toNat) := fun k hk => by
      unfold madeF
      rw [← hk]
      exact ⟨fun h => by rw [decide_eq_true (show k = 0 by omega)]; rfl, fun h => by rw [decide_eq_false (show ¬ k = 0 by omega)]; rfl⟩
    refine ⟨⟨0, by omega, rfl, rfl, rfl⟩, fun k hk => ⟨fun h3 => ⟨fun h4 => ?_, fun h4 => fin k (by omega)⟩, fun h3 => fin k (by omega)⟩⟩
    have hv := hx _ (getD_mem x 0 (k := k) (by omega))
    have hs := madeS_small x k
    exact ⟨by omega, fi (by omega) (by omega), by omega, fi (by omega) (by omega), fi (by omega) (by omega), by unfold Small; omega, fi (by omega) (by omega), k + 1, by omega, by omega, (madeL_snoc x k).symm, rfl, by omega⟩
  exact key p.1 p.2 hp.1 hp.2.1 hp.2.2

theorem sumAt_take {l set : List Int} {k : Nat} (hk : k < set.length) : sumAt l (set.take (k + 1)) = sumAt l (set.take k) + l.getD (set.getD k 0).toNat 0 := by
  rw [List.take_add_one, List.getElem?_eq_getElem hk, Option.toList, sumAt_append]
  simp [sumAt, List.getD, List.getElem?_eq_getElem hk]
theorem ok34 : p34.OK Try.prog := p34.ok (fn := Try.f34) C34 (fun _ => cx_ok (cs := [p62.ci]) ⟨PC.OK.ci ok62, trivial⟩ _) (by kernel_rfl) (by kernel_rfl) (by kernel_rfl) fun p hp => by
  have key : ∀ l set : List Int, l.length ≤ 1000 → set.length ≤ 1000 → (∀ v ∈ l, 0 ≤ v ∧ v ≤ 100000) → g34 l set := fun l set h1 h2 hl => by
    refine (g34_eq l set).mpr ?_
    simp only [pp1, eq_self, and_true, true_and, Int.toNat_natCast]
    refine ⟨⟨h2, by omega, by omega⟩, fun h => ?_, fun h => ?_⟩
    · have h : risF (l.length : Int) set = false := by simpa using h
      unfold totF; rw [h]; rfl
    · have h : risF (l.length : Int) set = true := by simpa using h
      refine ⟨⟨0, by omega, rfl, by simp [sumAt]⟩, fun k hk => ⟨fun h3 => ?_, fun h3 => ?_⟩⟩
      · have hg := risF_get h (j := k) (by omega)
        have hb := sumAt_bound hl (set.take k) fun i hi => by
          obtain ⟨j, hj, rfl⟩ := mem_getD 0 (List.mem_of_mem_take hi)
          have := risF_get h hj
          omega
        have hv := hl _ (getD_mem l 0 (k := (set.getD k 0).toNat) (by omega))
        rw [List.length_take] at hb
        exact ⟨by omega, by omega, fi (by omega) (by omega), fi (by omega) (by omega), k + 1, by omega, by omega, by omega, (sumAt_take (by omega)).symm⟩
      · have : k = set.length := by omega
        subst this
        rw [List.take_length]
        unfold totF; rw [h]; rfl
  exact key p.1 p.2 hp.1.1 hp.1.2 hp.2

theorem dist_of {w : List Int} (hw : Wts w) : distinctF w = (distF w, 0) := by
  unfold distinctF
  rw [decide_eq_true (check_ok.2 hw)]; rfl
theorem ok7 : p7.OK Try.prog := p7.ok (fn := Try.f7) C7 (fun _ => cx_ok (cs := [p32.ci, p16.ci, p17.ci, p19.ci, p33.ci, p34.ci, p35.ci]) ⟨PC.OK.ci ok32, PC.OK.ci ok16, PC.OK.ci ok17, PC.OK.ci ok19, PC.OK.ci ok33, PC.OK.ci ok34, PC.OK.ci ok35, trivial⟩ _) (by kernel_rfl) (by kernel_rfl) (by kernel_rfl) fun x hx => by
  have key : ∀ x : List Int, (∀ v ∈ x, 0 ≤ v ∧ v ≤ 65535) → g7 x := fun x hx => by
    refine (g7_eq x).mpr ?_
    have e12 : Int.toNat 12 = 12 := rfl
    simp only [pp1, eq_self, and_true, true_and, Int.toNat_natCast, e12]
    have hw := made_wts x (m := 12) (by decide) (by decide)
    generalize madeF x 12 = w at hw
    have hl := hw.len
    have hv : ∀ v ∈ w, 0 ≤ v ∧ v ≤ 100000 := fun v h => ⟨by have := hw.lo v h; omega, hw.hi v h⟩
    refine ⟨⟨hx, by decide, by decide⟩, by omega, by omega, ?_⟩
    rw [dist_of hw]
    cases hd : distF w with
    | true =>
      rw [clashF_none hw hd]
      simp
    | false =>
      obtain ⟨p, q, hc, hcl⟩ := clashF_some hw hd
      rw [hc]
      obtain ⟨n1, n2⟩ := hcl.ne hw.lo
      have l1 : 0 < p.length := List.length_pos_iff.2 n1
      have l2 : 0 < q.length := List.length_pos_iff.2 n2
      have s1 := hcl.rx.short
      have s2 := hcl.ry.short
      have t1 : totF w p = sumAt w p := by unfold totF; rw [ris_risF hcl.rx]; rfl
      have t2 : totF w q = sumAt w q := by unfold totF; rw [ris_risF hcl.ry]; rfl
      have hp := (sumAt_pos hw.lo hcl.rx).1
      have hno : ∀ k, k < p.length → hasI q (p.getD k 0) = false := fun k hk => by
        unfold hasI
        exact decide_eq_false (hcl.dis _ (getD_mem p 0 hk))
      dsimp only
      refine ⟨fun h => absurd rfl h, fun _ => ⟨fun h => absurd (by simp) h, fun _ => ⟨fun h => absurd (by simp) h, fun _ => ⟨fun h => h, fun _ => ⟨fun h => h, fun _ => ⟨⟨0, by omega, rfl⟩, fun k hk => ⟨fun h3 => ⟨by omega, by omega, fun h4 => ?_, fun h4 => ⟨fi (by omega) (by omega), k + 1, by omega, by omega, by omega⟩⟩,
        fun h3 => ⟨fun _ => ⟨fun _ => ⟨⟨⟨by omega, by omega⟩, hv⟩, fun _ => ⟨⟨⟨by omega, by omega⟩, hv⟩, ⟨⟨by omega, by omega⟩, hv⟩, fun _ => ⟨⟨by omega, by omega⟩, hcl.ap⟩, fun h => ?_⟩, fun h => ?_⟩, fun h => ?_⟩, fun h => ?_⟩⟩⟩⟩⟩⟩⟩⟩
      · rw [hno k (by omega)] at h4; cases h4
      · exact absurd (by rw [t1, t2]; exact hcl.sum) h
      · exact absurd (by rw [t1]; exact hp) h
      · exact absurd (by omega) h
      · exact absurd (by omega) h
  exact key x hx
end Go.SX.We
