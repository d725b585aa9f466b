/- Parts of the proof, one after the other: PaB PaD Pa18. -/
import Derived.Test.YtfbgbdiajghnbaaDoorM4
import Derived.Test.YtfbgbdiajghnbaaDoorM5
/- Chapter 06 in plain words, part B: settings of a Benes network for a permutation, by the looping of the program; the two halves of the inputs and outputs. -/
namespace Go.SX.Pa

/-- The other input of a switch. -/
def sgN (x : Nat) : Nat := if x % 2 = 0 then x + 1 else x - 1
theorem sg_sg (x : Nat) : sgN (sgN x) = x := by unfold sgN; split <;> split <;> omega
theorem sg_ne (x : Nat) : sgN x ≠ x := by unfold sgN; split <;> omega
theorem sg_lt {x h : Nat} (hx : x < 2 * h) : sgN x < 2 * h := by unfold sgN; split <;> omega
theorem sg_half (x : Nat) : sgN x / 2 = x / 2 := by unfold sgN; split <;> omega

/-- From which input an output comes. -/
def fromTo (n : Nat) (perm : List Int) : Nat → List Int
  | 0 => List.replicate n 0
  | k + 1 => (fromTo n perm k).set (perm.getD k 0).toNat k
def fromF (n : Nat) (perm : List Int) : List Int := fromTo n perm n
abbrev WkSt := List Bool × List Int × Nat
/-- The input that is linked with another one by its output. -/
def tauN (fr perm : List Int) (x : Nat) : Nat := (fr.getD (sgN (perm.getD x 0).toNat) 0).toNat
def stepW (fr perm : List Int) (s : WkSt) : WkSt := ((s.1.set s.2.2 true).set (sgN s.2.2) true, (s.2.1.set s.2.2 0).set (sgN s.2.2) 1, tauN fr perm (sgN s.2.2))
def iterW (fr perm : List Int) (s : WkSt) : Nat → WkSt
  | 0 => s
  | j + 1 => stepW fr perm (iterW fr perm s j)
def runW (fr perm : List Int) : Nat → WkSt → WkSt
  | 0, s => s
  | f + 1, s => if s.1.getD s.2.2 false = true then s else runW fr perm f (stepW fr perm s)
def partsTo (n : Nat) (perm : List Int) : Nat → List Bool × List Int
  | 0 => (List.replicate n false, List.replicate n 0)
  | x + 1 => let s := runW (fromF n perm) perm n ((partsTo n perm x).1, (partsTo n perm x).2, x); (s.1, s.2.1)
def partF (n : Nat) (perm : List Int) : List Int := (partsTo n perm n).2

/-! ### A step marks what was not marked -/
def undone (d : List Bool) : Nat := d.count false
theorem undone_set (d : List Bool) (i : Nat) : undone (d.set i true) ≤ undone d ∧ (d.getD i true = false → undone (d.set i true) < undone d) := by
  induction d generalizing i with
  | nil => simp [undone]
  | cons b d ih =>
    cases i with
    | zero => cases b <;> simp [undone]
    | succ i =>
      have := ih i
      unfold undone at this ⊢
      simp only [List.set_cons_succ, List.count_cons]
      constructor
      · have := this.1; omega
      · intro h
        have h := this.2 (by simpa using h)
        omega
theorem undone_step {fr perm : List Int} {s : WkSt} (hl : s.2.2 < s.1.length) (h : s.1.getD s.2.2 false = false) : undone (stepW fr perm s).1 < undone s.1 := by
  have h1 := (undone_set s.1 s.2.2).2 (by
    rw [List.getD_eq_getElem?_getD, List.getElem?_eq_getElem hl] at h ⊢
    exact h)
  have h2 := (undone_set (s.1.set s.2.2 true) (sgN s.2.2)).1
  exact Nat.lt_of_le_of_lt h2 h1

/-! ### The invariant -/
section
variable {n : Nat} {σ τ : Nat → Nat}
structure Invo (n : Nat) (τ : Nat → Nat) : Prop where
  lt : ∀ x, x < n → τ x < n
  inv : ∀ x, x < n → τ (τ x) = x
  ne : ∀ x, x < n → τ x ≠ x
def Closed (n : Nat) (σ τ : Nat → Nat) (D : Nat → Prop) (P : Nat → Int) : Prop := ∀ x, x < n → D x → (P x = 0 ∨ P x = 1) ∧ (D (σ x) ∧ P (σ x) = 1 - P x) ∧ D (τ x) ∧ P (τ x) = 1 - P x
structure Run (n : Nat) (σ τ : Nat → Nat) (x0 : Nat) (D : Nat → Prop) (P : Nat → Int) (a : Nat) : Prop where
  lt : a < n
  s : ∀ x, x < n → D x → (P x = 0 ∨ P x = 1) ∧ D (σ x) ∧ P (σ x) = 1 - P x
  t : ∀ x, x < n → D x → x = x0 ∨ (x = τ a ∧ P x = 1) ∨ (D (τ x) ∧ P (τ x) = 1 - P x)
  ta : D (τ a) ∧ P (τ a) = 1
  ox : D x0 ∧ P x0 = 0
  out : D a → a = x0

theorem run_end {x0 a : Nat} {D : Nat → Prop} {P : Nat → Int} (ht : Invo n τ) (hx0 : x0 < n) (h : Run n σ τ x0 D P a) (hD : D a) : Closed n σ τ D P := by
  have e := h.out hD
  subst e
  intro x hx hDx
  obtain ⟨h1, h2⟩ := h.s x hx hDx
  refine ⟨h1, h2, ?_⟩
  rcases h.t x hx hDx with rfl | ⟨rfl, h3⟩ | h3
  · exact ⟨h.ta.1, by rw [h.ta.2, h.ox.2]; rfl⟩
  · rw [ht.inv a hx0, h3]
    exact ⟨h.ox.1, by rw [h.ox.2]; rfl⟩
  · exact h3

/-- What a step does to the marks and the halves. -/
structure Step (σ : Nat → Nat) (a : Nat) (D D' : Nat → Prop) (P P' : Nat → Int) : Prop where
  d : ∀ x, D' x ↔ D x ∨ x = a ∨ x = σ a
  p : ∀ x, x ≠ a → x ≠ σ a → P' x = P x
  pa : P' a = 0
  ps : P' (σ a) = 1

theorem step_run {x0 a : Nat} {D D' : Nat → Prop} {P P' : Nat → Int} (hs : Invo n σ) (ht : Invo n τ) (ha : a < n) (st : Step σ a D D' P P') (hD : ¬ D a)
    (h : (Closed n σ τ D P ∧ a = x0) ∨ Run n σ τ x0 D P a) : Run n σ τ x0 D' P' (τ (σ a)) := by
  have hsa := hs.lt a ha
  have hss : ∀ x, x < n → D x → (P x = 0 ∨ P x = 1) ∧ D (σ x) ∧ P (σ x) = 1 - P x := fun x hx hDx => by
    rcases h with ⟨h, _⟩ | h
    · exact ⟨(h x hx hDx).1, (h x hx hDx).2.1⟩
    · exact h.s x hx hDx
  have hDs : ¬ D (σ a) := fun h1 => hD (by have := (hss _ hsa h1).2.1; rwa [hs.inv a ha] at this)
  have old : ∀ x, D x → x ≠ a ∧ x ≠ σ a := fun x hx => ⟨fun e => hD (e ▸ hx), fun e => hDs (e ▸ hx)⟩
  have pold : ∀ x, D x → P' x = P x := fun x hx => st.p x (old x hx).1 (old x hx).2
  have da : D' a := (st.d a).2 (.inr (.inl rfl))
  have ds : D' (σ a) := (st.d _).2 (.inr (.inr rfl))
  have dold : ∀ x, D x → D' x := fun x hx => (st.d x).2 (.inl hx)
  refine ⟨ht.lt _ hsa, fun x hx hx' => ?_, fun x hx hx' => ?_, ?_, ?_, fun h' => ?_⟩
  · rcases (st.d x).1 hx' with h1 | rfl | rfl
    · obtain ⟨q1, q2, q3⟩ := hss x hx h1
      rw [pold x h1, pold _ q2]
      exact ⟨q1, dold _ q2, q3⟩
    · rw [st.pa, st.ps]
      exact ⟨.inl rfl, ds, rfl⟩
    · rw [hs.inv a ha, st.pa, st.ps]
      exact ⟨.inr rfl, da, rfl⟩
  · rw [ht.inv _ hsa]
    rcases (st.d x).1 hx' with h1 | rfl | rfl
    · rcases h with ⟨h, _⟩ | h
      · obtain ⟨_, _, q2, q3⟩ := h x hx h1
        rw [pold x h1, pold _ q2]
        exact .inr (.inr ⟨dold _ q2, q3⟩)
      · rcases h.t x hx h1 with q | ⟨rfl, q⟩ | ⟨q2, q3⟩
        · exact .inl q
        · rw [ht.inv a ha, pold _ h1, q, st.pa]
          exact .inr (.inr ⟨da, rfl⟩)
        · rw [pold x h1, pold _ q2]
          exact .inr (.inr ⟨dold _ q2, q3⟩)
    · rcases h with ⟨_, h⟩ | h
      · exact .inl h
      · rw [pold _ h.ta.1, h.ta.2, st.pa]
        exact .inr (.inr ⟨dold _ h.ta.1, rfl⟩)
    · exact .inr (.inl ⟨rfl, st.ps⟩)
  · rw [ht.inv _ hsa]; exact ⟨ds, st.ps⟩
  · rcases h with ⟨_, rfl⟩ | h
    · exact ⟨da, st.pa⟩
    · rw [pold _ h.ox.1]; exact ⟨dold _ h.ox.1, h.ox.2⟩
  · rcases (st.d _).1 h' with h1 | h1 | h1
    · rcases h with ⟨h, _⟩ | h
      · exact absurd (by have := (h _ (ht.lt _ hsa) h1).2.2.1; rwa [ht.inv _ hsa] at this) hDs
      · rcases h.t _ (ht.lt _ hsa) h1 with q | ⟨q, _⟩ | ⟨q2, _⟩
        · exact q
        · have := congrArg τ q
          rw [ht.inv _ hsa, ht.inv a ha] at this
          exact absurd this (hs.ne a ha)
        · exact absurd (by rwa [ht.inv _ hsa] at q2) hDs
    · rcases h with ⟨_, rfl⟩ | h
      · exact h1
      · have h2 := h.ta.1
        have : τ a = σ a := by have := ht.inv _ hsa; rwa [h1] at this
        rw [this] at h2
        exact absurd h2 hDs
    · exact absurd h1 (ht.ne _ hsa)
end

/-! ### On lists -/
def DoneL (d : List Bool) (x : Nat) : Prop := d.getD x false = true
def PartL (p : List Int) (x : Nat) : Int := p.getD x 0
theorem getD_set {α : Type} (l : List α) (d v : α) (i j : Nat) : (l.set i v).getD j d = if i = j ∧ i < l.length then v else l.getD j d := by
  rw [List.getD_eq_getElem?_getD, List.getElem?_set, List.getD_eq_getElem?_getD]
  by_cases h : i = j
  · subst h
    by_cases h2 : i < l.length
    · simp [h2]
    · simp [h2]
  · simp [h]
theorem stepW_step {fr perm : List Int} {s : WkSt} {h : Nat} (h1 : s.1.length = 2 * h) (h2 : s.2.1.length = 2 * h) (ha : s.2.2 < 2 * h) :
    Step sgN s.2.2 (DoneL s.1) (DoneL (stepW fr perm s).1) (PartL s.2.1) (PartL (stepW fr perm s).2.1) := by
  have hs := sg_lt ha
  have hne := sg_ne s.2.2
  refine ⟨fun x => ?_, fun x q1 q2 => ?_, ?_, ?_⟩
  · unfold DoneL stepW
    simp only
    rw [getD_set, getD_set]
    by_cases e1 : sgN s.2.2 = x
    · rw [if_pos ⟨e1, by simp; omega⟩]
      exact ⟨fun _ => .inr (.inr e1.symm), fun _ => rfl⟩
    · rw [if_neg (fun q => e1 q.1)]
      by_cases e2 : s.2.2 = x
      · rw [if_pos ⟨e2, by omega⟩]
        exact ⟨fun _ => .inr (.inl e2.symm), fun _ => rfl⟩
      · rw [if_neg (fun q => e2 q.1)]
        exact ⟨.inl, fun q => q.elim id fun q => q.elim (fun q => absurd q.symm e2) (fun q => absurd q.symm e1)⟩
  · unfold PartL stepW
    simp only
    rw [getD_set, getD_set, if_neg (fun q => q2 q.1.symm), if_neg (fun q => q1 q.1.symm)]
  · unfold PartL stepW
    simp only
    rw [getD_set, getD_set, if_neg (fun q => hne q.1), if_pos ⟨rfl, by omega⟩]
  · unfold PartL stepW
    simp only
    rw [getD_set, if_pos ⟨rfl, by simp; omega⟩]

section
variable {fr perm : List Int} {h : Nat}
theorem runW_ok (ht : Invo (2 * h) (tauN fr perm)) {x0 : Nat} (hx0 : x0 < 2 * h) : (f : Nat) → (s : WkSt) → s.1.length = 2 * h → s.2.1.length = 2 * h → s.2.2 < 2 * h → undone s.1 ≤ f →
    (Closed (2 * h) sgN (tauN fr perm) (DoneL s.1) (PartL s.2.1) ∧ s.2.2 = x0) ∨ Run (2 * h) sgN (tauN fr perm) x0 (DoneL s.1) (PartL s.2.1) s.2.2 →
    Closed (2 * h) sgN (tauN fr perm) (DoneL (runW fr perm f s).1) (PartL (runW fr perm f s).2.1) ∧ DoneL (runW fr perm f s).1 x0 ∧ (runW fr perm f s).1.length = 2 * h ∧ (runW fr perm f s).2.1.length = 2 * h ∧
      ∀ x, DoneL s.1 x → DoneL (runW fr perm f s).1 x := by
  have hs : Invo (2 * h) sgN := ⟨fun x hx => sg_lt hx, fun x _ => sg_sg x, fun x _ => sg_ne x⟩
  have stop : ∀ s : WkSt, s.1.length = 2 * h → s.2.1.length = 2 * h → DoneL s.1 s.2.2 → ((Closed (2 * h) sgN (tauN fr perm) (DoneL s.1) (PartL s.2.1) ∧ s.2.2 = x0) ∨ Run (2 * h) sgN (tauN fr perm) x0 (DoneL s.1) (PartL s.2.1) s.2.2) →
      Closed (2 * h) sgN (tauN fr perm) (DoneL s.1) (PartL s.2.1) ∧ DoneL s.1 x0 ∧ s.1.length = 2 * h ∧ s.2.1.length = 2 * h ∧ ∀ x, DoneL s.1 x → DoneL s.1 x := by
    intro s l1 l2 hd hI
    rcases hI with ⟨q1, q2⟩ | q
    · rw [q2] at hd
      exact ⟨q1, hd, l1, l2, fun _ h => h⟩
    · exact ⟨run_end ht hx0 q hd, q.ox.1, l1, l2, fun _ h => h⟩
  intro f
  induction f with
  | zero =>
    intro s l1 l2 ha hu hI
    refine stop s l1 l2 ?_ hI
    unfold DoneL
    cases hb : s.1.getD s.2.2 false with
    | true => rfl
    | false =>
      have := undone_step (fr := fr) (perm := perm) (s := s) (by omega) hb
      omega
  | succ f ih =>
    intro s l1 l2 ha hu hI
    unfold runW
    split
    · rename_i hd
      exact stop s l1 l2 hd hI
    · rename_i hd
      have hb : s.1.getD s.2.2 false = false := by simpa using hd
      have st := stepW_step (fr := fr) (perm := perm) l1 l2 ha
      have hr := step_run hs ht ha st hd hI
      have hu' := undone_step (fr := fr) (perm := perm) (s := s) (by omega) hb
      obtain ⟨q1, q2, q3, q4, q5⟩ := ih (stepW fr perm s) (by unfold stepW; simp [l1]) (by unfold stepW; simp [l2]) hr.lt (by omega) (.inr hr)
      exact ⟨q1, q2, q3, q4, fun x hx => q5 x ((st.d x).2 (.inl hx))⟩

theorem iter_comm (fr perm : List Int) (s : WkSt) : (j : Nat) → iterW fr perm (stepW fr perm s) j = iterW fr perm s (j + 1)
  | 0 => rfl
  | j + 1 => by
    show stepW fr perm (iterW fr perm (stepW fr perm s) j) = stepW fr perm (iterW fr perm s (j + 1))
    rw [iter_comm fr perm s j]
/-- What holds along a walk. -/
theorem iter_inv (ht : Invo (2 * h) (tauN fr perm)) {x0 : Nat} (s : WkSt) (l1 : s.1.length = 2 * h) (l2 : s.2.1.length = 2 * h) (hx : s.2.2 < 2 * h) (hc : Closed (2 * h) sgN (tauN fr perm) (DoneL s.1) (PartL s.2.1)) (he : s.2.2 = x0) : (j : Nat) →
    (∀ i, i < j → (iterW fr perm s i).1.getD (iterW fr perm s i).2.2 false = false) → (iterW fr perm s j).1.length = 2 * h ∧ (iterW fr perm s j).2.1.length = 2 * h ∧ (iterW fr perm s j).2.2 < 2 * h ∧ undone (iterW fr perm s j).1 + j ≤ undone s.1 ∧
      ((Closed (2 * h) sgN (tauN fr perm) (DoneL (iterW fr perm s j).1) (PartL (iterW fr perm s j).2.1) ∧ (iterW fr perm s j).2.2 = x0) ∨ Run (2 * h) sgN (tauN fr perm) x0 (DoneL (iterW fr perm s j).1) (PartL (iterW fr perm s j).2.1) (iterW fr perm s j).2.2)
  | 0, _ => ⟨l1, l2, hx, Nat.le_refl _, .inl ⟨hc, he⟩⟩
  | j + 1, hj => by
    have hs : Invo (2 * h) sgN := ⟨fun x hx => sg_lt hx, fun x _ => sg_sg x, fun x _ => sg_ne x⟩
    obtain ⟨q1, q2, q3, q4, q5⟩ := iter_inv ht s l1 l2 hx hc he j fun i hi => hj i (by omega)
    have hb := hj j (by omega)
    have hu := undone_step (fr := fr) (perm := perm) (s := iterW fr perm s j) (by omega) hb
    have st := stepW_step (fr := fr) (perm := perm) q1 q2 q3
    have hd : ¬ DoneL (iterW fr perm s j).1 (iterW fr perm s j).2.2 := by unfold DoneL; rw [hb]; decide
    have hr := step_run hs ht q3 st hd q5
    refine ⟨?_, ?_, hr.lt, ?_, .inr hr⟩
    · show (stepW fr perm (iterW fr perm s j)).1.length = _; unfold stepW; simp [q1]
    · show (stepW fr perm (iterW fr perm s j)).2.1.length = _; unfold stepW; simp [q2]
    · show undone (stepW fr perm (iterW fr perm s j)).1 + (j + 1) ≤ _; omega
theorem runW_iter (fr perm : List Int) : (j f : Nat) → (s : WkSt) → j ≤ f → (∀ i, i < j → (iterW fr perm s i).1.getD (iterW fr perm s i).2.2 false = false) → (iterW fr perm s j).1.getD (iterW fr perm s j).2.2 false = true → runW fr perm f s = iterW fr perm s j
  | 0, 0, _, _, _, _ => rfl
  | 0, f + 1, s, _, _, hd => by
    have hd : s.1.getD s.2.2 false = true := hd
    unfold runW; rw [if_pos hd]; rfl
  | j + 1, 0, _, h, _, _ => absurd h (Nat.not_succ_le_zero _)
  | j + 1, f + 1, s, h, hn, hd => by
    have h0 := hn 0 (by omega)
    have h0 : s.1.getD s.2.2 false = false := h0
    unfold runW
    rw [if_neg (by rw [h0]; decide), ← iter_comm]
    exact runW_iter fr perm j f (stepW fr perm s) (by omega) (fun i hi => by rw [iter_comm]; exact hn (i + 1) (by omega)) (by rw [iter_comm]; exact hd)

theorem partsTo_ok (ht : Invo (2 * h) (tauN (fromF (2 * h) perm) perm)) : (x : Nat) → x ≤ 2 * h →
    Closed (2 * h) sgN (tauN (fromF (2 * h) perm) perm) (DoneL (partsTo (2 * h) perm x).1) (PartL (partsTo (2 * h) perm x).2) ∧ (∀ y, y < x → DoneL (partsTo (2 * h) perm x).1 y) ∧
      (partsTo (2 * h) perm x).1.length = 2 * h ∧ (partsTo (2 * h) perm x).2.length = 2 * h
  | 0, _ => by
    refine ⟨fun x hx hd => ?_, fun y hy => absurd hy (Nat.not_lt_zero _), by simp [partsTo], by simp [partsTo]⟩
    unfold DoneL partsTo at hd
    simp [List.getD, hx] at hd
  | x + 1, hx => by
    obtain ⟨h1, h2, h3, h4⟩ := partsTo_ok ht x (by omega)
    have hu : undone (partsTo (2 * h) perm x).1 ≤ 2 * h := by have h9 : undone (partsTo (2 * h) perm x).1 ≤ (partsTo (2 * h) perm x).1.length := List.count_le_length; rwa [h3] at h9
    obtain ⟨q1, q2, q3, q4, q5⟩ := runW_ok (fr := fromF (2 * h) perm) ht (x0 := x) (by omega) (2 * h) ((partsTo (2 * h) perm x).1, (partsTo (2 * h) perm x).2, x) h3 h4 (show x < 2 * h by omega) hu (.inl ⟨h1, rfl⟩)
    refine ⟨q1, fun y hy => ?_, q3, q4⟩
    rcases Nat.lt_succ_iff_lt_or_eq.1 hy with h5 | rfl
    · exact q5 y (h2 y h5)
    · exact q2
end
end Go.SX.Pa

/- Chapter 06 in plain words, part D: the settings that the program finds for a permutation make it (Benes). -/
namespace Go.SX.Pa

def innTo (perm part : List Int) (h : Nat) (p : Int) : Nat → List Int
  | 0 => List.replicate h 0
  | x + 1 => if part.getD x 0 = p then (innTo perm part h p x).set (x / 2) (perm.getD x 0 / 2) else innTo perm part h p x
def fstTo (part : List Int) (h : Nat) : Nat → List Int
  | 0 => List.replicate h 0
  | x + 1 => if x % 2 = 0 then (fstTo part h x).set (x / 2) (48 + part.getD x 0) else fstTo part h x
def lstTo (perm part : List Int) (h : Nat) : Nat → List Int
  | 0 => List.replicate h 0
  | x + 1 => if perm.getD x 0 % 2 = 0 then (lstTo perm part h x).set (perm.getD x 0 / 2).toNat (48 + part.getD x 0) else lstTo perm part h x
/-- The settings. -/
def setF : Nat → List Int → List Int
  | 0, _ => []
  | 1, perm => [48 + perm.getD 0 0]
  | k + 2, perm =>
    let part := partF (2 * hN (k + 2)) perm
    fstTo part (hN (k + 2)) (2 * hN (k + 2)) ++ setF (k + 1) (innTo perm part (hN (k + 2)) 0 (2 * hN (k + 2))) ++ setF (k + 1) (innTo perm part (hN (k + 2)) 1 (2 * hN (k + 2))) ++ lstTo perm part (hN (k + 2)) (2 * hN (k + 2))

theorem setF_next (k : Nat) (perm : List Int) : setF (k + 2) perm = fstTo (partF (2 * hN (k + 2)) perm) (hN (k + 2)) (2 * hN (k + 2)) ++ setF (k + 1) (innTo perm (partF (2 * hN (k + 2)) perm) (hN (k + 2)) 0 (2 * hN (k + 2))) ++
    setF (k + 1) (innTo perm (partF (2 * hN (k + 2)) perm) (hN (k + 2)) 1 (2 * hN (k + 2))) ++ lstTo perm (partF (2 * hN (k + 2)) perm) (hN (k + 2)) (2 * hN (k + 2)) := rfl

/-! ### The permutation and its inverse -/
section
variable {perm : List Int} {n : Nat} (hp : PermP perm n)
include hp
theorem perm_len : perm.length = n := by have := hp.1; omega
theorem perm_in {x : Nat} (hx : x < n) : 0 ≤ perm.getD x 0 ∧ perm.getD x 0 < n := hp.2.1 _ (getD_mem perm 0 (by rw [perm_len hp]; exact hx))
theorem perm_inj {x y : Nat} (hx : x < n) (hy : y < n) (h : perm.getD x 0 = perm.getD y 0) : x = y := by
  have hl := perm_len hp
  rw [List.getD_eq_getElem?_getD, List.getD_eq_getElem?_getD, List.getElem?_eq_getElem (by omega), List.getElem?_eq_getElem (by omega)] at h
  exact (List.getElem_inj hp.2.2).1 (by simpa using h)
theorem perm_sur {o : Nat} (ho : o < n) : ∃ y, y < n ∧ perm.getD y 0 = o := by
  have hl := perm_len hp
  have hmem : (o : Int) ∈ perm := Classical.byContradiction fun hno => by
    have := List.Nodup.length_le_of_subset hp.2.2 (l₂ := ((List.range n).map fun i : Nat => (i : Int)).erase (o : Int)) fun x hx => by
      have hxb := hp.2.1 x hx
      refine (List.mem_erase_of_ne (fun e => hno (by rw [← e]; exact hx))).2 (List.mem_map.2 ⟨x.toNat, List.mem_range.2 (by omega), by omega⟩)
    rw [List.length_erase_of_mem (List.mem_map.2 ⟨o, List.mem_range.2 ho, rfl⟩), List.length_map, List.length_range] at this
    omega
  obtain ⟨y, hy⟩ := List.getElem?_of_mem hmem
  have hyl := (List.getElem?_eq_some_iff.1 hy).1
  exact ⟨y, by omega, by rw [List.getD_eq_getElem?_getD, hy]; rfl⟩
theorem fromTo_get : (k : Nat) → k ≤ n → (fromTo n perm k).length = n ∧ ∀ i, i < k → (fromTo n perm k).getD (perm.getD i 0).toNat 0 = i
  | 0, _ => ⟨by simp [fromTo], fun i h => absurd h (Nat.not_lt_zero _)⟩
  | k + 1, h => by
    obtain ⟨h1, h2⟩ := fromTo_get k (by omega)
    refine ⟨by simp [fromTo, h1], fun i hi => ?_⟩
    show ((fromTo n perm k).set (perm.getD k 0).toNat k).getD _ 0 = _
    have hk := perm_in hp (x := k) (by omega)
    have hiB := perm_in hp (x := i) (by omega)
    rw [getD_set]
    by_cases e : (perm.getD k 0).toNat = (perm.getD i 0).toNat
    · rw [if_pos ⟨e, by omega⟩]
      have := perm_inj hp (x := k) (y := i) (by omega) (by omega) (by omega)
      omega
    · rw [if_neg (fun q => e q.1)]
      exact h2 i (by
        rcases Nat.lt_succ_iff_lt_or_eq.1 hi with h3 | rfl
        · exact h3
        · exact absurd rfl e)
theorem from_get {i : Nat} (hi : i < n) : (fromF n perm).getD (perm.getD i 0).toNat 0 = i := (fromTo_get hp n (Nat.le_refl _)).2 i hi
end

section
variable {perm : List Int} {h : Nat} (hp : PermP perm (2 * h : Nat))
include hp
theorem tau_get {x : Nat} (hx : x < 2 * h) : tauN (fromF (2 * h) perm) perm x < 2 * h ∧ perm.getD (tauN (fromF (2 * h) perm) perm x) 0 = (sgN (perm.getD x 0).toNat : Nat) := by
  have hb := perm_in hp hx
  have hs : sgN (perm.getD x 0).toNat < 2 * h := sg_lt (by omega)
  obtain ⟨y, hy, hyo⟩ := perm_sur hp hs
  have hf := from_get hp hy
  rw [hyo, Int.toNat_natCast] at hf
  have e : tauN (fromF (2 * h) perm) perm x = y := by unfold tauN; rw [hf, Int.toNat_natCast]
  rw [e]
  exact ⟨hy, hyo⟩
theorem tau_invo : Invo (2 * h) (tauN (fromF (2 * h) perm) perm) where
  lt x hx := (tau_get hp hx).1
  inv x hx := by
    obtain ⟨h1, h2⟩ := tau_get hp hx
    obtain ⟨h3, h4⟩ := tau_get hp h1
    rw [h2, Int.toNat_natCast, sg_sg] at h4
    have hb := perm_in hp hx
    exact perm_inj hp h3 hx (by omega)
  ne x hx e := by
    obtain ⟨h1, h2⟩ := tau_get hp hx
    rw [e] at h2
    have hb := perm_in hp hx
    exact sg_ne (perm.getD x 0).toNat (by omega)
/-- The halves. -/
theorem part_ok {x : Nat} (hx : x < 2 * h) : ((partF (2 * h) perm).getD x 0 = 0 ∨ (partF (2 * h) perm).getD x 0 = 1) ∧ (partF (2 * h) perm).getD (sgN x) 0 = 1 - (partF (2 * h) perm).getD x 0 ∧
    (partF (2 * h) perm).getD (tauN (fromF (2 * h) perm) perm x) 0 = 1 - (partF (2 * h) perm).getD x 0 := by
  obtain ⟨h1, h2, _⟩ := partsTo_ok (tau_invo hp) (2 * h) (Nat.le_refl _)
  obtain ⟨q1, q2, q3⟩ := h1 x hx (h2 x hx)
  exact ⟨q1, q2.2, q3.2⟩
theorem part_length : (partF (2 * h) perm).length = 2 * h := (partsTo_ok (tau_invo hp) (2 * h) (Nat.le_refl _)).2.2.2
/-- Two inputs of one half are not linked by a switch. -/
theorem half_in {x y : Nat} (hx : x < 2 * h) (_hy : y < 2 * h) (hpp : (partF (2 * h) perm).getD x 0 = (partF (2 * h) perm).getD y 0) (he : x / 2 = y / 2) : x = y := by
  obtain ⟨q1, q2, _⟩ := part_ok hp hx
  by_cases e : x = y
  · exact e
  · have : y = sgN x := by unfold sgN; split <;> omega
    rw [this, q2] at hpp
    omega
theorem half_out {x y : Nat} (hx : x < 2 * h) (hy : y < 2 * h) (hpp : (partF (2 * h) perm).getD x 0 = (partF (2 * h) perm).getD y 0) (he : perm.getD x 0 / 2 = perm.getD y 0 / 2) : x = y := by
  obtain ⟨q1, _, q3⟩ := part_ok hp hx
  obtain ⟨t1, t2⟩ := tau_get hp hx
  have bx := perm_in hp hx
  have by_ := perm_in hp hy
  by_cases e : perm.getD x 0 = perm.getD y 0
  · exact perm_inj hp hx hy e
  · have : perm.getD y 0 = (sgN (perm.getD x 0).toNat : Nat) := by unfold sgN; split <;> omega
    have : y = tauN (fromF (2 * h) perm) perm x := perm_inj hp hy t1 (by omega)
    rw [this, q3] at hpp
    omega

theorem innTo_get (p : Int) : (k : Nat) → k ≤ 2 * h → (innTo perm (partF (2 * h) perm) h p k).length = h ∧ ∀ x, x < k → (partF (2 * h) perm).getD x 0 = p → (innTo perm (partF (2 * h) perm) h p k).getD (x / 2) 0 = perm.getD x 0 / 2
  | 0, _ => ⟨by simp [innTo], fun i h => absurd h (Nat.not_lt_zero _)⟩
  | k + 1, hk => by
    obtain ⟨h1, h2⟩ := innTo_get p k (by omega)
    unfold innTo
    split
    · rename_i hpk
      refine ⟨by simp [h1], fun x hx hpx => ?_⟩
      rw [getD_set]
      by_cases e : k / 2 = x / 2
      · rw [if_pos ⟨e, by omega⟩, half_in hp (x := k) (y := x) (by omega) (by omega) (by rw [hpk, hpx]) e]
      · rw [if_neg (fun q => e q.1)]
        rcases Nat.lt_succ_iff_lt_or_eq.1 hx with h3 | rfl
        · exact h2 x h3 hpx
        · exact absurd rfl e
    · rename_i hpk
      refine ⟨h1, fun x hx hpx => ?_⟩
      rcases Nat.lt_succ_iff_lt_or_eq.1 hx with h3 | rfl
      · exact h2 x h3 hpx
      · exact absurd hpx hpk
theorem inn_at {p : Int} (hp01 : p = 0 ∨ p = 1) {i : Nat} (hi : i < h) : ∃ x, x < 2 * h ∧ x / 2 = i ∧ (partF (2 * h) perm).getD x 0 = p := by
  obtain ⟨q1, q2, _⟩ := part_ok hp (x := 2 * i) (by omega)
  by_cases e : (partF (2 * h) perm).getD (2 * i) 0 = p
  · exact ⟨2 * i, by omega, by omega, e⟩
  · refine ⟨sgN (2 * i), sg_lt (by omega), by rw [sg_half]; omega, by rw [q2]; omega⟩
theorem inn_perm {p : Int} (hp01 : p = 0 ∨ p = 1) : PermP (innTo perm (partF (2 * h) perm) h p (2 * h)) h := by
  obtain ⟨h1, h2⟩ := innTo_get hp p (2 * h) (Nat.le_refl _)
  refine ⟨by omega, all_in ?_, ?_⟩
  · intro i hi
    obtain ⟨x, q1, q2, q3⟩ := inn_at hp hp01 (i := i) (by omega)
    have := h2 x q1 q3
    rw [q2] at this
    rw [this]
    have hb := perm_in hp q1
    omega
  · unfold List.Nodup
    rw [List.pairwise_iff_getElem]
    intro i j hi hj hij he
    obtain ⟨x, q1, q2, q3⟩ := inn_at hp hp01 (i := i) (by omega)
    obtain ⟨y, r1, r2, r3⟩ := inn_at hp hp01 (i := j) (by omega)
    have e1 := h2 x q1 q3
    have e2 := h2 y r1 r3
    rw [q2, List.getD_eq_getElem?_getD, List.getElem?_eq_getElem hi] at e1
    rw [r2, List.getD_eq_getElem?_getD, List.getElem?_eq_getElem hj] at e2
    simp only [Option.getD_some] at e1 e2
    have := half_out hp q1 r1 (by rw [q3, r3]) (by rw [← e1, ← e2, he])
    omega
where
  all_in {l : List Int} {P : Int → Prop} (h : ∀ i, i < l.length → P (l.getD i 0)) : ∀ x ∈ l, P x := fun x hx => by
    obtain ⟨i, hi⟩ := List.getElem?_of_mem hx
    have hl : i < l.length := (List.getElem?_eq_some_iff.1 hi).1
    have := h i hl
    rwa [List.getD_eq_getElem?_getD, hi] at this
omit hp in
theorem fstTo_get (part : List Int) : (k : Nat) → k ≤ 2 * h → (fstTo part h k).length = h ∧ ∀ i, 2 * i < k → (fstTo part h k).getD i 0 = 48 + part.getD (2 * i) 0
  | 0, _ => ⟨by simp [fstTo], fun i h => absurd h (Nat.not_lt_zero _)⟩
  | k + 1, hk => by
    obtain ⟨h1, h2⟩ := fstTo_get part k (by omega)
    unfold fstTo
    split
    · rename_i he
      refine ⟨by simp [h1], fun i hi => ?_⟩
      rw [getD_set]
      by_cases e : k / 2 = i
      · rw [if_pos ⟨e, by omega⟩, show k = 2 * i by omega]
      · rw [if_neg (fun q => e q.1)]
        exact h2 i (by omega)
    · rename_i he
      exact ⟨h1, fun i hi => h2 i (by omega)⟩
theorem lstTo_get : (k : Nat) → k ≤ 2 * h → (lstTo perm (partF (2 * h) perm) h k).length = h ∧ ∀ x, x < k → perm.getD x 0 % 2 = 0 → (lstTo perm (partF (2 * h) perm) h k).getD (perm.getD x 0 / 2).toNat 0 = 48 + (partF (2 * h) perm).getD x 0
  | 0, _ => ⟨by simp [lstTo], fun i h => absurd h (Nat.not_lt_zero _)⟩
  | k + 1, hk => by
    obtain ⟨h1, h2⟩ := lstTo_get k (by omega)
    have bk := perm_in hp (x := k) (by omega)
    unfold lstTo
    split
    · rename_i he
      refine ⟨by simp [h1], fun x hx hex => ?_⟩
      have bx := perm_in hp (x := x) (by omega)
      rw [getD_set]
      by_cases e : (perm.getD k 0 / 2).toNat = (perm.getD x 0 / 2).toNat
      · rw [if_pos ⟨e, by omega⟩, perm_inj hp (x := k) (y := x) (by omega) (by omega) (by omega)]
      · rw [if_neg (fun q => e q.1)]
        rcases Nat.lt_succ_iff_lt_or_eq.1 hx with h3 | rfl
        · exact h2 x h3 hex
        · exact absurd rfl e
    · rename_i he
      refine ⟨h1, fun x hx hex => ?_⟩
      rcases Nat.lt_succ_iff_lt_or_eq.1 hx with h3 | rfl
      · exact h2 x h3 hex
      · exact absurd hex he
/-- The last column at an output's switch. -/
theorem lst_at {x : Nat} (hx : x < 2 * h) : (lstTo perm (partF (2 * h) perm) h (2 * h)).getD (perm.getD x 0 / 2).toNat 0 = 48 + (if perm.getD x 0 % 2 = 0 then (partF (2 * h) perm).getD x 0 else 1 - (partF (2 * h) perm).getD x 0) := by
  obtain ⟨_, h2⟩ := lstTo_get hp (2 * h) (Nat.le_refl _)
  have bx := perm_in hp hx
  split
  · rename_i he; exact h2 x hx he
  · rename_i he
    obtain ⟨t1, t2⟩ := tau_get hp hx
    have := (part_ok hp hx).2.2
    have hsg : sgN (perm.getD x 0).toNat = (perm.getD x 0).toNat - 1 := by unfold sgN; rw [if_neg (by omega)]
    rw [hsg] at t2
    have h3 := h2 _ t1 (by rw [t2]; omega)
    rw [t2, this] at h3
    rw [← h3]
    congr 1
    omega
end

/-! ### As a string -/
theorem strOf_size (l : List Int) : (strOf l).size = l.length := by unfold strOf; show (List.toArray _).size = _; simp
theorem strOf_bt {l : List Int} (hb : ∀ b ∈ l, 0 ≤ b ∧ b ≤ 255) {i : Nat} (hi : i < l.length) : bt (strOf l) i = l.getD i 0 := by
  have := hb _ (getD_mem l 0 hi)
  unfold bt strOf
  rw [List.getD_eq_getElem?_getD, List.getElem?_eq_getElem hi] at this ⊢
  simp only [Option.getD_some] at this ⊢
  simp only [List.getElem?_toArray, List.getElem?_map, List.getElem?_eq_getElem hi, Option.map_some, Option.getD_some]
  show ((UInt8.ofNat (l[i]).toNat).toNat : Int) = _
  rw [UInt8.toNat_ofNat']
  omega
theorem strOf_extract (l : List Int) (a b : Nat) : (strOf l).extract a b = strOf ((l.take b).drop a) := by
  unfold strOf
  apply ByteArray.ext
  simp only [ByteArray.data_extract]
  apply Array.ext'
  simp [List.map_drop, List.map_take, List.drop_take]
theorem bits_of {l : List Int} (h : ∀ b ∈ l, b = 48 ∨ b = 49) : Bits (strOf l) := fun i hi => by
  rw [strOf_size] at hi
  rw [strOf_bt (fun b hb => by have := h b hb; omega) hi]
  exact h _ (getD_mem l 0 hi)

theorem xr_same {a : Int} (h : a = 0 ∨ a = 1) : xr a a = 0 ∧ xr a (1 - a) = 1 ∧ xr 0 a = a ∧ xr 1 (1 - a) = a := by
  rcases h with rfl | rfl <;> decide

theorem set_ok : (K : Nat) → 1 ≤ K → K ≤ 3 → (perm : List Int) → PermP perm (2 ^ K : Nat) → (setF K perm).length = swN K ∧ (∀ b ∈ setF K perm, b = 48 ∨ b = 49) ∧ applyF K (strOf (setF K perm)) = perm
  | 0, h, _, _, _ => absurd h (by decide)
  | 1, _, _, perm, hp => by
    have hl := perm_len hp
    have b0 := perm_in hp (x := 0) (by decide)
    have b1 := perm_in hp (x := 1) (by decide)
    have hne : perm.getD 0 0 ≠ perm.getD 1 0 := fun e => by have := perm_inj hp (x := 0) (y := 1) (by decide) (by decide) e; omega
    have e2 : ((2 ^ 1 : Nat) : Int) = 2 := by decide
    rw [e2] at b0 b1
    refine ⟨rfl, fun b hb => ?_, ?_⟩
    · have hb : b ∈ [48 + perm.getD 0 0] := hb
      rw [List.mem_singleton] at hb
      omega
    · rw [applyF_one]
      have : bt (strOf (setF 1 perm)) 0 = 48 + perm.getD 0 0 := strOf_bt (l := [48 + perm.getD 0 0]) (fun b hb => by rw [List.mem_singleton] at hb; omega) (by simp)
      rw [this]
      match perm, hl with
      | [a, b], _ =>
        simp at b0 b1 hne ⊢
        omega
  | k + 2, _, h3, perm, hp => by
    have hh : hN (k + 2) = 2 ^ (k + 1) := rfl
    have hpow : 2 ^ (k + 2) = 2 * hN (k + 2) := by rw [hh, Nat.pow_succ]; omega
    rw [hpow] at hp
    have hh4 : hN (k + 2) ≤ 4 ∧ swN (k + 2) = 2 * hN (k + 2) + 2 * swN (k + 1) := by
      have : k = 0 ∨ k = 1 := by omega
      rcases this with rfl | rfl <;> decide
    obtain ⟨h4, hsw⟩ := hh4
    generalize hhe : hN (k + 2) = h at hp h4 hsw hh hpow
    have p0 := inn_perm hp (p := 0) (.inl rfl)
    have p1 := inn_perm hp (p := 1) (.inr rfl)
    rw [hh] at p0 p1
    have I0 := set_ok (k + 1) (by omega) (by omega) _ p0
    have I1 := set_ok (k + 1) (by omega) (by omega) _ p1
    rw [← hh] at I0 I1
    obtain ⟨f1, f2⟩ := fstTo_get (h := h) (partF (2 * h) perm) (2 * h) (Nat.le_refl _)
    obtain ⟨l1, l2⟩ := lstTo_get hp (2 * h) (Nat.le_refl _)
    obtain ⟨i0, g0⟩ := innTo_get hp 0 (2 * h) (Nat.le_refl _)
    obtain ⟨i1, g1⟩ := innTo_get hp 1 (2 * h) (Nat.le_refl _)
    have hset : setF (k + 2) perm = fstTo (partF (2 * h) perm) h (2 * h) ++ setF (k + 1) (innTo perm (partF (2 * h) perm) h 0 (2 * h)) ++ setF (k + 1) (innTo perm (partF (2 * h) perm) h 1 (2 * h)) ++ lstTo perm (partF (2 * h) perm) h (2 * h) := by
      rw [setF_next, hhe]
    have fb : ∀ b ∈ fstTo (partF (2 * h) perm) h (2 * h), b = 48 ∨ b = 49 := fun b hb => by
      obtain ⟨i, hi⟩ := List.getElem?_of_mem hb
      have hil : i < h := by have := (List.getElem?_eq_some_iff.1 hi).1; omega
      have := f2 i (by omega)
      rw [List.getD_eq_getElem?_getD, hi, Option.getD_some] at this
      have q := (part_ok hp (x := 2 * i) (by omega)).1
      omega
    have lb : ∀ b ∈ lstTo perm (partF (2 * h) perm) h (2 * h), b = 48 ∨ b = 49 := fun b hb => by
      obtain ⟨j, hj⟩ := List.getElem?_of_mem hb
      have hjl : j < h := by have := (List.getElem?_eq_some_iff.1 hj).1; omega
      obtain ⟨y, y1, y2⟩ := perm_sur hp (o := 2 * j) (by omega)
      have := l2 y y1 (by rw [y2]; omega)
      rw [y2, show (((2 * j : Nat) : Int) / 2).toNat = j by omega, List.getD_eq_getElem?_getD, hj, Option.getD_some] at this
      have q := (part_ok hp y1).1
      omega
    generalize hF : fstTo (partF (2 * h) perm) h (2 * h) = F at hset f1 f2 fb
    generalize hL : lstTo perm (partF (2 * h) perm) h (2 * h) = L at hset l1 lb
    generalize hS0 : setF (k + 1) (innTo perm (partF (2 * h) perm) h 0 (2 * h)) = S0 at hset I0
    generalize hS1 : setF (k + 1) (innTo perm (partF (2 * h) perm) h 1 (2 * h)) = S1 at hset I1
    obtain ⟨a1, a2, a3⟩ := I0
    obtain ⟨b1, b2, b3⟩ := I1
    have hall : ∀ b ∈ setF (k + 2) perm, b = 48 ∨ b = 49 := fun b hb => by
      rw [hset] at hb
      simp only [List.mem_append] at hb
      rcases hb with ((hb | hb) | hb) | hb
      · exact fb b hb
      · exact a2 b hb
      · exact b2 b hb
      · exact lb b hb
    have hlen : (setF (k + 2) perm).length = swN (k + 2) := by rw [hset]; simp; omega
    refine ⟨hlen, hall, ?_⟩
    have hex0 : (strOf (setF (k + 2) perm)).extract h (h + swN (k + 1)) = strOf S0 := by
      rw [strOf_extract, hset]
      congr 1
      rw [List.append_assoc, List.append_assoc, List.take_append, List.take_of_length_le (by omega), List.drop_append, List.drop_of_length_le (by omega), f1, Nat.sub_self, List.drop_zero, List.nil_append, Nat.add_sub_cancel_left, List.take_append_of_le_length (by omega), List.take_of_length_le (by omega)]
    have hex1 : (strOf (setF (k + 2) perm)).extract (h + swN (k + 1)) (h + 2 * swN (k + 1)) = strOf S1 := by
      rw [strOf_extract, hset]
      congr 1
      rw [List.append_assoc, List.take_append, List.take_of_length_le (by simp; omega), List.drop_append, List.drop_of_length_le (by simp; omega), List.nil_append, List.length_append, f1, a1, Nat.sub_self, List.drop_zero, show h + 2 * swN (k + 1) - (h + swN (k + 1)) = swN (k + 1) by omega, List.take_append_of_le_length (by omega), List.take_of_length_le (by omega)]
    have hexF : (strOf (setF (k + 2) perm)).extract 0 h = strOf F := by
      rw [strOf_extract, hset]
      congr 1
      rw [List.drop_zero, List.append_assoc, List.append_assoc, List.take_append_of_le_length (by omega), List.take_of_length_le (by omega)]
    have hexL : (strOf (setF (k + 2) perm)).extract (h + 2 * swN (k + 1)) (strOf (setF (k + 2) perm)).size = strOf L := by
      rw [strOf_extract, strOf_size, List.take_length, hset]
      congr 1
      rw [List.drop_append, List.drop_of_length_le (by simp; omega), List.nil_append]
      simp only [List.length_append, f1, a1, b1]
      rw [show h + 2 * swN (k + 1) - (h + swN (k + 1) + swN (k + 1)) = 0 by omega, List.drop_zero]
    have hpl := perm_len hp
    rw [applyF_next (k + 2) (by omega), hhe]
    apply List.ext_getElem
    · simp [hpl]
    · intro x hx1 hx2
      have hx : x < 2 * h := by omega
      rw [List.getElem_map, List.getElem_range]
      unfold applyEl elF
      simp only [hhe, show k + 2 - 1 = k + 1 by omega, hex0, hex1, hexF, hexL, a3, b3]
      have hpx := perm_in hp hx
      obtain ⟨q1, q2, q3⟩ := part_ok hp hx
      obtain ⟨x1, x2, x3, x4⟩ := xr_same q1
      have fB : ∀ b ∈ F, 0 ≤ b ∧ b ≤ 255 := fun b hb => by have := fb b hb; omega
      have lB : ∀ b ∈ L, 0 ≤ b ∧ b ≤ 255 := fun b hb => by have := lb b hb; omega
      have hpart : xr ((x : Int) % 2) (bt (strOf F) (x / 2) - 48) = (partF (2 * h) perm).getD x 0 := by
        rw [strOf_bt fB (by omega), f2 (x / 2) (by omega)]
        by_cases he : x % 2 = 0
        · rw [show 2 * (x / 2) = x by omega, show (x : Int) % 2 = 0 by omega, show (48 : Int) + (partF (2 * h) perm).getD x 0 - 48 = (partF (2 * h) perm).getD x 0 by omega]
          exact x3
        · have hsg : sgN x = 2 * (x / 2) := by unfold sgN; rw [if_neg he]; omega
          rw [← hsg, q2, show (x : Int) % 2 = 1 by omega, show (48 : Int) + (1 - (partF (2 * h) perm).getD x 0) - 48 = 1 - (partF (2 * h) perm).getD x 0 by omega]
          exact x4
      rw [hpart]
      have hat : (if (partF (2 * h) perm).getD x 0 = 0 then innTo perm (partF (2 * h) perm) h 0 (2 * h) else innTo perm (partF (2 * h) perm) h 1 (2 * h)).getD (x / 2) 0 = perm.getD x 0 / 2 := by
        split
        · rename_i e; exact g0 x hx e
        · rename_i e; exact g1 x hx (by omega)
      rw [hat, strOf_bt lB (by omega), ← hL, lst_at hp hx]
      have hgx : perm[x] = perm.getD x 0 := by rw [List.getD_eq_getElem?_getD, List.getElem?_eq_getElem hx2]; rfl
      rw [hgx]
      by_cases he : perm.getD x 0 % 2 = 0
      · rw [if_pos he, show (48 : Int) + (partF (2 * h) perm).getD x 0 - 48 = (partF (2 * h) perm).getD x 0 by omega]
        show bitsF .xor .i64 _ _ = _
        rw [xr_two (by omega) q1 q1]
        show 2 * _ + xr _ _ = _
        rw [x1]; omega
      · rw [if_neg he, show (48 : Int) + (1 - (partF (2 * h) perm).getD x 0) - 48 = 1 - (partF (2 * h) perm).getD x 0 by omega]
        show bitsF .xor .i64 _ _ = _
        rw [xr_two (by omega) q1 (by omega)]
        show 2 * _ + xr _ _ = _
        rw [x2]; omega
end Go.SX.Pa

/- Chapter 06, part 18: settings for a permutation; the laws PatchApplies and PatchBenes. -/
namespace Go.SX
/-- The same condition once more: of another order of the same operations. -/
def dupN : Nat → Prop → Prop
  | 0, p => p
  | n + 1, p => p ∧ dupN n p
theorem dupN_eq : (n : Nat) → (p : Prop) → dupN n p = p
  | 0, _ => rfl
  | n + 1, p => by
    show (p ∧ dupN n p) = p
    rw [dupN_eq n p, and_self]
end Go.SX
namespace Go.SX.Pa
open Go Go.Proofs
/-- Which row a slot holds. -/
def withOwn (d : Nat) (K : Nat → Ann) (st : St) : Ann :=
  match findT d st.t with
  | .c (.own i _) => K i
  | _ => noAnn
/-- Which rows the cells hold that a slot points at. -/
def withOwns (d : Nat) (K : Nat → Nat → Nat → Ann) (st : St) : Ann :=
  match findT d st.t with
  | .c (.ptr i _) => match st.h[i]? with
    | some (.blk _ (.own a _ :: .own b _ :: _)) => K i a b
    | _ => noAnn
  | _ => noAnn
noncomputable section
@[reducible] def p68 : PC := ⟨68, [aI, aIs], [aBs], fun p => (1 ≤ p.1 ∧ p.1 ≤ 3) ∧ PermP p.2 (2 ^ p.1.toNat : Nat), fun p => setF p.1.toNat p.2⟩
@[reducible] def m68 (p : Int × List Int) : Nat := p.1.toNat
def nK (k : Int) : Nat := 2 ^ k.toNat
def hK (k : Int) : Nat := hN k.toNat
def frK (k : Int) (p : List Int) (i : Nat) : List Int := fromTo (nK k) p i
def dnK (k : Int) (p : List Int) (x : Nat) : List Bool := (partsTo (nK k) p x).1
def ptK (k : Int) (p : List Int) (x : Nat) : List Int := (partsTo (nK k) p x).2
def wkK (k : Int) (p : List Int) (x : Int) (j : Nat) : WkSt := iterW (fromF (nK k) p) p (dnK k p x.toNat, ptK k p x.toNat, x.toNat) j
def fsK (k : Int) (p : List Int) (x : Nat) : List Int := fstTo (partF (nK k) p) (hK k) x
def lsK (k : Int) (p : List Int) (x : Nat) : List Int := lstTo p (partF (nK k) p) (hK k) x
def iaK (k : Int) (p : List Int) (x : Nat) : List Int := innTo p (partF (nK k) p) (hK k) 0 x
def ibK (k : Int) (p : List Int) (x : Nat) : List Int := innTo p (partF (nK k) p) (hK k) 1 x
/-- What has been written of the settings. -/
def otK (k : Int) (p : List Int) (i : Nat) : List Int :=
  fsK k p (nK k) ++ (if 1 ≤ i then setF (k.toNat - 1) (iaK k p (nK k)) else []) ++ (if 2 ≤ i then setF (k.toNat - 1) (ibK k p (nK k)) else []) ++ List.replicate ((2 - i) * swN (k.toNat - 1) + hK k) 0
def plK (k : Int) (i : Nat) : Nat := hK k + i * swN (k.toNat - 1)
@[reducible] def A68a (k : Int) (p : List Int) : Ann where
  τ := Nat
  pre := []
  preC := []
  keep := [0, 1, 5, 6, 34, 35]
  slots i := [(36, .c (.int .i64 i))]
  ents i := [(0, .row 3 (.int .i64) 1 (frK k p i))]
  ok i := i ≤ nK k
  m i := nK k - i
@[reducible] def A68b (k : Int) (p : List Int) : Ann where
  τ := Nat
  pre := []
  preC := []
  keep := [0, 1, 5, 6, 9, 10, 50]
  slots x := [(51, .c (.int .i64 x))]
  ents x := [(1, .row 3 (.int .i64) 1 (ptK k p x)), (2, .row 4 .bool 1 (dnK k p x))]
  ok x := x ≤ nK k
  m x := nK k - x
@[reducible] def A68c (k : Int) (p : List Int) (x : Int) : Ann where
  τ := Nat
  pre := []
  preC := []
  keep := [0, 1, 5, 6, 9, 10, 11, 50, 51]
  slots j := [(12, .c (.int .i64 (wkK k p x j).2.2))]
  ents j := [(1, .row 3 (.int .i64) 1 (wkK k p x j).2.1), (2, .row 4 .bool 1 (wkK k p x j).1)]
  ok j := ∀ i, i < j → (wkK k p x i).1.getD (wkK k p x i).2.2 false = false
  m j := undone (wkK k p x j).1
@[reducible] def A68d (k : Int) (p : List Int) (f l a b : Nat) : Ann where
  τ := Nat
  pre := []
  preC := []
  keep := [0, 1, 9, 13, 14, 15, 97, 98]
  slots x := [(99, .c (.int .i64 x))]
  ents x := [(0, .dead), (2, .dead), (f, .row 5 (.int .u8) 1 (fsK k p x)), (l, .row 5 (.int .u8) 1 (lsK k p x)), (a, .row 3 (.int .i64) 1 (iaK k p x)), (b, .row 3 (.int .i64) 1 (ibK k p x))]
  ok x := x ≤ nK k
  m x := nK k - x
@[reducible] def A68e (k : Int) (p : List Int) (o t a b : Nat) : Ann where
  τ := Nat
  pre := []
  preC := []
  keep := [0, 14, 18]
  slots i := [(151, .c (.int .i64 i)), (19, .c (.suf o 0 (plK k i))), (150, .agg [.ro (.int .i64) (iaK k p (nK k)), .ro (.int .i64) (ibK k p (nK k))])]
  ents i := [(1, .dead), (o, .row 5 (.int .u8) 1 (otK k p i)), (t, .dead), (a, .dead), (b, .dead)]
  ok i := i ≤ 2
  m i := 2 - i
@[reducible] def C68 (p : Int × List Int) : Ctx := cx [p52.ci, (p68.below m68 (m68 p)).ci]
  [(0, fun _ => A68a p.1 p.2), (1, fun _ => A68b p.1 p.2), (2, withI 51 fun x => A68c p.1 p.2 x),
   (3, fun st => withOwn 13 (fun f => withOwn 14 (fun l => withOwns 15 (fun _ a b => A68d p.1 p.2 f l a b) st) st) st),
   (4, fun st => withOwn 18 (fun o => withOwns 15 (fun i a b => A68e p.1 p.2 o i a b) st) st)]
def g68 (k : Int) (perm : List Int) : Prop := p68.VC (C68 (k, perm)) Tryd.f68 (k, perm)
end
end Go.SX.Pa
