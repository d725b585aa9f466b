/- Chapter 06, part 1: the contracts. -/
import Derived.Test.YtfbgbdiajghnbaaDoorPa1E
namespace Go.SX.Pa
open Go Go.Proofs

theorem fits_nat {n : Nat} (h : n ≤ 1000000000) : Fits .i64 ((n : Int) + 1) := fits_i64 (by omega) (by omega)
theorem all_below {p : Nat → Prop} {k : Nat} (h : ∀ b, b < k → p b) (hk : p k) : ∀ b, b < k + 1 → p b := fun b hb => by
  rcases Nat.lt_succ_iff_lt_or_eq.1 hb with h1 | h1
  · exact h b h1
  · subst h1; exact hk
theorem take_mem {α : Type} (l : List α) (d x : α) (k : Nat) (h : k < l.length) : x ∈ l.take (k + 1) ↔ x ∈ l.take k ∨ x = l.getD k d := by
  rw [List.take_add_one, List.mem_append, List.getElem?_eq_getElem h]
  simp [List.getD, List.getElem?_eq_getElem h]
theorem take_snoc {α : Type} (l : List α) (d : α) (k : Nat) (h : k < l.length) : l.take (k + 1) = l.take k ++ [l.getD k d] := by
  rw [List.take_add_one, List.getElem?_eq_getElem h]
  simp [List.getD, List.getElem?_eq_getElem h]
theorem getD_take {α : Type} (l : List α) (d : α) {j k : Nat} (h : j < k) : (l.take k).getD j d = l.getD j d := by
  simp [List.getD, List.getElem?_take, h]
theorem getD_mem {α : Type} (l : List α) (d : α) {k : Nat} (h : k < l.length) : l.getD k d ∈ l := by
  simp [List.getD, List.getElem?_eq_getElem h]

theorem mul_fits {n r : Int} (h1 : 1 ≤ n) (h2 : n ≤ 12) (h3 : 1 ≤ r) (h4 : r ≤ 12) : Fits .i64 (n * r) := by
  have hb : n * r ≤ 12 * 12 := Int.mul_le_mul (by omega) (by omega) (by omega) (by omega)
  have hc : 0 ≤ n * r := Int.mul_nonneg (by omega) (by omega)
  exact fits_i64 (by omega) (by omega)
theorem waks_fits {k : Int} (h1 : 1 ≤ k) (h2 : k ≤ 20) : Fits .i64 ((k - 1) * 2 ^ k.toNat) ∧ Fits .i64 ((k - 1) * 2 ^ k.toNat + 1) := by
  have hp : (2 : Int) ^ k.toNat ≤ 2 ^ 20 := by
    have : (2 : Nat) ^ k.toNat ≤ 2 ^ 20 := Nat.pow_le_pow_right (by omega) (by omega)
    exact_mod_cast this
  have hp0 : (0 : Int) < 2 ^ k.toNat := Int.pow_pos (by omega)
  have h0 : 0 ≤ (k - 1) * 2 ^ k.toNat := Int.mul_nonneg (by omega) (by omega)
  have h2 : (k - 1) * 2 ^ k.toNat ≤ 19 * 2 ^ 20 := Int.mul_le_mul (by omega) hp (by omega) (by omega)
  have e : (2 : Int) ^ 20 = 1048576 := by decide
  rw [e] at h2
  exact ⟨fits_i64 (by omega) (by omega), fits_i64 (by omega) (by omega)⟩

theorem ok54 : p54.OK Tryd.prog := p54.ok (fun _ => cx [] []) (fun _ => cx0) (fn := Tryd.f54) rfl (by decide +kernel) rfl fun (x : Int × Int × Int) _ => by
  obtain ⟨n, r, m⟩ := x
  refine (g54_eq n r m).mpr ?_
  simp only [pp1, eq_self, and_true, true_and, and_self]
  refine ⟨fun h1 => ⟨fun h2 => ?_, fun h2 => ?_⟩, fun h1 => ?_⟩
  · refine ⟨mul_fits (by omega) (by omega) (by omega) (by omega), ?_⟩
    congr 1
    apply decide_eq_decide.2
    unfold ClosP
    omega
  · congr 1
    symm
    apply decide_eq_false
    unfold ClosP
    omega
  · congr 1
    symm
    apply decide_eq_false
    unfold ClosP
    omega

theorem ok20 : p20.OK Tryd.prog := p20.ok (fun _ => cx [p54.ci] []) (fun _ => cx1 (PC.OK.ci ok54)) (fn := Tryd.f20) rfl (by decide +kernel) rfl fun (x : Int × Int × Int) _ => by
  obtain ⟨n, r, m⟩ := x
  refine (g20_eq n r m).mpr ?_
  simp only [pp1, eq_self, and_true, true_and, and_self]
  unfold strictF
  refine ⟨fun h => ?_, fun h => ?_⟩
  · have h : ¬ ClosP n r m := by simpa using h
    rw [if_neg h]
  · have h : ClosP n r m := by simpa using h
    rw [if_pos h]
    have h' := h
    unfold ClosP at h'
    refine ⟨fits_i64 (by omega) (by omega), fits_i64 (by omega) (by omega), fun h1 => ?_, fun h1 => ⟨fun h2 => ?_, fun h2 => ?_⟩⟩
    · rw [decide_eq_true (.inl h1)]
    · congr 1
      apply decide_eq_decide.2
      omega
    · congr 1
      symm
      apply decide_eq_false
      omega

theorem ok19 : p19.OK Tryd.prog := p19.ok (fun _ => cx [] []) (fun _ => cx0) (fn := Tryd.f19) rfl (by decide +kernel) rfl fun (k : Int) _ => by
  refine (g19_eq k).mpr ?_
  simp only [pp1, eq_self, and_true, true_and, and_self]
  unfold waksF
  refine ⟨fun h => by rw [if_neg (by omega)], fun h => ⟨fun h1 => by rw [if_neg (by omega)], fun h1 => ?_⟩⟩
  have hf := waks_fits (k := k) (by omega) (by omega)
  exact ⟨fits_i64 (by omega) (by omega), ⟨by omega, by omega⟩, hf.1, hf.2, by rw [if_pos (by omega)]⟩

theorem ok63 : p63.OK Tryd.prog := p63.ok (fun _ => cx [] []) (fun _ => cx0) (fn := Tryd.f63) rfl (by decide +kernel) rfl fun (k : Int) _ => by
  refine (g63_eq k).mpr ?_
  simp only [pp1, eq_self, and_true, true_and, and_self]
  exact ⟨fun h => decide_eq_decide.2 (by omega), fun h => (decide_eq_false (by omega)).symm⟩

theorem ok52 : p52.OK Tryd.prog := p52.ok (fun _ => cx [] []) (fun _ => cx0) (fn := Tryd.f52) rfl (by decide +kernel) rfl fun (k : Int) hk => by
  refine (g52_eq k).mpr ?_
  have hk : 1 ≤ k ∧ k ≤ 3 := hk
  have h3 : k = 1 ∨ k = 2 ∨ k = 3 := by omega
  refine ⟨fits_i64 (by omega) (by omega), fits_i64 (by omega) (by omega), fits_i64 (by omega) (by omega), ⟨by omega, by omega⟩, ?_, rfl⟩
  rcases h3 with rfl | rfl | rfl <;> exact fits_i64 (by decide) (by decide)

theorem seenR_length (n : Int) (l : List Int) : (seenR n l).length = n.toNat := by simp [seenR]
theorem seenR_get {n : Int} {l : List Int} {x : Int} (h0 : 0 ≤ x) (h1 : x < n) : (seenR n l).getD x.toNat false = decide (x ∈ l) := by
  have hlt : x.toNat < n.toNat := by omega
  simp [seenR, List.getD, hlt, Int.toNat_of_nonneg h0]
theorem seenR_set {n : Int} {l : List Int} {x : Int} (h0 : 0 ≤ x) (h1 : x < n) : (seenR n l).set x.toNat true = seenR n (l ++ [x]) := by
  apply List.ext_getElem
  · simp [seenR]
  · intro i h2 h3
    simp only [seenR, List.getElem_set, List.getElem_map, List.getElem_range, List.mem_append, List.mem_singleton]
    split
    · rename_i h
      symm
      apply decide_eq_true
      right
      omega
    · rename_i h
      apply decide_eq_decide.2
      constructor
      · exact .inl
      · rintro (h4 | h4)
        · exact h4
        · omega
theorem nodup_snoc {l : List Int} {x : Int} (h : l.Nodup) (hx : x ∉ l) : (l ++ [x]).Nodup := by
  rw [List.nodup_append]
  refine ⟨h, by simp, fun a ha b hb => ?_⟩
  simp at hb
  subst hb
  intro e; subst e; exact hx ha

theorem ok51 : p51.OK Tryd.prog := p51.ok C51 (fun _ => cx0) (fn := Tryd.f51) rfl (by decide +kernel) rfl fun (p : List Int × Int) hp => by
  obtain ⟨l, n⟩ := p
  refine (g51_eq l n).mpr ?_
  have hp : l.length ≤ 1000 := hp
  simp only [pp1, eq_self, and_true, true_and, and_self, Int.toNat_natCast]
  refine ⟨fun h => (decide_eq_false (fun h2 => h h2.1)).symm, fun h => ?_⟩
  have h : (l.length : Int) = n := by omega
  refine ⟨⟨by omega, by omega, by unfold Small; omega⟩, ⟨0, ⟨by omega, by simp, by simp⟩, ?_, rfl⟩, fun k ⟨hk, hr, hn⟩ => ⟨fun h1 => ?_, fun h1 => ?_⟩⟩
  · unfold seenR
    apply List.ext_getElem
    · simp
    · intro i h2 h3; simp
  · have hk' : k < l.length := by omega
    have hm : l.getD k 0 ∈ l := getD_mem l 0 hk'
    have hno : ∀ (q : Prop), q → (PermP l n → ¬ q) → false = decide (PermP l n) := fun q hq h2 => (decide_eq_false fun h3 => h2 h3 hq).symm
    refine ⟨by omega, fun h2 => hno _ h2 fun h3 => by have := h3.2.1 _ hm; omega, fun h2 => ⟨fun h3 => hno _ h3 fun h4 => by have := h4.2.1 _ hm; omega, fun h3 => ?_⟩⟩
    have b0 : 0 ≤ l.getD k 0 := by omega
    have b1 : l.getD k 0 < n := by omega
    rw [seenR_length, seenR_get b0 b1]
    refine ⟨by omega, fun h4 => ?_, fun h4 => ?_⟩
    · have h4 : l.getD k 0 ∈ l.take k := by simpa using h4
      refine hno _ h4 fun h5 h6 => ?_
      have h7 : (l.take (k + 1)).Nodup := h5.2.2.sublist (List.take_sublist _ _)
      rw [take_snoc l 0 k hk', List.nodup_append] at h7
      exact h7.2.2 _ h6 _ (by simp) rfl
    · have h4 : l.getD k 0 ∉ l.take k := by simpa using h4
      refine ⟨by omega, fits_nat (by omega), k + 1, ⟨by omega, ?_, ?_⟩, by omega, ?_, by simp⟩
      · intro x hx
        rcases (take_mem l 0 x k hk').1 hx with h5 | h5
        · exact hr x h5
        · subst h5; exact ⟨b0, b1⟩
      · rw [take_snoc l 0 k hk']; exact nodup_snoc hn h4
      · rw [take_snoc l 0 k hk', seenR_set b0 b1]
  · have : l.take k = l := List.take_of_length_le (by omega)
    rw [this] at hr hn
    exact (decide_eq_true ⟨h, hr, hn⟩).symm

theorem clos_fits {n r m : Int} (h : ClosP n r m) : 1 ≤ n * r ∧ n * r ≤ 12 := by
  obtain ⟨h1, h2, h3, _⟩ := h
  have : 1 * 1 ≤ n * r := Int.mul_le_mul (by omega) (by omega) (by omega) (by omega)
  omega

theorem ok61 : p61.OK Tryd.prog := p61.ok (fun _ => cx [p54.ci, p51.ci] []) (fun _ => cx2 (PC.OK.ci ok54) (PC.OK.ci ok51)) (fn := Tryd.f61) rfl (by decide +kernel) rfl fun (x : Int × Int × Int × List Int) hx => by
  obtain ⟨n, r, m, l⟩ := x
  refine (g61_eq n r m l).mpr ?_
  have hx : l.length ≤ 1000 := hx
  simp only [pp1, eq_self, and_true, true_and, and_self]
  unfold readF
  refine ⟨fun h => ?_, fun h => ?_⟩
  · have h : ¬ ClosP n r m := by simpa using h
    rw [if_neg h]
  · have h : ClosP n r m := by simpa using h
    have hb := clos_fits h
    rw [if_pos h]
    refine ⟨fits_i64 (by omega) (by omega), hx, fun h1 => ?_, fun h1 => ?_⟩
    · have h1 : ¬ PermP l (n * r) := by simpa using h1
      rw [if_neg h1]
    · have h1 : PermP l (n * r) := by simpa using h1
      rw [if_pos h1]

theorem edgesTo_succ (n : Int) (l : List Int) (k : Nat) : edgesTo n l (k + 1) = edgesTo n l k ++ [((k : Int) / n, l.getD k 0 / n)] := by
  simp [edgesTo, List.range_succ]
theorem edgesTo_length (n : Int) (l : List Int) (k : Nat) : (edgesTo n l k).length = k := by simp [edgesTo]

theorem ok62 : p62.OK Tryd.prog := p62.ok C62 (fun _ => cx0) (fn := Tryd.f62) rfl (by decide +kernel) rfl fun (p : Cl × List Int) hp => by
  obtain ⟨c, l⟩ := p
  refine (g62_eq c l).mpr ?_
  obtain ⟨h1, h2, h3, h4⟩ := hp
  have h1 : l.length ≤ 1000 := h1
  have h2 : (1 : Int) ≤ c.1 := h2
  have h3 : c.1 ≤ (12 : Int) := h3
  have h4 : ∀ x : Int, x ∈ l → 0 ≤ x ∧ x ≤ 1000 := h4
  simp only [pp1, eq_self, and_true, true_and, and_self, Int.toNat_natCast]
  refine ⟨⟨0, by omega, rfl, rfl⟩, fun k hk => ⟨fun h5 => ?_, fun h5 => ?_⟩⟩
  · have hk' : k < l.length := by omega
    have hx := h4 _ (getD_mem l 0 hk')
    have q1 : (k : Int) / c.1 ≤ k := Int.ediv_le_self _ (by omega)
    have q2 : 0 ≤ (k : Int) / c.1 := Int.ediv_nonneg (by omega) (by omega)
    have q3 : l.getD k 0 / c.1 ≤ l.getD k 0 := Int.ediv_le_self _ (by omega)
    have q4 : 0 ≤ l.getD k 0 / c.1 := Int.ediv_nonneg (by omega) (by omega)
    refine ⟨by omega, by omega, fits_i64 (by omega) (by omega), by omega, fits_i64 (by omega) (by omega), ?_, fits_nat (by omega), k + 1, by omega, by omega, (edgesTo_succ _ _ _).symm, by simp⟩
    rw [edgesTo_length]; unfold Small; omega
  · have : k = l.length := by omega
    subst this
    rfl

theorem touch_clash {es : List Ed} {c : List Int} {i j : Nat} (hj : j < i) (h : touch es c i j = true) : clashF es c i = true := List.any_eq_true.2 ⟨j, List.mem_range.2 hj, h⟩
theorem no_clash {es : List Ed} {c : List Int} {i : Nat} (h : ∀ j, j < i → touch es c i j = false) : clashF es c i = false := by
  unfold clashF
  rw [List.any_eq_false]
  intro j hj
  rw [h j (List.mem_range.1 hj)]
  simp

theorem ok66 : p66.OK Tryd.prog := p66.ok C66 (fun _ => cx0) (fn := Tryd.f66) rfl (by decide +kernel) rfl fun (p : List Ed × List Int × Int) hp => by
  obtain ⟨es, c, i⟩ := p
  refine (g66_eq es c i).mpr ?_
  obtain ⟨h1, h2, h3, h4, h5⟩ := hp
  have h1 : es.length ≤ 1000 := h1
  have h2 : c.length ≤ 1000 := h2
  have h3 : (0 : Int) ≤ i := h3
  have h4 : i < (es.length : Int) := h4
  have h5 : i < (c.length : Int) := h5
  simp only [pp1, eq_self, and_true, true_and, and_self, Int.toNat_natCast, List.drop_zero]
  have hl : (es.take i.toNat).length = i.toNat := by rw [List.length_take]; omega
  rw [hl]
  refine ⟨by omega, ⟨0, ⟨by omega, fun j hj => by omega⟩, rfl⟩, fun k ⟨hk, hb⟩ => ⟨fun h6 => ?_, fun h6 => ?_⟩⟩
  · have hk' : k < i.toNat := by omega
    rw [getD_take es (0, 0) hk']
    have step : touch es c i.toNat k = false → Fits IntKind.i64 ((k : Int) + 1) ∧ ∃ x', (x' ≤ i.toNat ∧ ∀ (j : Nat), j < x' → touch es c i.toNat j = false) ∧ i.toNat - x' < i.toNat - k ∧ (k : Int) + 1 = (x' : Nat) := fun h =>
      ⟨fits_nat (by omega), k + 1, ⟨by omega, all_below hb h⟩, by omega, by simp⟩
    refine ⟨by omega, by omega, by omega, fun e1 => ⟨by omega, fun e2 => ?_, fun e2 => ⟨by omega, fun e3 => ?_, fun e3 => step ?_⟩⟩, fun e1 => step ?_⟩
    · exact (touch_clash hk' (decide_eq_true ⟨e1, .inl e2⟩)).symm
    · exact (touch_clash hk' (decide_eq_true ⟨e1, .inr e3⟩)).symm
    · exact decide_eq_false fun h => h.2.elim e2 e3
    · exact decide_eq_false fun h => e1 h.1
  · have : k = i.toNat := by omega
    subst this
    exact (no_clash hb).symm
end Go.SX.Pa
