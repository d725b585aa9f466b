/- Chapter 06, part 2: the contracts of the colourings. -/
import Derived.Test.YtfbgbdiajghnbaaDoorPa2E
namespace Go.SX.Pa
open Go Go.Proofs

theorem lookF_insF {α : Type} (n : Int) (x : α) (v : Int) : (es : List (Int × α)) → lookF (insF es n x) v = if n = v then some x else lookF es v
  | [] => by simp [insF, lookF]
  | p :: r => by
    unfold insF
    split
    · rename_i h
      simp only [lookF, h]
      split <;> rfl
    · rename_i h
      simp only [lookF]
      rw [lookF_insF n x v r]
      split
      · rename_i h2
        rw [if_neg (by intro e; exact h (h2.trans e.symm))]
      · rfl
theorem look_add (es : List (Int × Int)) (u v : Int) : (lookF (addT es u) v).getD 0 = (lookF es v).getD 0 + if u = v then 1 else 0 := by
  unfold addT
  rw [lookF_insF]
  split
  · rename_i h; subst h; simp
  · simp

theorem degTo_succ (es : List Ed) (k : Nat) (h : k < es.length) : degTo es (k + 1) = degStep (degTo es k) (es.getD k (0, 0)) := by
  unfold degTo
  rw [take_snoc es (0, 0) k h, List.foldl_append]
  rfl
/-- What the maps hold. -/
theorem degTo_look (es : List Ed) (v : Int) (k : Nat) (h : k ≤ es.length) :
    (lookF (degTo es k).1 v).getD 0 = ((es.take k).countP fun e => decide (e.1 = v) : Nat) ∧ (lookF (degTo es k).2.1 v).getD 0 = ((es.take k).countP fun e => decide (e.2 = v) : Nat) := by
  induction k with
  | zero => simp [degTo, lookF]
  | succ k ih =>
    obtain ⟨h1, h2⟩ := ih (by omega)
    rw [degTo_succ es k (by omega), take_snoc es (0, 0) k (by omega), List.countP_append, List.countP_append]
    unfold degStep
    simp only [look_add, h1, h2, List.countP_cons, List.countP_nil, Nat.zero_add, decide_eq_true_eq]
    refine ⟨?_, ?_⟩ <;> split <;> simp
theorem degTo_bound (es : List Ed) (v : Int) (k : Nat) (h : k ≤ es.length) : (0 ≤ (lookF (degTo es k).1 v).getD 0 ∧ (lookF (degTo es k).1 v).getD 0 ≤ es.length) ∧ 0 ≤ (lookF (degTo es k).2.1 v).getD 0 ∧ (lookF (degTo es k).2.1 v).getD 0 ≤ es.length := by
  obtain ⟨h1, h2⟩ := degTo_look es v k h
  rw [h1, h2]
  have l1 : (es.take k).countP (fun e => decide (e.1 = v)) ≤ (es.take k).length := List.countP_le_length
  have l2 : (es.take k).countP (fun e => decide (e.2 = v)) ≤ (es.take k).length := List.countP_le_length
  have : (es.take k).length ≤ es.length := by simp; omega
  omega

theorem ok59 : p59.OK Tryd.prog := p59.ok C59 (fun _ => cx0) (fn := Tryd.f59) rfl (by decide +kernel) rfl fun (es : List Ed) hp => by
  refine (g59_eq es).mpr ?_
  have hp : es.length ≤ 1000 := hp
  simp only [pp1, eq_self, and_true, true_and, and_self, Int.toNat_natCast]
  refine ⟨⟨0, by omega, ⟨rfl, rfl⟩, rfl, rfl⟩, fun k hk => ⟨fun h1 => ?_, fun h1 => ?_⟩⟩
  · have hk' : k < es.length := by omega
    have b1 := (degTo_bound es (es.getD k (0, 0)).1 k hk).1
    have b2 := (degTo_bound es (es.getD k (0, 0)).2 k hk).2
    refine ⟨by omega, fits_i64 (by omega) (by omega), fits_i64 (by omega) (by omega), fits_nat (by omega), k + 1, by omega, by omega, ?_⟩
    rw [degTo_succ es k hk']
    refine ⟨⟨rfl, rfl⟩, by simp, rfl⟩
  · have : k = es.length := by omega
    subst this
    rfl

theorem findSome_at {α : Type} {f : Nat → Option α} {m x : Nat} {l : α} (hx : x < m) (h : ∀ c, c < x → f c = none) (hf : f x = some l) : (List.range m).findSome? f = some l := by
  have e : List.range m = List.range x ++ x :: (List.range' (x + 1) (m - x - 1)) := by
    rw [List.range_eq_range', List.range_eq_range', show x :: List.range' (x + 1) (m - x - 1) = List.range' x (m - x - 1 + 1) from rfl, show List.range' 0 x ++ List.range' x (m - x - 1 + 1) = List.range' 0 (x + (m - x - 1 + 1)) by
      have := @List.range'_append 0 x (m - x - 1 + 1) 1
      simpa using this]
    congr 1
    omega
  rw [e, List.findSome?_append]
  have : (List.range x).findSome? f = none := by
    rw [List.findSome?_eq_none_iff]
    intro c hc
    exact h c (List.mem_range.1 hc)
  rw [this]
  simp [hf]
theorem findSome_no {α : Type} {f : Nat → Option α} {m : Nat} (h : ∀ c, c < m → f c = none) : (List.range m).findSome? f = none := by
  rw [List.findSome?_eq_none_iff]
  intro c hc
  exact h c (List.mem_range.1 hc)

theorem extR_done {es : List Ed} {m : Int} {out : List Int} (h : out.length = es.length) : extR es m out = some out := by
  unfold extR
  rw [h, Nat.sub_self]
  rfl
theorem extR_step {es : List Ed} {m : Int} {out : List Int} (h : out.length < es.length) : extR es m out = (List.range m.toNat).findSome? fun c : Nat => if clashF es (out ++ [(c : Int)]) out.length = true then none else extR es m (out ++ [(c : Int)]) := by
  conv => lhs; unfold extR
  obtain ⟨f, hf⟩ : ∃ f, es.length - out.length = f + 1 := ⟨es.length - out.length - 1, by omega⟩
  rw [hf]
  unfold extF
  congr 1
  funext c
  split
  · rfl
  · unfold extR
    rw [List.length_append, List.length_singleton, show es.length - (out.length + 1) = f by omega]
theorem extR_at {es : List Ed} {m : Int} {out l : List Int} {x : Nat} (h : out.length < es.length) (hx : (x : Int) < m) (hn : noExt es m out x) (hc : clashF es (out ++ [(x : Int)]) out.length = false) (he : extR es m (out ++ [(x : Int)]) = some l) : extR es m out = some l := by
  rw [extR_step h]
  refine findSome_at (x := x) (by omega) (fun c hc => ?_) ?_
  · rcases hn c hc with h1 | h1
    · rw [if_pos h1]
    · rw [h1]; split <;> rfl
  · rw [hc]; exact he
theorem extR_no {es : List Ed} {m : Int} {out : List Int} {x : Nat} (h : out.length < es.length) (hx : m ≤ x) (hn : noExt es m out x) : extR es m out = none := by
  rw [extR_step h]
  refine findSome_no fun c hc => ?_
  rcases hn c (by omega) with h1 | h1
  · rw [if_pos h1]
  · rw [h1]; split <;> rfl
theorem take_loopOut (out : List Int) (k : Nat) : (loopOut out k).take out.length = out := by
  cases k <;> simp [loopOut]
theorem loopOut_le (out : List Int) (k : Nat) : out.length ≤ (loopOut out k).length := by
  cases k <;> simp [loopOut]
theorem noExt_succ {es : List Ed} {m : Int} {out : List Int} {x : Nat} (hn : noExt es m out x) (h : clashF es (out ++ [(x : Int)]) out.length = true ∨ extR es m (out ++ [(x : Int)]) = none) : noExt es m out (x + 1) := fun c hc => by
  rcases Nat.lt_succ_iff_lt_or_eq.1 hc with h1 | h1
  · exact hn c h1
  · subst h1; exact h

theorem h72 : HeapOK Tryd.prog H72 := heap_rec (fn := Tryd.f72) m72 rfl (by decide +kernel) rfl (fun _ => ⟨trivial, trivial, trivial, trivial, trivial, trivial⟩) C72
  (fun x h => cx2 (PC.OK.ci ok66) (h.ci (fun _ => ⟨trivial, trivial, trivial, trivial, trivial, trivial⟩) fun args H K hk => by
    unfold pick72 at hk
    split at hk
    · split at hk
      · exact ⟨_, _, hk⟩
      · exact hk.elim
    · exact hk.elim)) fun (x : List Ed × Int × List Int) hx => by
  obtain ⟨es, m, out⟩ := x
  refine (g72_eq es m out).mpr ?_
  obtain ⟨h1, h2, h3, h4⟩ := hx
  have h1 : out.length ≤ es.length := h1
  have h2 : es.length ≤ 1000 := h2
  have h3 : (0 : Int) ≤ m := h3
  have h4 : m ≤ (1000 : Int) := h4
  simp only [pp1, eq_self, and_true, true_and, and_self, Int.toNat_natCast, take_loopOut]
  refine ⟨fun h => ?_, fun h => ⟨⟨0, ⟨by omega, fun c hc => by omega⟩, rfl, rfl⟩, fun k ⟨hk, hn⟩ => ⟨fun h5 => ?_, fun h5 => ?_⟩⟩⟩
  · rw [extR_done (by omega)]
    exact ⟨rfl, rfl⟩
  · have hlt : out.length < es.length := by omega
    have hl := loopOut_le out k
    have hl1 : (out ++ [(k : Int)]).length = out.length + 1 := by simp
    rw [hl1]
    refine ⟨by omega, by unfold Small; omega, by omega, fun h6 => ⟨⟨by omega, ?_⟩, fun h7 => ?_, fun h7 => ?_⟩, fun h6 => ?_⟩
    · show es.length - (out ++ [(k : Int)]).length < es.length - out.length
      rw [hl1]; omega
    · obtain ⟨l, hl⟩ := Option.isSome_iff_exists.1 h7
      have he := extR_at hlt h5 hn (by simpa using h6) hl
      rw [he, hl]
      exact ⟨rfl, rfl⟩
    · have h8 : extR es m (out ++ [(k : Int)]) = none := by simpa using h7
      refine ⟨fits_nat (by omega), k + 1, ⟨by omega, noExt_succ hn (.inr h8)⟩, by omega, ?_, by simp⟩
      rw [h8]; rfl
    · exact ⟨fits_nat (by omega), k + 1, ⟨by omega, noExt_succ hn (.inl (by simpa using h6))⟩, by omega, rfl, by simp⟩
  · have hl := loopOut_le out k
    rw [extR_no (by omega) (by omega : m ≤ k) hn]
    exact ⟨by omega, rfl, rfl⟩

theorem ok58 : NilOK Tryd.prog n58 := n58.rec_ok (fn := Tryd.f58) (fun _ => 0) C58 (fun _ _ => cx2 (PC.OK.ci ok59) (h72.ci (fun _ => ⟨trivial, trivial, trivial, trivial, trivial, trivial⟩) fun args H K hk => by
    unfold pick72 at hk
    split at hk
    · split at hk
      · exact ⟨_, _, hk⟩
      · exact hk.elim
    · exact hk.elim)) rfl (by decide +kernel) rfl fun (x : List Ed × Int) hx => by
  obtain ⟨es, m⟩ := x
  refine (g58_eq es m).mpr ?_
  obtain ⟨h1, h2, h3⟩ := hx
  have h1 : es.length ≤ 1000 := h1
  have h2 : (0 : Int) ≤ m := h2
  have h3 : m ≤ (1000 : Int) := h3
  simp only [pp1, eq_self, and_true, true_and, and_self, Int.toNat_natCast]
  unfold colF
  have e0 : (List.replicate (Int.toNat 0) (0 : Int)) = [] := rfl
  rw [e0]
  refine ⟨h1, fun h => by rw [if_neg (by omega)], fun h => ⟨⟨by omega, by omega, by unfold Small; omega⟩, ⟨by simp, by omega⟩, fun h4 => ?_, fun h4 => ?_⟩⟩
  · have h4 : extR es m [] = none := by simpa using h4
    rw [h4]; simp
  · rw [if_pos (by omega)]
    have h4 : (extR es m []).isSome = true := by simpa using h4
    obtain ⟨l, hl⟩ := Option.isSome_iff_exists.1 h4
    rw [hl]; rfl
end Go.SX.Pa
