/- Chapter 03: Best and its reference. -/
import Derived.Test.YtmbbalghofbnbaaS9Q
import Derived.Test.YtmbbalghofbnbaaS10E
namespace Go.SX.Sh
open Go Go.Proofs

theorem belowTo_zero (n : Nat) : List.replicate n 0 = belowTo (n : Int) 0 := by simp [belowTo]
theorem belowTo_len (n k : Nat) (h : k ≤ n) : (belowTo (n : Int) k).length = n := by simp [belowTo]; omega
theorem belowTo_set (n k : Nat) (h : k < n) : (belowTo (n : Int) k).set k (k : Int) = belowTo (n : Int) (k + 1) := by
  unfold belowTo
  have e : (n : Int).toNat - k = ((n : Int).toNat - (k + 1)) + 1 := by omega
  rw [List.set_append_right _ _ (by simp), e, List.replicate_succ, List.range_succ]
  simp
theorem belowTo_all (n : Nat) : belowTo (n : Int) n = belowF (n : Int) := by simp [belowTo, belowF]

theorem srt_take (l : List Sp) (o : List Int) (k : Nat) (h : k < o.length) : srtF l (o.take (k + 1)) = srtF l (o.take k) ++ [l.getD (o.getD k 0).toNat (0, 0)] := by
  unfold srtF
  rw [take_map_succ' _ 0 o k h]
where
  take_map_succ' {α β : Type} (f : α → β) (d : α) (l : List α) (k : Nat) (h : k < l.length) : (l.take (k + 1)).map f = (l.take k).map f ++ [f (l.getD k d)] := by
    rw [List.take_add_one, List.map_append, List.getElem?_eq_getElem h, List.getD_eq_getElem?_getD, List.getElem?_eq_getElem h]
    rfl

theorem ok35 : p35.OK Try.prog := p35.ok C35 (fun xs => cx4 (PC.OK.ci ok38) (inl_ok (C := C52i xs.length 1) cx0 rfl (by decide +kernel) rfl) (inl_ok (cx1 (HeapOK.ci ok63 (fun _ => ⟨trivial, trivial, trivial⟩) pick63_ex)) rfl (by decide +kernel) rfl) (PC.OK.ci ok49)) (fn := Try.f35) rfl (by decide +kernel) rfl fun (l : List Sp) hp => by
  have hp : l.length ≤ 1000 := hp
  refine (g35_eq l).mpr ?_
  simp only [pp1, eq_self, and_true, true_and, and_self, Int.toNat_natCast, List.drop_zero, List.length_replicate]
  refine ⟨hp, guard_no, fun hc => ?_⟩
  have hc := Classical.not_not.1 hc
  obtain ⟨hl, hbad⟩ := checkF_zero hc
  have hval : ∀ s ∈ l, 0 ≤ s.1 ∧ s.1 ≤ 1000 := fun s hs => by
    obtain ⟨i, hi, rfl⟩ := List.getElem_of_mem hs
    have := not_bad (hbad i hi)
    unfold at_ at this
    rw [List.getD_eq_getElem?_getD, List.getElem?_eq_getElem hi] at this
    exact ⟨this.1, by have := this.2; simp only [Option.getD_some] at this; omega⟩
  have hol := ord_len l
  refine ⟨⟨by omega, by omega, small_of (by omega)⟩, ⟨0, by omega, belowTo_zero _, rfl⟩, fun k hk => ⟨fun hlt => ?_, fun hge => ?_⟩⟩
  · have hk' : k < l.length := by omega
    rw [belowTo_len _ _ hk]
    exact ⟨by omega, fits_nat (by omega), k + 1, by omega, by omega, belowTo_set _ _ hk', by omega⟩
  · have ek : k = l.length := by omega
    subst ek
    rw [belowTo_all, below_len]
    have eo : sortSeg l (belowF (l.length : Int)) 0 l.length = ordF l := rfl
    simp only [eo, hol]
    refine ⟨⟨hl, ⟨fun e he => ?_, hval⟩, below_stab l l.length⟩, ⟨0, by omega, rfl, rfl⟩, fun m hm => ⟨fun hlt => ?_, fun hge2 => ?_⟩⟩
    · obtain ⟨i, h1, h2⟩ := below_mem.1 he
      omega
    · have hm' : m < l.length := by omega
      obtain ⟨i, h1, h2⟩ := ord_at l hm'
      have h3 := srt_take l (ordF l) m (by rw [hol]; exact hm')
      have h4 : (srtF l ((ordF l).take m)).length ≤ 40 := by rw [srtF_len]; simp; omega
      refine ⟨by omega, by omega, small_of (by omega), fits_nat (by omega), m + 1, by omega, by omega, ?_, by omega⟩
      rw [h3]
    · have em : (ordF l).take m = ordF l := List.take_of_length_le (by omega)
      rw [em]
      have hsl := srt_len l
      have hfl : (firstF (srtF l (ordF l))).length = l.length := by rw [firstF_length, hsl]
      simp only [hfl, hsl]
      refine ⟨⟨by omega, by omega, small_of (by omega)⟩, by omega, ⟨0, by omega, rfl, rfl⟩, fun q hq => ⟨fun hlt => ?_, fun hge3 => ?_⟩⟩
      · have hq' : q < l.length := by omega
        obtain ⟨i, h1, h2⟩ := ord_at l hq'
        rw [scat_len]
        exact ⟨by omega, by omega, by omega, fits_nat (by omega), q + 1, by omega, by omega, rfl, by omega⟩
      · have eq : q = l.length := by omega
        subst eq
        exact guard_yes (f := bestF) (by simpa using hc)

theorem ok37 : p37.OK Try.prog := p37.ok C37 (fun _ => cx1 (PC.OK.ci ok36)) (fn := Try.f37) rfl (by decide +kernel) rfl fun (l : List Sp) hp => by
  have hp : checkF l = 0 := hp
  obtain ⟨hl, hbad⟩ := checkF_zero hp
  refine (g37_eq l).mpr ?_
  simp only [pp1, eq_self, and_true, true_and, and_self, Int.toNat_natCast, List.drop_zero]
  refine ⟨⟨0, by omega, ⟨rfl, rfl⟩, rfl⟩, fun f hf => ⟨fun hlt => ⟨⟨0, by omega, ⟨?_, ?_⟩, rfl⟩, fun j hj => ⟨fun hlt2 => ?_, fun hge2 => ?_⟩⟩, fun hge => ?_⟩⟩
  · simp [rowR]
  · simp [rowR]
  · have hj' : j < l.length := by omega
    have hlen := rowR_ordR l f j (by omega)
    have hs := rowR_succ l f j
    have e0 : (l.getD j (0, 0)).1 = (at_ l j).1 := rfl
    rw [e0]
    refine ⟨by omega, fun h => ⟨by omega, small_of (by omega), small_of (by rw [srtF_len]; omega), fits_nat (by omega), j + 1, by omega, by omega, ⟨?_, ?_⟩, by omega⟩, fun h => ⟨fits_nat (by omega), j + 1, by omega, by omega, ⟨?_, ?_⟩, by omega⟩⟩
    · rw [hs, if_pos h, List.append_assoc]
    · rw [hs, if_pos h, ← List.append_assoc, srtF_app l (_ ++ _)]
      simp [srtF, at_]
    · rw [hs, if_neg h, List.append_nil]
    · rw [hs, if_neg h, List.append_nil]
  · have ej : j = l.length := by omega
    subst ej
    exact ⟨fits_nat (by omega), f + 1, by omega, by omega, ⟨rfl, rfl⟩, by omega⟩
  · have ef : f = 1000 := by omega
    subst ef
    have hlen := ordR_len l 1000
    have hmem : ∀ k, k < (ordR l 1000).length → ∃ i : Nat, i < l.length ∧ (ordR l 1000).getD k 0 = i := fun k hk => by
      obtain ⟨i, h1, h2, _⟩ := (ordR_mem (l := l) (F := 1000)).1 (getD_in (d := (0 : Int)) hk)
      exact ⟨i, h1, h2⟩
    have hb : bestR l = scatTo (ordR l 1000) (firstF (srtF l (ordR l 1000))) l.length (ordR l 1000).length := rfl
    rw [hb]
    clear hb hge hf
    generalize ordR l 1000 = o at *
    have hfl : (firstF (srtF l o)).length = o.length := by rw [firstF_length, srtF_len]
    have loop : ∀ k : Nat, k ≤ o.length → ((k : Int) < (o.length : Int) → (0 ≤ (k : Int) ∧ (k : Int) < (o.length : Int)) ∧ (0 ≤ (k : Int) ∧ (k : Int) < (o.length : Int)) ∧ (0 ≤ o.getD k 0 ∧ o.getD k 0 < (l.length : Int)) ∧ Fits .i64 ((k : Int) + 1) ∧
        ∃ x' : Nat, x' ≤ o.length ∧ o.length - x' < o.length - k ∧ (scatTo o (firstF (srtF l o)) l.length k).set (o.getD k 0).toNat ((firstF (srtF l o)).getD k 0) = scatTo o (firstF (srtF l o)) l.length x' ∧ (k : Int) + 1 = (x' : Int)) ∧
        (¬ (k : Int) < (o.length : Int) → scatTo o (firstF (srtF l o)) l.length k = scatTo o (firstF (srtF l o)) l.length o.length) := fun k hk => ⟨fun hlt => by
      obtain ⟨i, h1, h2⟩ := hmem k (by omega)
      exact ⟨by omega, by omega, by omega, fits_nat (by omega), k + 1, by omega, by omega, rfl, by omega⟩, fun hge => by
      have ek : k = o.length := by omega
      subst ek; rfl⟩
    have h1 : (srtF l o).length ≤ 100 := by rw [srtF_len]; omega
    have h2 : 0 ≤ (l.length : Int) ∧ (l.length : Int) ≤ (l.length : Int) ∧ Small l.length := ⟨by omega, by omega, small_of (by omega)⟩
    have h3 : ∃ x0 : Nat, x0 ≤ o.length ∧ List.replicate l.length 0 = scatTo o (firstF (srtF l o)) l.length x0 ∧ 0 = (x0 : Int) := ⟨0, by omega, rfl, rfl⟩
    simp only [hfl, scat_len]
    exact ⟨⟨h1, h2, h3, loop⟩, h2, h1, h3, loop⟩
end Go.SX.Sh
