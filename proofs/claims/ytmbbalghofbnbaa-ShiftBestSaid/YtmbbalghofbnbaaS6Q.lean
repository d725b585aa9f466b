/- Chapter 03: the laws' helpers. -/
import Derived.Test.YtmbbalghofbnbaaS3Q
import Derived.Test.YtmbbalghofbnbaaS6E
namespace Go.SX.Sh
open Go Go.Proofs

theorem getD_mem {α : Type} (l : List α) (d : α) (k : Nat) (h : k < l.length) : l.getD k d ∈ l := by
  rw [List.getD_eq_getElem?_getD, List.getElem?_eq_getElem h]
  exact List.getElem_mem h

theorem ok29 : p29.OK Try.prog := p29.ok C29 (fun _ => cx0) (fn := Try.f29) rfl (by decide +kernel) rfl fun (p : List (Int × Int) × Int) hp => by
  obtain ⟨x, pl⟩ := p
  obtain ⟨hx, h0, h1⟩ : (∀ q ∈ x, U16 q) ∧ 0 ≤ pl ∧ pl ≤ 1000 := hp
  refine (g29_eq x pl).mpr ?_
  simp only [pp1, eq_self, and_true, true_and, and_self, Int.toNat_natCast, List.drop_zero]
  have done : ∀ k : Nat, k ≤ min x.length 40 → ((¬ (k : Int) < x.length) ∨ ¬ (k : Int) < 40) → List.filterMap (mk1 pl) (List.take k x) = madeF x pl := fun k hk hd => by
    unfold madeF
    rcases Nat.le_total x.length 40 with h | h
    · rw [List.take_of_length_le h, List.take_of_length_le (by omega)]
    · have : k = 40 := by omega
      rw [this]
  refine ⟨⟨0, by omega, rfl, rfl⟩, fun k hk => ⟨fun h1 => ⟨fun h2 => ?_, fun h2 => done k hk (.inr h2)⟩, fun h1 => done k hk (.inl h1)⟩⟩
  have hk' : k < x.length := by omega
  obtain ⟨u1, u2⟩ := hx _ (getD_mem x (0, 0) k hk')
  have hs := take_filterMap (mk1 pl) (0, 0) x k hk'
  have hl : (List.filterMap (mk1 pl) (List.take k x)).length ≤ 40 := by
    have := List.length_filterMap_le (mk1 pl) (x.take k)
    have h2 : (x.take k).length ≤ 40 := by simp; omega
    omega
  generalize x.getD k (0, 0) = q at *
  refine ⟨by omega, fits_i64 (by omega) (by omega), fits_i64 (by omega) (by omega), by omega, by omega, fits_i64 (by omega) (by omega), fits_i64 (by omega) (by omega), by omega,
    fun h3 => ⟨small_of (by omega), fits_nat (by omega), k + 1, by omega, by omega, ?_, by omega⟩, fun h3 => ⟨fits_nat (by omega), k + 1, by omega, by omega, ?_, by omega⟩⟩
  · rw [hs]; unfold mk1; rw [if_neg h3]; rfl
  · rw [hs]; unfold mk1; rw [if_pos (Classical.not_not.1 h3)]; simp

theorem seenF_succ (l : List Int) (k : Nat) (h : k < l.length) : seenF (l.take (k + 1)) = if l.getD k 0 ∈ seenF (l.take k) then seenF (l.take k) else seenF (l.take k) ++ [l.getD k 0] := by
  unfold seenF; rw [take_foldl _ _ 0 l k h]
theorem topF_succ (l : List Int) (k : Nat) (h : k < l.length) : topF (l.take (k + 1)) = max (topF (l.take k)) (l.getD k 0 + 1) := by
  unfold topF; rw [take_foldl _ _ 0 l k h]

theorem ok32 : p32.OK Try.prog := p32.ok C32 (fun _ => cx1 (PC.OK.ci ok50)) (fn := Try.f32) rfl (by decide +kernel) rfl fun (l : List Int) hp => by
  obtain ⟨hl, hx⟩ : l.length ≤ 100 ∧ ∀ x ∈ l, 0 ≤ x ∧ x ≤ 1000 := hp
  refine (g32_eq l).mpr ?_
  simp only [pp1, eq_self, and_true, true_and, and_self, Int.toNat_natCast, List.drop_zero]
  refine ⟨⟨0, by omega, rfl, rfl, rfl⟩, fun k hk => ⟨fun h1 => ?_, fun h1 => ?_⟩⟩
  · have hk' : k < l.length := by omega
    have hm := hx _ (getD_mem l 0 k hk')
    have h2 := seenF_length (l.take k)
    have h3 : (l.take k).length ≤ 100 := by simp; omega
    have hs := seenF_succ l k hk'
    have ht := topF_succ l k hk'
    refine ⟨by omega, by omega, fun h4 => ⟨by omega, small_of (by omega), by omega, fits_i64 (by omega) (by omega), fits_nat (by omega), k + 1, by omega, by omega, ?_, by omega, ht.symm⟩,
      fun h4 => ⟨by omega, fits_i64 (by omega) (by omega), fits_nat (by omega), k + 1, by omega, by omega, ?_, by omega, ht.symm⟩⟩
    · rw [hs, if_neg (by simpa using h4)]
    · rw [hs, if_pos (by simpa using h4)]
  · have hk' : l.take k = l := List.take_of_length_le (by omega)
    rw [hk']; rfl

theorem ok33 : p33.OK Try.prog := p33.ok (fun _ => cx [p16.ci, p31.ci, p26.ci, p22.ci] []) (fun _ => cx4 (PC.OK.ci ok16) (PC.OK.ci ok31) (PC.OK.ci ok26) (PC.OK.ci ok22)) (fn := Try.f33) rfl (by decide +kernel) rfl fun (p : List Sp × List Sp) hp => by
  obtain ⟨x, y⟩ := p
  obtain ⟨hx, hy⟩ : checkF x = 0 ∧ checkF y = 0 := hp
  refine (g33_eq x y).mpr ?_
  simp only [pp1, eq_self, and_true, true_and, and_self, Int.toNat_natCast, List.drop_zero]
  have lx := (checkF_zero hx).1
  have ly := (checkF_zero hy).1
  have e : ∀ (z : List Sp) (f : List Sp → List Int), checkF z = 0 → guardF z f = (f z, 0) := fun z f h => by unfold guardF; rw [if_pos h]
  have d : ∀ z : List Sp, checkF z = 0 → depthP z = (((deepF z).2.length : Int), 0) := fun z h => by unfold depthP; rw [if_pos h]
  have n1 : ∀ z : List Sp, z.length ≤ 40 → (firstF z).length ≤ 1000 := fun z h => by unfold firstF; rw [fitTo_length]; omega
  have n2 : ∀ z : List Sp, z.length ≤ 40 → (trotF z).length ≤ 1000 := fun z h => by unfold trotF; rw [fitTo_length]; omega
  have a1 := n1 x lx
  have a2 := n1 y ly
  have a3 := n2 x lx
  have a4 := n2 y ly
  rw [e x _ hx, e y _ hy, e x _ hx, e y _ hy, d x hx, d y hy]
  simp only [Int.ofNat_inj]
  by_cases h1 : (deepF x).2.length = (deepF y).2.length <;> by_cases h2 : firstF x = firstF y <;> by_cases h3 : trotF x = trotF y <;> simp [h1, h2, h3] <;> (try rw [← h2]) <;> (try rw [← h3]) <;> omega
end Go.SX.Sh
