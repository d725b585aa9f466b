/- Chapter 03: the laws C3 to C8. -/
import Derived.Test.YtmbbalghofbnbaaS6Q
import Derived.Test.YtmbbalghofbnbaaS7E
namespace Go.SX.Sh
open Go Go.Proofs

theorem guard_ok {l : List Sp} (h : checkF l = 0) (f : List Sp → List Int) : guardF l f = (f l, 0) := by unfold guardF; rw [if_pos h]
theorem depthP_ok {l : List Sp} (h : checkF l = 0) : depthP l = ((depthF l : Int), 0) := by unfold depthP; rw [if_pos h]
theorem depthF_le (l : List Sp) : depthF l ≤ l.length := deepF_length l

theorem nearTo_succ (l : List Sp) (v : List Int) (i k : Nat) : nearTo l v i (k + 1) = nearTo l v i k + if nearB l v i k = true then 1 else 0 := cR_succ _ _

theorem ok6 : p6.OK Try.prog := p6.ok C6 (fun _ => cx6 (PC.OK.ci ok29) (PC.OK.ci ok26) (PC.OK.ci ok25) (PC.OK.ci ok16) (PC.OK.ci ok19) (PC.OK.ci ok30)) (fn := Try.f6) rfl (by decide +kernel) rfl fun (x : List (Int × Int)) hx => by
  have hx : ∀ q ∈ x, U16 q := hx
  refine (g6_eq x).mpr ?_
  simp only [pp1, eq_self, and_true, true_and, and_self, Int.toNat_natCast, List.drop_zero]
  refine ⟨⟨hx, by omega, by omega⟩, ?_⟩
  have hc := madeF_check x 60 (by omega) (by omega)
  have hl := madeF_length x 60
  generalize madeF x 60 = l at *
  have hg := good_of hc
  have hv := levels_eq l (checkF_zero hc).2
  have ht := trot_eq l (checkF_zero hc).2
  rw [guard_ok hc, guard_ok hc, depthP_ok hc, hv, ht]
  have lv : (levelsR l).length = l.length := levelsTR_length _ _
  have lt : (trotR l).length = l.length := fitTo_length _ _ _
  have hd := depthF_le l
  have hnear : ∀ i k, nearTo l (levelsR l) i k ≤ k := fun i k => cR_le _ _
  simp only [lv, lt, Bool.not_true, Bool.false_eq_true, false_imp_iff, not_true_eq_false, not_false_eq_true, true_imp_iff, true_and]
  refine ⟨by omega, by omega, by omega, ⟨0, by omega, rfl⟩, fun i hi => ⟨fun h1 => ?_, fun h1 => h1⟩⟩
  have hi' : i < l.length := by omega
  refine ⟨⟨0, by omega, rfl, rfl⟩, fun k hk => ⟨fun h2 => ?_, fun h2 => ?_⟩⟩
  · have hs := nearTo_succ l (levelsR l) i k
    have hn := hnear i k
    have e1 : ∀ (P : Prop), (nearB l (levelsR l) i k = false → P) → (nearB l (levelsR l) i k = false → P) := fun _ h => h
    refine ⟨fun h3 => ⟨by omega, by omega, fun h4 => ⟨by omega, by omega, fun h5 => ⟨fits_nat (by omega), fits_nat (by omega), k + 1, by omega, by omega, by omega, ?_⟩, fun h5 => ⟨fits_nat (by omega), k + 1, by omega, by omega, by omega, ?_⟩⟩, fun h4 => ⟨fits_nat (by omega), k + 1, by omega, by omega, by omega, ?_⟩⟩,
      fun h3 => ⟨fits_nat (by omega), k + 1, by omega, by omega, by omega, ?_⟩⟩
    · rw [hs, if_pos (near_iff.2 ⟨by omega, h4, by rw [ovl_eq]; exact h5⟩)]; omega
    · rw [hs, if_neg]
      · omega
      · intro h; have := (near_iff.1 h).2.2; rw [ovl_eq] at this; exact absurd (this.symm.trans h5) (by simp)
    · rw [hs, if_neg (fun h => h4 (near_iff.1 h).2.1)]; omega
    · rw [hs, if_neg (fun h => (near_iff.1 h).1 (by omega))]; omega
  · have e : k = l.length := by omega
    subst e
    have a1 := trot_range hi'
    have a2 := level_ok l hi'
    have a3 := level_le hg hi'
    have a4 : nearTo l (levelsR l) i l.length ≤ 2 := near_two hi'
    have a5 := a2.ge
    refine ⟨by omega, fun h => by omega, fun _ => ⟨by omega, fits_i64 (by omega) (by omega), fits_i64 (by omega) (by omega), fun h => by omega, fun _ => ⟨by omega, fun h => by omega, fun _ => ⟨by omega, fun h => by omega, fun _ => ⟨fun h => by omega, fun _ => ⟨by omega, fun h3 => ?_, fun h3 => ?_⟩⟩⟩⟩⟩⟩
    · have a6 : nearTo l (levelsR l) i l.length = 0 := near_one hi' h3
      refine ⟨fun h => by omega, fun _ => ⟨by omega, fun h => ?_, fun h => ⟨fits_nat (by omega), i + 1, by omega, by omega, by omega⟩⟩⟩
      exact absurd (a1.2.1 h3) h
    · exact ⟨fits_nat (by omega), i + 1, by omega, by omega, by omega⟩

theorem ok7 : p7.OK Try.prog := p7.ok (fun _ => cx [p29.ci, p31.ci, p16.ci, p32.ci, p19.ci] []) (fun _ => cx5 (PC.OK.ci ok29) (PC.OK.ci ok31) (PC.OK.ci ok16) (PC.OK.ci ok32) (PC.OK.ci ok19)) (fn := Try.f7) rfl (by decide +kernel) rfl fun (x : List (Int × Int)) hx => by
  have hx : ∀ q ∈ x, U16 q := hx
  refine (g7_eq x).mpr ?_
  simp only [pp1, eq_self, and_true, true_and, and_self, Int.toNat_natCast, List.drop_zero]
  refine ⟨⟨hx, by omega, by omega⟩, ?_⟩
  have hc := madeF_check x 60 (by omega) (by omega)
  have hl := madeF_length x 60
  generalize madeF x 60 = l at *
  have hg := good_of hc
  have a1 := first_le hg hl
  have a2 := first_ge hg
  have a3 := first_most l
  have hd := depthF_le l
  have lf := firstF_length l
  rw [guard_ok hc, depthP_ok hc]
  refine ⟨by omega, by omega, ⟨by simp only [lf]; omega, fun y hy => ⟨first_nonneg l y hy, by have := first_lt l y hy; omega⟩⟩, ?_⟩
  simp [lf, a3, hc]
  rw [← a3]
  exact ⟨fits_i64 (by omega) (by omega), fun _ => a2, a1⟩

theorem ok8 : p8.OK Try.prog := p8.ok (fun _ => cx [p29.ci, p31.ci, p26.ci, p25.ci, p22.ci, p19.ci] []) (fun _ => cx6 (PC.OK.ci ok29) (PC.OK.ci ok31) (PC.OK.ci ok26) (PC.OK.ci ok25) (PC.OK.ci ok22) (PC.OK.ci ok19)) (fn := Try.f8) rfl (by decide +kernel) rfl fun (p : List (Int × Int) × Int) hp => by
  obtain ⟨x, m⟩ := p
  obtain ⟨hx, h0, h1⟩ : (∀ q ∈ x, U16 q) ∧ 0 ≤ m ∧ m ≤ 255 := hp
  refine (g8_eq x m).mpr ?_
  simp only [pp1, eq_self, and_true, true_and, and_self, Int.toNat_natCast, List.drop_zero]
  refine ⟨⟨hx, by omega, by omega⟩, ?_⟩
  have hc := madeF_check x 60 (by omega) (by omega)
  have hl := madeF_length x 60
  have hok := madeF_ok x 60 (by omega) (by omega)
  generalize madeF x 60 = l at *
  have r1 := Int.emod_nonneg m (show (l.length : Int) + 1 ≠ 0 by omega)
  have r2 := Int.emod_lt_of_pos m (show (0 : Int) < (l.length : Int) + 1 by omega)
  refine ⟨fits_i64 (by omega) (by omega), fits_i64 (by omega) (by omega), by omega, ?_⟩
  generalize hn : m % ((l.length : Int) + 1) = n at *
  have hnl : n.toNat ≤ l.length := by omega
  have hc' : checkF (l.take n.toNat) = 0 := checkF_ok (by simp; omega) fun s hs => by have := hok s (List.mem_of_mem_take hs); omega
  have f1 := first_take l _ hnl
  have f2 : trotF (l.take n.toNat) = (trotF l).take n.toNat := by rw [trot_eq _ (checkF_zero hc').2, trot_eq _ (checkF_zero hc).2]; exact trot_take l _ hnl
  have f3 : levelsF (l.take n.toNat) = (levelsF l).take n.toNat := by rw [levels_eq _ (checkF_zero hc').2, levels_eq _ (checkF_zero hc).2]; exact levels_take l _ hnl
  have lf := firstF_length l
  have lt := trotF_length l
  have lv := levelsF_length l
  have ll : (l.take n.toNat).length = n.toNat := by simp; omega
  simp only [guard_ok hc, guard_ok hc', f1, f2, f3, lf, lt, lv, ll]
  have l1 : ((firstF l).take n.toNat).length ≤ 1000 := by simp; omega
  have l2 : ((trotF l).take n.toNat).length ≤ 1000 := by simp; omega
  have l3 : ((levelsF l).take n.toNat).length ≤ 1000 := by simp; omega
  simp only [decide_true, Bool.true_eq_false, false_imp_iff, not_true_eq_false, true_imp_iff, and_true, forall_const]
  have hn40 : n.toNat ≤ 1000 := by omega
  have hnn : ((0 : Nat) : Int) ≤ n ∧ n ≤ (l.length : Int) := by omega
  simp only [l1, l2, l3, hnn, hn40, and_true, true_and, Int.natCast_zero, Int.le_refl]
  omega

theorem take_map_succ {α β : Type} (f : α → β) (d : α) (l : List α) (k : Nat) (h : k < l.length) : (l.take (k + 1)).map f = (l.take k).map f ++ [f (l.getD k d)] := by
  rw [List.take_add_one, List.map_append, List.getElem?_eq_getElem h, List.getD_eq_getElem?_getD, List.getElem?_eq_getElem h]
  rfl

theorem same_all {l m : List Sp} {φ ψ : Int → Int} (h : Alike l m φ ψ) (hc : checkF l = 0) (hc' : checkF m = 0) : decide (((deepF l).2.length = (deepF m).2.length ∧ firstF l = firstF m) ∧ trotF l = trotF m) = true := by
  rw [trot_eq _ (checkF_zero hc').2, trot_eq _ (checkF_zero hc).2]
  exact decide_eq_true ⟨⟨alike_depth h (good_of hc) (good_of hc'), alike_first h⟩, alike_trot h⟩

theorem ok9 : p9.OK Try.prog := p9.ok C9 (fun _ => cx3 (PC.OK.ci ok29) (PC.OK.ci ok33) (PC.OK.ci ok19)) (fn := Try.f9) rfl (by decide +kernel) rfl fun (x : List (Int × Int)) hx => by
  have hx : ∀ q ∈ x, U16 q := hx
  refine (g9_eq x).mpr ?_
  simp only [pp1, eq_self, and_true, true_and, and_self, Int.toNat_natCast, List.drop_zero]
  refine ⟨⟨hx, by omega, by omega⟩, ⟨0, by omega, rfl, rfl⟩, ?_⟩
  have hc := madeF_check x 1000 (by omega) (by omega)
  have hl := madeF_length x 1000
  have hok := madeF_ok x 1000 (by omega) (by omega)
  generalize madeF x 1000 = l at *
  refine fun k hk => ⟨fun h1 => ?_, fun h1 => ?_⟩
  · have hk' : k < l.length := by omega
    have hs := take_map_succ mir (0, 0) l k hk'
    have := hok _ (getD_in (d := (0, 0)) hk')
    have h2 : ((l.take k).map mir).length ≤ 40 := by simp; omega
    refine ⟨by omega, fits_i64 (by omega) (by omega), by omega, fits_i64 (by omega) (by omega), small_of (by omega), fits_nat (by omega), k + 1, by omega, by omega, ?_, by omega⟩
    rw [hs]; rfl
  · have e : l.take k = l := List.take_of_length_le (by omega)
    rw [e]
    have hc' : checkF (l.map mir) = 0 := checkF_ok (by simp; omega) fun s hs => by
      obtain ⟨t, ht, rfl⟩ := List.mem_map.1 hs
      have := hok t ht
      unfold mir
      simp only
      omega
    have := same_all (alike_mir l) hc hc'
    exact ⟨⟨hc, hc'⟩, fun h => h, fun h => by rw [this] at h; cases h⟩

theorem ok10 : p10.OK Try.prog := p10.ok C10 (fun _ => cx3 (PC.OK.ci ok29) (PC.OK.ci ok33) (PC.OK.ci ok19)) (fn := Try.f10) rfl (by decide +kernel) rfl fun (p : List (Int × Int) × Int) hp => by
  obtain ⟨x, m⟩ := p
  obtain ⟨hx, h0, h1⟩ : (∀ q ∈ x, U16 q) ∧ 0 ≤ m ∧ m ≤ 255 := hp
  refine (g10_eq x m).mpr ?_
  simp only [pp1, eq_self, and_true, true_and, and_self, Int.toNat_natCast, List.drop_zero]
  have hk1 : 1 ≤ m % 20 + 1 ∧ m % 20 + 1 ≤ 20 := by omega
  refine ⟨⟨hx, by omega, by omega⟩, fits_i64 (by omega) (by omega), by omega, fits_i64 (by omega) (by omega), ⟨0, by omega, rfl, rfl⟩, ?_⟩
  have hc := madeF_check x 50 (by omega) (by omega)
  have hl := madeF_length x 50
  have hok := madeF_ok x 50 (by omega) (by omega)
  generalize madeF x 50 = l at *
  generalize m % 20 + 1 = b at *
  have hb : ∀ t : Sp, t ∈ l → (0 ≤ t.1 * b ∧ t.1 * b < t.2 * b ∧ t.2 * b ≤ 1000) := fun t ht => by
    have := hok t ht
    have a1 : 0 ≤ t.1 * b := Int.mul_nonneg this.1 (by omega)
    have a2 : t.1 * b < t.2 * b := Int.mul_lt_mul_of_pos_right this.2.1 (by omega)
    have a3 : t.2 * b ≤ 50 * 20 := Int.mul_le_mul this.2.2 hk1.2 (by omega) (by omega)
    omega
  refine fun k hk => ⟨fun h1 => ?_, fun h1 => ?_⟩
  · have hk' : k < l.length := by omega
    have hs := take_map_succ (str b) (0, 0) l k hk'
    have := hb _ (getD_in (d := (0, 0)) hk')
    have h2 : ((l.take k).map (str b)).length ≤ 40 := by simp; omega
    refine ⟨by omega, fits_i64 (by omega) (by omega), by omega, fits_i64 (by omega) (by omega), small_of (by omega), fits_nat (by omega), k + 1, by omega, by omega, ?_, by omega⟩
    rw [hs]; rfl
  · have e : l.take k = l := List.take_of_length_le (by omega)
    rw [e]
    have hc' : checkF (l.map (str b)) = 0 := checkF_ok (by simp; omega) fun s hs => by
      obtain ⟨t, ht, rfl⟩ := List.mem_map.1 hs
      exact hb t ht
    have := same_all (alike_str l b (by omega)) hc hc'
    exact ⟨⟨hc, hc'⟩, fun h => h, fun h => by rw [this] at h; cases h⟩

theorem ok11 : p11.OK Try.prog := p11.ok C11 (fun _ => cx6 (PC.OK.ci ok29) (PC.OK.ci ok16) (PC.OK.ci ok17) (PC.OK.ci ok19) (PC.OK.ci ok34) (PC.OK.ci ok30)) (fn := Try.f11) rfl (by decide +kernel) rfl fun (x : List (Int × Int)) hx => by
  have hx : ∀ q ∈ x, U16 q := hx
  refine (g11_eq x).mpr ?_
  simp only [pp1, eq_self, and_true, true_and, and_self, Int.toNat_natCast, List.drop_zero]
  refine ⟨⟨hx, by omega, by omega⟩, ?_⟩
  have hc := madeF_check x 60 (by omega) (by omega)
  have hl := madeF_length x 60
  generalize madeF x 60 = l at *
  have hg := good_of hc
  have hd : (deepF l).2.length ≤ l.length := deepF_length l
  have hdp : depthP l = (((deepF l).2.length : Int), 0) := depthP_ok hc
  rw [hdp]
  by_cases hn : l = []
  · subst hn
    have h2 : deepestP [] = (0, [], 5) := by unfold deepestP; rw [if_pos hc]; rfl
    rw [h2]
    simp [deepF]
  · have hn' : ¬ (l.length : Int) = 0 := fun h => hn (List.eq_nil_of_length_eq_zero (by omega))
    have hda := deep_atF hg hn
    have h2 : deepestP l = ((deepF l).1, (deepF l).2, 0) := by unfold deepestP; rw [if_pos hc, if_neg (by omega)]
    have hr := atF_rising l (deepF l).1
    rw [← hda] at hr
    have hmem : ∀ k : Nat, k < (deepF l).2.length → ∃ j : Nat, (deepF l).2.getD k 0 = j ∧ j < l.length ∧ inS (l.getD j (0, 0)) (deepF l).1 = true := fun k hk => by
      have := getD_in (d := (0 : Int)) hk
      rw [hda] at this
      obtain ⟨j, e, q1, q2⟩ := atF_mem this
      exact ⟨j, by rw [hda]; exact e, q1, q2⟩
    rw [h2]
    simp only [hr, Bool.not_true, Bool.false_eq_true, false_imp_iff, not_true_eq_false, not_false_eq_true, true_imp_iff, true_and, hn']
    have hl2 : (deepF l).2.length ≤ 40 := by omega
    refine ⟨by omega, by omega, by omega, ⟨0, by omega, rfl⟩, fun i hi => ⟨fun h1 => ?_, fun h1 => h1⟩⟩
    obtain ⟨a, ea, ha, ia⟩ := hmem i (by omega)
    have ia' := inS_iff.1 ia
    simp only [ea, Int.toNat_natCast]
    refine ⟨by omega, by omega, fun h => by omega, fun _ => ⟨by omega, by omega, fun h => by omega, fun _ => ⟨⟨0, by omega, rfl⟩, fun k hk => ⟨fun h3 => ?_, fun h3 => ⟨fits_nat (by omega), i + 1, by omega, by omega, by omega⟩⟩⟩⟩⟩
    obtain ⟨b, eb, hb, ib⟩ := hmem k (by omega)
    have ib' := inS_iff.1 ib
    simp only [eb, Int.toNat_natCast]
    refine ⟨by omega, by omega, by omega, by omega, fun h => ?_, fun _ => ⟨fits_nat (by omega), k + 1, by omega, by omega, by omega⟩⟩
    rw [decide_eq_true (by omega)] at h
    cases h
end Go.SX.Sh
