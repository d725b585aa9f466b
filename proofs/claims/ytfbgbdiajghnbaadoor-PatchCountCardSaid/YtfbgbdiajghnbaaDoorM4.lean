/- Parts of the proof, one after the other: Pa13Q Pa14 PaR. -/
import Derived.Test.YtfbgbdiajghnbaaDoorM3
/- Chapter 06, part 13: contracts: the makers of inputs; PatchKonig, PatchEdges, PatchCount. -/
namespace Go.SX.Pa
open Go Go.Proofs

theorem graphTo_succ (x : List Ed) (k : Nat) (h : k < x.length) : graphTo x (k + 1) = graphTo x k ++ [((x.getD k (0, 0)).1 % 6, (x.getD k (0, 0)).2 % 6)] := by
  unfold graphTo; rw [take_snoc x (0, 0) k h, List.map_append]; rfl
theorem graphTo_length (x : List Ed) (k : Nat) : (graphTo x k).length ≤ k := by unfold graphTo; simp; omega
theorem graphX_ok {x : List Ed} (h : ∀ p ∈ x, Byte2 p) : (graphX x).length ≤ 12 ∧ ∀ e ∈ graphX x, (0 ≤ e.1 ∧ e.1 < 6) ∧ 0 ≤ e.2 ∧ e.2 < 6 := by
  refine ⟨graphTo_length x 12, fun e he => ?_⟩
  obtain ⟨p, hp, rfl⟩ := List.mem_map.1 he
  have := h p (List.mem_of_mem_take hp)
  unfold Byte2 at this
  simp only
  omega

theorem ok33 : p33.OK Tryd.prog := p33.ok C33 (fun _ => cx0) (fn := Tryd.f33) rfl (by decide +kernel) rfl fun (x : List Ed) hp => by
  refine (g33_eq x).mpr ?_
  have hp : x.length ≤ maxLen ∧ ∀ p ∈ x, Byte2 p := hp
  simp only [pp1, eq_self, and_true, true_and, and_self, Int.toNat_natCast]
  refine ⟨⟨0, by omega, rfl, rfl⟩, fun k hk => ⟨fun h1 => ⟨fun h2 => ?_, fun h2 => ?_⟩, fun h1 => ?_⟩⟩
  · have hk' : k < x.length := by omega
    have hb := hp.2 _ (getD_mem x (0, 0) hk')
    unfold Byte2 at hb
    have hl := graphTo_length x k
    refine ⟨by omega, fits_i64 (by omega) (by omega), by omega, by omega, fits_i64 (by omega) (by omega), by omega, ?_, fits_i64 (by omega) (by omega), k + 1, by omega, by omega, (graphTo_succ x k hk').symm, by omega⟩
    unfold Small; omega
  · rw [show k = 12 by omega]; rfl
  · unfold graphX graphTo
    rw [List.take_of_length_le (by omega), List.take_of_length_le (by omega)]

theorem ok36 : p36.OK Tryd.prog := p36.ok C36 (fun _ => cx1 (PC.OK.ci ok21)) (fn := Tryd.f36) rfl (by decide +kernel) rfl fun (p : List Int × Int × Int) hp => by
  obtain ⟨l, n, r⟩ := p
  refine (g36_eq l n r).mpr ?_
  have hp : l.length ≤ 1000 ∧ -1000 ≤ r ∧ r ≤ 1000 := hp
  simp only [pp1, eq_self, and_true, true_and, and_self, Int.toNat_natCast]
  refine ⟨⟨0, ⟨by omega, fun x hx => by simp at hx⟩, rfl⟩, fun k hk => ⟨fun h1 => ?_, fun h1 => ?_⟩⟩
  · have hk' : k < l.length := by omega
    refine ⟨by omega, fits_i64 (by omega) (by omega), fun h2 => ?_, fun h2 => ⟨fits_nat (by omega), k + 1, ⟨by omega, fun y hy => ?_⟩, by omega, by omega⟩⟩
    · symm
      rw [decide_eq_false_iff_not]
      rintro ⟨h3, _⟩
      have := h3 _ (getD_mem l 0 hk')
      rw [Bool.not_eq_true', decide_eq_false_iff_not] at h2
      omega
    · rw [Bool.not_eq_false', decide_eq_true_eq] at h2
      rcases (take_mem l 0 y k hk').1 hy with h3 | h3
      · exact hk.2 y h3
      · omega
  · have : k = l.length := by omega
    subst this
    rw [List.take_length] at hk
    apply decide_eq_decide.2
    exact ⟨fun h => ⟨hk.2, h⟩, fun h => h.2⟩
theorem ok37 : p37.OK Tryd.prog := p37.ok (fun _ => cx [] []) (fun _ => cx0) (fn := Tryd.f37) rfl (by decide +kernel) rfl fun (x : Int × Int × Int) hx => by
  obtain ⟨a, b, c⟩ := x
  have hx : Byte3 (a, b, c) := hx
  refine (g37_eq (a, b, c)).mpr ?_
  have hn := net_ok hx
  unfold Byte3 at hx
  unfold netF ClosP at hn
  simp only at hx hn ⊢
  have h3 : 1 ≤ 12 / (a % 12 + 1) := Int.le_ediv_of_mul_le (by omega) (by omega)
  have h4 : 12 / (a % 12 + 1) * (a % 12 + 1) ≤ 12 := Int.ediv_mul_le _ (by omega)
  have h5 : 12 / (a % 12 + 1) * 1 ≤ 12 / (a % 12 + 1) * (a % 12 + 1) := Int.mul_le_mul_of_nonneg_left (by omega) (by omega)
  refine ⟨fits_i64 (by omega) (by omega), by omega, fits_i64 (by omega) (by omega), fits_i64 (by omega) (by omega), by omega, fits_i64 (by omega) (by omega), by omega, fits_i64 (by omega) (by omega), fits_i64 (by omega) (by omega), by omega, fits_i64 (by omega) (by omega), rfl⟩

/-! ### PatchKonig -/
theorem colors_found {a : Int} {es : List Ed} (ha : 1 ≤ a) (ha6 : a ≤ 6) (hl : es.length ≤ 12) (hb : ∀ e ∈ es, (0 ≤ e.1 ∧ e.1 < a) ∧ 0 ≤ e.2 ∧ e.2 < a) : ∃ l, colorsF a a es = (l, 0) ∧ colF es (degF es) = some l ∧ GoodC es (degF es) l := by
  obtain ⟨l, h⟩ := colF_some (es := es) (Int.le_refl _)
  refine ⟨l, ?_, h, colF_good (degF_bound es).1 h⟩
  unfold colorsF
  rw [if_neg (by omega), if_neg, h]
  · rfl
  · rintro (h1 | h1 | h1)
    · omega
    · omega
    · obtain ⟨e, he, h2⟩ := List.any_eq_true.1 h1
      have := hb e he
      unfold badEd at h2
      rw [decide_eq_true_eq] at h2
      omega
theorem good_proper {es : List Ed} {m : Int} {l : List Int} (h : GoodC es m l) : properF es l = true := proper_good h.2.2

theorem ok6 : p6.OK Tryd.prog := p6.ok C6 (fun _ => cx_ok (cs := [p33.ci, p26.ci, p34.ci, p35.ci, p30.ci, p36.ci, p25.ci]) ⟨PC.OK.ci ok33, PC.OK.ci ok26, PC.OK.ci ok34, PC.OK.ci ok35, PC.OK.ci ok30, PC.OK.ci ok36, PC.OK.ci ok25, trivial⟩ _) (fn := Tryd.f6) rfl (by decide +kernel) rfl fun (x : List Ed) hp => by
  refine (g6_eq x).mpr ?_
  have hp : x.length ≤ maxLen ∧ ∀ p ∈ x, Byte2 p := hp
  obtain ⟨h1, h2⟩ := graphX_ok hp.2
  obtain ⟨l, h3, h4, h5⟩ := colors_found (a := 6) (by omega) (by omega) h1 h2
  have h6 := good_proper h5
  have h7 := seen_deg h4
  have h8 := degF_degR (graphX x) h2
  have h9 := degF_bound (graphX x)
  obtain ⟨g1, g2, g3⟩ := h5
  simp only [pp1, eq_self, and_true, true_and, and_self, Int.toNat_natCast, h3]
  rw [h8] at g2 h7 h9
  refine ⟨hp, by omega, ⟨0, by omega, rfl, rfl⟩, fun k hk => ⟨fun q1 => ?_, fun q1 => ?_⟩⟩
  · have hk' : k < l.length := by omega
    have hs := seenF_succ l k hk'
    have hsl := seenF_length (l.take k)
    have htl : (l.take k).length ≤ k := by simp; omega
    refine ⟨by omega, by omega, fun q2 => ⟨by omega, by unfold Small; omega, fits_nat (by omega), k + 1, by omega, by omega, ?_, by omega⟩, fun q2 => ⟨fits_nat (by omega), k + 1, by omega, by omega, ?_, by omega⟩⟩
    · rw [hs, if_neg (by simpa using q2)]
    · rw [hs, if_pos (by simpa using q2)]
  · have hk' : k = l.length := by omega
    subst hk'
    rw [List.take_length, h7]
    refine yes trivial (yes (by omega) ⟨by omega, yesB h6 ⟨by omega, yes rfl ⟨by omega, by omega, fun h => h, fun h => ?_⟩⟩⟩)
    rw [decide_eq_false_iff_not] at h
    exact absurd ⟨fun y hy => by have := g2 y hy; omega, by omega⟩ h

/-! ### PatchEdges -/
theorem badEd_no {a : Int} {es : List Ed} (h : ∀ e ∈ es, (0 ≤ e.1 ∧ e.1 < a) ∧ 0 ≤ e.2 ∧ e.2 < a) : es.any (badEd a a) = false := by
  rw [List.any_eq_false]
  intro e he h2
  have := h e he
  unfold badEd at h2
  rw [decide_eq_true_eq] at h2
  omega
theorem edgesF_in {n r : Int} {perm : List Int} (hn : 1 ≤ n) (hp : PermP perm (n * r)) : ∀ e ∈ edgesF n perm, (0 ≤ e.1 ∧ e.1 < r) ∧ 0 ≤ e.2 ∧ e.2 < r := by
  intro e he
  obtain ⟨hl, hb, _⟩ := hp
  unfold edgesF edgesTo at he
  obtain ⟨i, hi, rfl⟩ := List.mem_map.1 he
  have hi' := List.mem_range.1 hi
  have hx := hb _ (getD_mem perm 0 hi')
  have key : ∀ y : Int, 0 ≤ y → y < n * r → 0 ≤ y / n ∧ y / n < r := fun y h0 h1 => ⟨Int.ediv_nonneg h0 (by omega), Int.ediv_lt_of_lt_mul (by omega) (by rw [Int.mul_comm]; exact h1)⟩
  exact ⟨key _ (by omega) (by omega), key _ hx.1 hx.2⟩
theorem route_found {n r m : Int} {perm : List Int} (hc : ClosP n r m) (hp : PermP perm (n * r)) (hm : n ≤ m) : ∃ l, routeF n r m perm = (l, 0) ∧ colF (edgesF n perm) m = some l ∧ GoodC (edgesF n perm) m l := by
  have hc' := hc
  obtain ⟨c1, c2, c3, c4⟩ := hc'
  have hd := perm_deg c1.1 c2.1 hp
  obtain ⟨l, h⟩ := colF_some (es := edgesF n perm) (m := m) (by omega)
  refine ⟨l, ?_, h, colF_good (by omega) h⟩
  unfold routeF
  rw [if_pos hc, if_pos hp, h]
theorem edges_found {n r : Int} {perm : List Int} (hc : ClosP n r n) (h6 : r ≤ 6) (hp : PermP perm (n * r)) : ∃ l, routeF n r n perm = (l, 0) ∧ colorsF r r (edgesF n perm) = (l, 0) ∧ GoodC (edgesF n perm) n l := by
  obtain ⟨l, h1, h2, h3⟩ := route_found hc hp (Int.le_refl n)
  obtain ⟨c1, c2, c3, c4⟩ := hc
  have hd := perm_deg c1.1 c2.1 hp
  have hl := edgesF_length n perm
  have hpl := hp.1
  refine ⟨l, h1, ?_, h3⟩
  unfold colorsF
  rw [if_neg (by omega), if_neg, hd, h2]
  · rfl
  · rintro (q | q | q)
    · omega
    · omega
    · rw [badEd_no (edgesF_in c1.1 hp)] at q; cases q
theorem edgesTo_succ' (n : Int) (perm : List Int) (k : Nat) : edgesTo n perm (k + 1) = edgesTo n perm k ++ [((k : Int) / n, perm.getD k 0 / n)] := by
  unfold edgesTo; rw [List.range_succ, List.map_append]; rfl

theorem ok7 : p7.OK Tryd.prog := p7.ok C7 (fun _ => cx_ok (cs := [p37.ci, p25.ci, p31.ci, p38.ci, p26.ci, p28.ci, p35.ci]) ⟨PC.OK.ci ok37, PC.OK.ci ok25, PC.OK.ci ok31, PC.OK.ci ok38, PC.OK.ci ok26, PC.OK.ci ok28, PC.OK.ci ok35, trivial⟩ _) (fn := Tryd.f7) rfl (by decide +kernel) rfl fun (p : (Int × Int × Int) × List Int) hp => by
  obtain ⟨x, code⟩ := p
  refine (g7_eq x code).mpr ?_
  have hp : Byte3 x ∧ Bytes code := hp
  have hnet := net_ok hp.1
  simp only [pp1, eq_self, and_true, true_and, and_self, Int.toNat_natCast, List.drop_zero, peta]
  generalize netF x = N at hnet ⊢
  obtain ⟨n, r, m⟩ := N
  simp only at hnet ⊢
  obtain ⟨hc, hN1, hN2⟩ := hnet
  have hperm := nth_perm code (n * r).toNat
  rw [Int.toNat_of_nonneg (by omega)] at hperm
  generalize nthTo code (n * r).toNat = perm at hperm ⊢
  have hpl := hperm.1
  refine ⟨hp.1, fun h => h, fun h6 => ⟨fits_i64 (by omega) (by omega), ⟨by omega, hp.2⟩, ⟨0, by omega, rfl, rfl⟩, fun k hk => ⟨fits_i64 (by omega) (by omega), fun q1 => ?_, fun q1 => ?_⟩⟩⟩
  · have hk' : k < perm.length := by omega
    have hb := hperm.2.1 _ (getD_mem perm 0 hk')
    have c1 := hc.1
    have d1 : (k : Int) / n ≤ k := Int.ediv_le_self _ (by omega)
    have d2 : perm.getD k 0 / n ≤ perm.getD k 0 := Int.ediv_le_self _ (by omega)
    have d3 : 0 ≤ (k : Int) / n := Int.ediv_nonneg (by omega) (by omega)
    have d4 : 0 ≤ perm.getD k 0 / n := Int.ediv_nonneg (by omega) (by omega)
    refine ⟨by omega, fits_i64 (by omega) (by omega), by omega, by omega, fits_i64 (by omega) (by omega), ?_, fits_nat (by omega), k + 1, by omega, by omega, (edgesTo_succ' n perm k).symm, by omega⟩
    rw [edgesTo_length]; unfold Small; omega
  · have hk' : k = perm.length := by omega
    subst hk'
    obtain ⟨l, h1, h2, h3⟩ := edges_found (r := r) (perm := perm) (n := n) ⟨hc.1, hc.2.1, hc.2.2.1, hc.1⟩ (by omega) hperm
    have hl := edgesF_length n perm
    have he : edgesTo n perm perm.length = edgesF n perm := rfl
    rw [he, h1, h2]
    have hg := good_proper h3
    have hgl := h3.1
    refine ⟨by omega, by omega, yes rfl (yes rfl ⟨⟨by simp only; omega, by simp only; omega⟩, yesB (decide_eq_true rfl) ⟨⟨by omega, by simp only; omega⟩, fun h => h, fun h => ?_⟩⟩)⟩
    rw [show (l, (0 : Int)).1 = l from rfl, hg] at h
    cases h
end Go.SX.Pa

/- Chapter 06, part 14: PatchCount: its contract. -/
namespace Go.SX.Pa
open Go Go.Proofs

theorem count_one : (∀ p, p < 2 → 1 ≤ waysTo 1 (permAt 1 p) (2 ^ swN 1)) ∧ sumTo 1 2 = 2 ^ swN 1 := by decide +kernel
theorem count_two : (∀ p, p < 24 → 1 ≤ waysTo 2 (permAt 2 p) (2 ^ swN 2)) ∧ sumTo 2 24 = 2 ^ swN 2 := by decide +kernel
theorem kOf_cases {x : Int} (_h : 0 ≤ x ∧ x ≤ 255) : x % 2 + 1 = (kOf x : Nat) ∧ (kOf x = 1 ∨ kOf x = 2) := by
  have h1 : 0 ≤ x % 2 := Int.emod_nonneg _ (by omega)
  have h2 : x % 2 < 2 := Int.emod_lt_of_pos _ (by omega)
  unfold kOf
  omega
theorem codeTo_length (p : Nat) : (i : Nat) → (codeTo p i).1.length = i
  | 0 => rfl
  | i + 1 => by simp [codeTo, codeTo_length p i]
theorem codeTo_in (p : Nat) : (i : Nat) → i ≤ 255 → ∀ b ∈ (codeTo p i).1, 0 ≤ b ∧ b ≤ 255
  | 0, _, b, h => by simp [codeTo] at h
  | i + 1, hi, b, h => by
    simp only [codeTo, List.mem_append, List.mem_singleton] at h
    rcases h with h | h
    · exact codeTo_in p i (by omega) b h
    · have : (codeTo p i).2 % (i + 1) < i + 1 := Nat.mod_lt _ (by omega)
      omega
theorem codeTo_rest (p : Nat) : (i : Nat) → (codeTo p i).2 ≤ p
  | 0 => Nat.le_refl _
  | i + 1 => Nat.le_trans (Nat.div_le_self _ _) (codeTo_rest p i)
theorem sumTo_le (K : Nat) : (p : Nat) → sumTo K p ≤ p * 2 ^ swN K
  | 0 => Nat.zero_le _
  | p + 1 => by
    have h1 := sumTo_le K p
    have h2 := waysTo_le K (permAt K p) (2 ^ swN K)
    rw [Nat.add_mul, Nat.one_mul]
    show sumTo K p + _ ≤ _
    omega
theorem facN_le : ∀ i, i ≤ 5 → facN i ≤ 120 := by decide
theorem facN_step {i : Nat} (h : 1 ≤ i) : facN (i - 1) * i = facN (i + 1 - 1) := by
  obtain ⟨j, rfl⟩ : ∃ j, i = j + 1 := ⟨i - 1, by omega⟩
  show facN j * (j + 1) = (j + 1) * facN j
  exact Nat.mul_comm _ _
theorem ways_perm {K : Nat} (hK : K = 1 ∨ K = 2) (p : Nat) : waysF (K : Int) (permAt K p) = (((waysTo K (permAt K p) (2 ^ swN K) : Nat) : Int), 0) := by
  have hp : PermP (permAt K p) (2 ^ (K : Int).toNat) := by
    have := nth_perm (codeTo p (2 ^ K)).1 (2 ^ K)
    rw [Int.toNat_natCast]
    simpa [permAt] using this
  unfold waysF
  rw [if_pos (by omega), if_pos hp, Int.toNat_natCast]

theorem ok5 : p5.OK Tryd.prog := p5.ok C5 (fun _ => cx_ok (cs := [p31.ci, p18.ci, p19.ci, p32.ci, p25.ci]) ⟨PC.OK.ci ok31, PC.OK.ci ok18, PC.OK.ci ok19, PC.OK.ci ok32, PC.OK.ci ok25, trivial⟩ _) (fn := Tryd.f5) rfl (by decide +kernel) rfl fun (x : Int) hx => by
  refine (g5_eq x).mpr ?_
  have hx : 0 ≤ x ∧ x ≤ 255 := hx
  obtain ⟨e1, hK⟩ := kOf_cases hx
  simp only [pp1, eq_self, and_true, true_and, and_self, Int.toNat_natCast, List.drop_zero, peta, Int.one_mul]
  generalize kOf x = K at e1 hK ⊢
  have hN : 2 ^ K = 2 ∨ 2 ^ K = 4 := by rcases hK with rfl | rfl <;> simp
  have hNi : (2 : Int) ^ K = ((2 ^ K : Nat) : Int) := by simp
  have hF : facN (2 ^ K) ≤ 24 := by rcases hK with rfl | rfl <;> decide
  have hS : 2 ^ swN K ≤ 64 := by rcases hK with rfl | rfl <;> decide
  have hW : (∀ p, p < facN (2 ^ K) → 1 ≤ waysTo K (permAt K p) (2 ^ swN K)) ∧ sumTo K (facN (2 ^ K)) = 2 ^ swN K := by
    rcases hK with rfl | rfl
    · exact count_one
    · exact count_two
  have hsw : switchesF (K : Int) = (swN K : Nat) := by rcases hK with rfl | rfl <;> decide
  have hwk : waksF (K : Int) = (if K = 1 then 1 else 5, 0) := by rcases hK with rfl | rfl <;> decide
  rw [hNi]
  have hFN : (facN (2 ^ K) : Int) ≤ 2 ^ (if K = 1 then 1 else 5 : Nat) := by rcases hK with rfl | rfl <;> decide
  refine ⟨fits_i64 (by omega) (by omega), by omega, fits_i64 (by omega) (by omega), ⟨2, by omega, e1, rfl, by decide⟩, fun i hi => ⟨by omega, fits_i64 (by omega) (by omega), fun q1 => ?_, fun q1 => ?_⟩⟩
  · have hf := facN_le (i - 1) (by omega)
    have hst := facN_step (i := i) (by omega)
    have hf2 := facN_le (i + 1 - 1) (by omega)
    have hst' : (facN (i - 1) : Int) * (i : Int) = (facN (i + 1 - 1) : Nat) := by rw [← hst]; simp
    refine ⟨by rw [hst']; exact fits_i64 (by omega) (by omega), fits_nat (by omega), i + 1, by omega, by omega, by omega, hst'⟩
  · have hi' : i - 1 = 2 ^ K := by omega
    rw [hi']
    refine ⟨⟨0, by omega, rfl, rfl, rfl⟩, fun p hp => ⟨fun q2 => ⟨⟨0, by omega, rfl, rfl, rfl⟩, fun j hj => ⟨by omega, fits_i64 (by omega) (by omega), fun q3 => ?_, fun q3 => ?_⟩⟩, fun q2 => ?_⟩⟩
    · have hr := codeTo_rest p j
      have hl := codeTo_length p j
      have hm : (codeTo p j).2 % (j + 1) < j + 1 := Nat.mod_lt _ (by omega)
      have em : ((codeTo p j).2 : Int) % ((j : Int) + 1) = ((codeTo p j).2 % (j + 1) : Nat) := by simp
      have ed : ((codeTo p j).2 : Int) / ((j : Int) + 1) = ((codeTo p j).2 / (j + 1) : Nat) := by simp
      have hd : (codeTo p j).2 / (j + 1) ≤ (codeTo p j).2 := Nat.div_le_self _ _
      have hfd : Fits .i64 (((codeTo p j).2 / (j + 1) : Nat) : Int) := by
        generalize (codeTo p j).2 / (j + 1) = q at hd
        exact fits_i64 (by omega) (by omega)
      rw [em, ed, wrap_small (by omega)]
      refine ⟨fits_nat (by omega), by omega, by unfold Small; omega, fits_nat (by omega), by omega, hfd, fits_nat (by omega), j + 1, by omega, by omega, rfl, by omega, rfl⟩
    · have hj' : j = 2 ^ K := by omega
      subst hj'
      rw [show nthTo (codeTo p (2 ^ K)).1 (((2 ^ K : Nat) : Int)).toNat = permAt K p by rw [Int.toNat_natCast]; rfl, ways_perm hK p]
      have hl := codeTo_length p (2 ^ K)
      have hpl : (permAt K p).length = 2 ^ K := nthTo_length _ _
      have h1 := hW.1 p (by omega)
      have h2 := waysTo_le K (permAt K p) (2 ^ swN K)
      have h3 := sumTo_le K p
      have h4 : p * 2 ^ swN K ≤ 24 * 64 := Nat.mul_le_mul (by omega) hS
      refine ⟨by omega, fits_i64 (by omega) (by omega), ⟨by omega, by rw [hl]; exact Nat.le_trans (show 2 ^ K ≤ 4 by omega) (by decide), codeTo_in p _ (by omega)⟩, by omega, no (fun h => h rfl) (no (by simp only; omega) ⟨fits_i64 (by simp only; omega) (by simp only; omega), fits_nat (by omega), p + 1, by omega, by omega, by omega, ?_⟩)⟩
      show _ = ((sumTo K p + waysTo K (permAt K p) (2 ^ swN K) : Nat) : Int)
      simp
    · have hp' : p = facN (2 ^ K) := by omega
      rw [hp', hW.2, hsw, hwk, Int.toNat_natCast]
      have hs6 : swN K ≤ 6 := by rcases hK with rfl | rfl <;> decide
      have e2 : (2 : Int) ^ swN K = ((2 ^ swN K : Nat) : Int) := by simp
      rw [e2]
      refine ⟨by omega, by omega, fits_i64 (by omega) (by omega), yes rfl (yes rfl ⟨?_, ?_, yes ?_ ?_⟩)⟩
      · simp only; split <;> omega
      · simp only; split <;> exact fits_i64 (by decide) (by decide)
      · have e3 : (if K = 1 then (1 : Int) else 5).toNat = if K = 1 then 1 else 5 := by split <;> rfl
        simp only
        rw [e3]; exact hFN
      · have e3 : (if K = 1 then (1 : Int) else 5).toNat = if K = 1 then 1 else 5 := by split <;> rfl
        simp only
        rw [e3]; exact hFN
end Go.SX.Pa

/- Chapter 06: the rows' common ground: the arguments' types. -/
namespace Go.SX.Pa
open Go Go.Proofs
theorem tyI : TyM Tryd.prog 3 (.int .i64) := .int Tryd.underlying3
theorem tyIs : TyM Tryd.prog 22 (.slice (.int .i64)) := .slice Tryd.underlying22 (by kernel_rfl) tyI
theorem tyC : TyM Tryd.prog 23 tCl := .three Tryd.underlying23 (by kernel_rfl) tyI (by kernel_rfl)
theorem tyEd : TyM Tryd.prog 58 tEd := .pair Tryd.underlying58 rfl rfl (by kernel_rfl) (by kernel_rfl) tyI tyI (by kernel_rfl)
theorem tyEds : TyM Tryd.prog 36 (.slice tEd) := .slice Tryd.underlying36 (by kernel_rfl) tyEd
theorem tyU : TyM Tryd.prog 5 (.int .u8) := .int Tryd.underlying5
theorem tyS : TyM Tryd.prog 9 .str := .str Tryd.underlying9
theorem tyBs : TyM Tryd.prog 44 (.slice (.int .u8)) := .slice Tryd.underlying44 (by kernel_rfl) tyU
theorem tyB2 : TyM Tryd.prog 77 (.pair (.int .u8) (.int .u8)) := .two Tryd.underlying77 (by kernel_rfl) tyU (by kernel_rfl)
theorem tyB2s : TyM Tryd.prog 48 (.slice (.pair (.int .u8) (.int .u8))) := .slice Tryd.underlying48 (by kernel_rfl) tyB2
theorem tyB3 : TyM Tryd.prog 54 (.pair (.int .u8) (.pair (.int .u8) (.int .u8))) := .three Tryd.underlying54 (by kernel_rfl) tyU (by kernel_rfl)
set_option maxRecDepth 100000 in
theorem slice_rep {W : World} {ok : Nat → Prop} {T : Ty} {y : (Ty.slice T).den} {t e : TypeId} {v : Value} {base : Nat} (ht : Tryd.prog.underlying t = some (.slice e)) (hv : Value.okWide Tryd.prog W .any base t v)
    (h : (Ty.slice T).Rep W ok y v.cells.toList) : (Ty.slice T).Rep W ok y [v] := by
  obtain ⟨a, len, cap, rfl⟩ := WideShapes.okWide_slice ht hv
  exact h
set_option maxRecDepth 100000 in
theorem int_rep {W : World} {ok : Nat → Prop} {k k' : IntKind} {y : Int} {t : TypeId} {v : Value} {base : Nat} (ht : Tryd.prog.underlying t = some (.int k')) (hv : Value.okWide Tryd.prog W .any base t v)
    (h : (Ty.int k).Rep W ok y v.cells.toList) : (Ty.int k).Rep W ok y [v] := by
  obtain ⟨n, rfl⟩ := WideShapes.okWide_int ht hv
  exact h
set_option maxRecDepth 100000 in
theorem arr_rep {W : World} {ok : Nat → Prop} {T : Ty} {y : T.den} {t e : TypeId} {n : Nat} {v : Value} {base : Nat} (ht : Tryd.prog.underlying t = some (.array n e)) (hv : Value.okWide Tryd.prog W .any base t v)
    (h : T.Rep W ok y v.cells.toList) : ∃ cs : List Value, v = .agg cs.toArray ∧ T.Rep W ok y cs := by
  obtain ⟨cs, rfl⟩ : ∃ cs, v = .agg cs := by
    unfold Value.okWide at hv
    simp only [ht] at hv
    obtain ⟨cs, e, _⟩ := hv
    exact ⟨cs, e⟩
  exact ⟨cs.toList, by simp, h⟩
set_option maxRecDepth 100000 in
theorem str_rep {W : World} {ok : Nat → Prop} {y : ByteArray} {t : TypeId} {v : Value} {base : Nat} (ht : Tryd.prog.underlying t = some .string) (hv : Value.okWide Tryd.prog W .any base t v)
    (h : Ty.str.Rep W ok y v.cells.toList) : Ty.str.Rep W ok y [v] := by
  obtain ⟨n, rfl⟩ := WideShapes.okWide_string ht hv
  exact h
theorem wfU {n : Int} (h : (Ty.int .u8).Wf n) : 0 ≤ n ∧ n ≤ 255 := h
theorem wfBs {l : List Int} (h : (Ty.slice (.int .u8)).Wf l) : Bytes l := h
theorem wfB2 {p : Int × Int} (h : (Ty.pair (.int .u8) (.int .u8)).Wf p) : Byte2 p := h
theorem wfB2s {l : List (Int × Int)} (h : (Ty.slice (.pair (.int .u8) (.int .u8))).Wf l) : l.length ≤ maxLen ∧ ∀ p ∈ l, Byte2 p := h
theorem wfB3 {p : Int × Int × Int} (h : (Ty.pair (.int .u8) (.pair (.int .u8) (.int .u8))).Wf p) : Byte3 p := h
theorem own : ownKnob Tryd.prog.godebug = none := by kernel_rfl
theorem laidOut : laidOutB Tryd.prog = true := by kernel_rfl
end Go.SX.Pa
