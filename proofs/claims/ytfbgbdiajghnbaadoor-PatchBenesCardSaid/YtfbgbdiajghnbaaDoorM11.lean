/- Parts of the proof, one after the other: PaF Pa18Q Pa19 Pa19E Pa19Q. -/
import Derived.Test.YtfbgbdiajghnbaaDoorM5
import Derived.Test.YtfbgbdiajghnbaaDoorM9
import Derived.Test.YtfbgbdiajghnbaaDoorM10
/- Chapter 06, part 18: settings: what the loops of the program hold. -/
namespace Go.SX.Pa
theorem xor_sg : ∀ a : Fin 8, bitsF .xor .i64 (a.val : Int) 1 = (sgN a.val : Nat) := by decide +kernel
theorem xor_sgN {a : Nat} (h : a < 8) : bitsF .xor .i64 (a : Int) 1 = (sgN a : Nat) := xor_sg ⟨a, h⟩
theorem let01 {b : Int} (h : b = 0 ∨ b = 1) : IntKind.u8.wrap (48 + IntKind.u8.wrap b) = 48 + b := by rcases h with rfl | rfl <;> decide
theorem fr_succ (k : Int) (p : List Int) (i : Nat) : frK k p (i + 1) = (frK k p i).set (p.getD i 0).toNat (i : Int) := rfl
theorem pt_succ (k : Int) (p : List Int) (x : Nat) : dnK k p (x + 1) = (runW (fromF (nK k) p) p (nK k) (dnK k p x, ptK k p x, x)).1 ∧ ptK k p (x + 1) = (runW (fromF (nK k) p) p (nK k) (dnK k p x, ptK k p x, x)).2.1 := ⟨rfl, rfl⟩
theorem wk_succ (k : Int) (p : List Int) (x : Int) (j : Nat) : wkK k p x (j + 1) = stepW (fromF (nK k) p) p (wkK k p x j) := rfl
theorem wk_zero (k : Int) (p : List Int) (x : Nat) : wkK k p (x : Int) 0 = (dnK k p x, ptK k p x, x) := by unfold wkK; rw [Int.toNat_natCast]; rfl
theorem fs_succ (k : Int) (p : List Int) (x : Nat) : fsK k p (x + 1) = if x % 2 = 0 then (fsK k p x).set (x / 2) (48 + (ptK k p (nK k)).getD x 0) else fsK k p x := rfl
theorem ls_succ (k : Int) (p : List Int) (x : Nat) : lsK k p (x + 1) = if p.getD x 0 % 2 = 0 then (lsK k p x).set (p.getD x 0 / 2).toNat (48 + (ptK k p (nK k)).getD x 0) else lsK k p x := rfl
theorem ia_succ (k : Int) (p : List Int) (x : Nat) : iaK k p (x + 1) = if (ptK k p (nK k)).getD x 0 = 0 then (iaK k p x).set (x / 2) (p.getD x 0 / 2) else iaK k p x := rfl
theorem ib_succ (k : Int) (p : List Int) (x : Nat) : ibK k p (x + 1) = if (ptK k p (nK k)).getD x 0 = 1 then (ibK k p x).set (x / 2) (p.getD x 0 / 2) else ibK k p x := rfl

section
variable {k : Int} {p : List Int} (hk : 2 ≤ k ∧ k ≤ 3) (hp : PermP p (2 ^ k.toNat : Nat))
include hk
theorem nk_eq : nK k = 2 * hK k ∧ hK k = 2 ^ (k.toNat - 1) ∧ 2 ≤ hK k ∧ hK k ≤ 4 ∧ swN k.toNat = 2 * hK k + 2 * swN (k.toNat - 1) ∧ switchesF k = (swN k.toNat : Nat) ∧ swN k.toNat ≤ 20 ∧ swN (k.toNat - 1) ≤ 6 := by
  have : k = 2 ∨ k = 3 := by omega
  rcases this with rfl | rfl <;> decide
theorem nk_int : (1 : Int) * 2 ^ k.toNat = (nK k : Nat) ∧ (1 : Int) * 2 ^ k.toNat / 2 = (hK k : Nat) := by
  have : k = 2 ∨ k = 3 := by omega
  rcases this with rfl | rfl <;> decide
include hp
theorem hp_nk : PermP p (2 * hK k : Nat) := by
  have h := hp
  rw [show 2 ^ k.toNat = 2 * hK k from (nk_eq hk).1] at h
  exact h
omit hp in
theorem pt_part : ptK k p (nK k) = partF (2 * hK k) p := by
  unfold ptK partF; rw [(nk_eq hk).1]
theorem pt01 {x : Nat} (hx : x < nK k) : (ptK k p (nK k)).getD x 0 = 0 ∨ (ptK k p (nK k)).getD x 0 = 1 := by
  rw [pt_part hk]
  exact (part_ok (hp_nk hk hp) (by rw [← (nk_eq hk).1]; exact hx)).1
theorem pt_len {x : Nat} (hx : x ≤ nK k) : (ptK k p x).length = nK k ∧ (dnK k p x).length = nK k := by
  have := partsTo_ok (tau_invo (hp_nk hk hp)) x (by rw [← (nk_eq hk).1]; exact hx)
  unfold ptK dnK
  rw [(nk_eq hk).1]
  exact ⟨this.2.2.2, this.2.2.1⟩
omit hp in
theorem fs_len {x : Nat} (hx : x ≤ nK k) : (fsK k p x).length = hK k := (fstTo_get (partF (nK k) p) x (by rw [← (nk_eq hk).1]; exact hx)).1
theorem ls_len {x : Nat} (hx : x ≤ nK k) : (lsK k p x).length = hK k := by
  have := (lstTo_get (hp_nk hk hp) x (by rw [← (nk_eq hk).1]; exact hx)).1
  unfold lsK; rw [(nk_eq hk).1]; exact this
theorem ia_len {x : Nat} (hx : x ≤ nK k) : (iaK k p x).length = hK k := by
  have := (innTo_get (hp_nk hk hp) 0 x (by rw [← (nk_eq hk).1]; exact hx)).1
  unfold iaK; rw [(nk_eq hk).1]; exact this
theorem ib_len {x : Nat} (hx : x ≤ nK k) : (ibK k p x).length = hK k := by
  have := (innTo_get (hp_nk hk hp) 1 x (by rw [← (nk_eq hk).1]; exact hx)).1
  unfold ibK; rw [(nk_eq hk).1]; exact this
theorem fr_len {i : Nat} (hi : i ≤ nK k) : (frK k p i).length = nK k := by
  have h2 := hp_nk hk hp
  rw [← (nk_eq hk).1] at h2
  exact (fromTo_get h2 i hi).1
theorem ia_perm : PermP (iaK k p (nK k)) (2 ^ (k - 1).toNat : Nat) := by
  have := inn_perm (hp_nk hk hp) (p := 0) (.inl rfl)
  unfold iaK
  rw [(nk_eq hk).1, show (k - 1).toNat = k.toNat - 1 by omega, ← (nk_eq hk).2.1]
  exact this
theorem ib_perm : PermP (ibK k p (nK k)) (2 ^ (k - 1).toNat : Nat) := by
  have := inn_perm (hp_nk hk hp) (p := 1) (.inr rfl)
  unfold ibK
  rw [(nk_eq hk).1, show (k - 1).toNat = k.toNat - 1 by omega, ← (nk_eq hk).2.1]
  exact this
omit hp in
theorem s_len {l : List Int} (hl : PermP l (2 ^ (k - 1).toNat : Nat)) : (setF (k - 1).toNat l).length = swN (k.toNat - 1) := by
  have := (set_ok (k - 1).toNat (by omega) (by omega) l hl).1
  rwa [show (k - 1).toNat = k.toNat - 1 by omega] at this ⊢
/-- The walk from x: lengths, places. -/
theorem wk_inv {x : Nat} (hx : x < nK k) {j : Nat} (hj : ∀ i, i < j → (wkK k p (x : Int) i).1.getD (wkK k p (x : Int) i).2.2 false = false) :
    (wkK k p (x : Int) j).1.length = nK k ∧ (wkK k p (x : Int) j).2.1.length = nK k ∧ (wkK k p (x : Int) j).2.2 < nK k ∧ undone (wkK k p (x : Int) j).1 + j ≤ nK k := by
  have e := (nk_eq hk).1
  have h2 := hp_nk hk hp
  obtain ⟨q1, q2, q3, q4⟩ := partsTo_ok (tau_invo h2) x (by omega)
  have hw : ∀ j, wkK k p (x : Int) j = iterW (fromF (2 * hK k) p) p ((partsTo (2 * hK k) p x).1, (partsTo (2 * hK k) p x).2, x) j := fun j => by unfold wkK dnK ptK; rw [Int.toNat_natCast, e]
  simp only [hw] at hj ⊢
  obtain ⟨r1, r2, r3, r4, _⟩ := iter_inv (tau_invo h2) ((partsTo (2 * hK k) p x).1, (partsTo (2 * hK k) p x).2, x) q3 q4 (show x < 2 * hK k by omega) q1 rfl j hj
  have hu : undone (partsTo (2 * hK k) p x).1 ≤ 2 * hK k := by
    have h9 : undone (partsTo (2 * hK k) p x).1 ≤ (partsTo (2 * hK k) p x).1.length := List.count_le_length
    rwa [q3] at h9
  exact ⟨by omega, by omega, by omega, by simp only at r4; omega⟩
theorem wk_end {x : Nat} (hx : x < nK k) {j : Nat} (hj : ∀ i, i < j → (wkK k p (x : Int) i).1.getD (wkK k p (x : Int) i).2.2 false = false) (hd : (wkK k p (x : Int) j).1.getD (wkK k p (x : Int) j).2.2 false = true) :
    dnK k p (x + 1) = (wkK k p (x : Int) j).1 ∧ ptK k p (x + 1) = (wkK k p (x : Int) j).2.1 := by
  obtain ⟨_, _, _, h4⟩ := wk_inv hk hp hx hj
  obtain ⟨e1, e2⟩ := pt_succ k p x
  have hw : ∀ j, wkK k p (x : Int) j = iterW (fromF (nK k) p) p (dnK k p x, ptK k p x, x) j := fun j => by unfold wkK; rw [Int.toNat_natCast]
  have := runW_iter (fromF (nK k) p) p j (nK k) (dnK k p x, ptK k p x, x) (by omega) (fun i hi => by rw [← hw]; exact hj i hi) (by rw [← hw]; exact hd)
  rw [e1, e2, this, hw]
  exact ⟨rfl, rfl⟩
omit hk hp in
theorem ot_zero : otK k p 0 = fsK k p (nK k) ++ List.replicate (2 * swN (k.toNat - 1) + hK k) 0 := by unfold otK; simp
omit hp in
theorem ot_one : otK k p 1 = fsK k p (nK k) ++ setF (k - 1).toNat (iaK k p (nK k)) ++ List.replicate (swN (k.toNat - 1) + hK k) 0 := by
  unfold otK; rw [show (k - 1).toNat = k.toNat - 1 by omega]; simp
omit hp in
theorem ot_two : otK k p 2 = fsK k p (nK k) ++ setF (k - 1).toNat (iaK k p (nK k)) ++ setF (k - 1).toNat (ibK k p (nK k)) ++ List.replicate (hK k) 0 := by
  unfold otK; rw [show (k - 1).toNat = k.toNat - 1 by omega]; simp
theorem ot_len {i : Nat} (hi : i ≤ 2) : (otK k p i).length = swN k.toNat := by
  have e := nk_eq hk
  have f := fs_len (p := p) hk (Nat.le_refl (nK k))
  have a := s_len hk (ia_perm hk hp)
  have b := s_len hk (ib_perm hk hp)
  have e0 : (k - 1).toNat = k.toNat - 1 := by omega
  rw [e0] at a b
  have : i = 0 ∨ i = 1 ∨ i = 2 := by omega
  rcases this with rfl | rfl | rfl
  · rw [ot_zero]; simp [f]; omega
  · rw [ot_one hk, e0]; simp [f, a]; omega
  · rw [ot_two hk, e0]; simp [f, a, b]; omega
omit hk hp in
theorem lay_mid {A Z ys : List Int} {m : Nat} (hA : A.length = m) (_hy : ys.length ≤ Z.length) : layF (A ++ Z) m (ys.take ((A ++ Z).length - m)) = A ++ ys ++ Z.drop ys.length := by
  unfold layF
  subst hA
  rw [List.take_of_length_le (l := ys) (by rw [List.length_append]; omega), List.take_left, List.drop_append, List.drop_of_length_le (by omega), List.nil_append, Nat.add_sub_cancel_left]
omit hp in
theorem lay_first {x : Nat} (hx : x = nK k) : layF (List.replicate (swN k.toNat) (0 : Int)) 0 ((fsK k p x).take ((List.replicate (swN k.toNat) (0 : Int)).length - 0)) = otK k p 0 := by
  subst hx
  have e := nk_eq hk
  have f := fs_len (p := p) hk (Nat.le_refl (nK k))
  have := lay_mid (A := []) (Z := List.replicate (swN k.toNat) (0 : Int)) (ys := fsK k p (nK k)) (m := 0) rfl (by simp; omega)
  rw [List.nil_append] at this
  rw [this, ot_zero, List.drop_replicate, f, List.nil_append]
  congr 2
  omega
theorem lay_ia : layF (otK k p 0) (plK k 0) ((setF (k - 1).toNat (iaK k p (nK k))).take ((otK k p 0).length - plK k 0)) = otK k p 1 := by
  have e := nk_eq hk
  have f := fs_len (p := p) hk (Nat.le_refl (nK k))
  have a := s_len hk (ia_perm hk hp)
  rw [ot_zero, lay_mid (m := plK k 0) (by rw [f]; unfold plK; omega) (by rw [List.length_replicate, a]; omega), ot_one hk, List.drop_replicate, a]
  congr 2
  omega
theorem lay_ib : layF (otK k p 1) (plK k 1) ((setF (k - 1).toNat (ibK k p (nK k))).take ((otK k p 1).length - plK k 1)) = otK k p 2 := by
  have e := nk_eq hk
  have f := fs_len (p := p) hk (Nat.le_refl (nK k))
  have a := s_len hk (ia_perm hk hp)
  have b := s_len hk (ib_perm hk hp)
  rw [ot_one hk, lay_mid (m := plK k 1) (by rw [List.length_append, f, a]; unfold plK; omega) (by rw [List.length_replicate, b]; omega), ot_two hk, List.drop_replicate, b]
  congr 2
  omega
theorem lay_last {x : Nat} (hx : x = nK k) : layF (otK k p 2) (plK k 2) ((lsK k p x).take ((otK k p 2).length - plK k 2)) = setF k.toNat p := by
  subst hx
  have e := nk_eq hk
  have f := fs_len (p := p) hk (Nat.le_refl (nK k))
  have a := s_len hk (ia_perm hk hp)
  have b := s_len hk (ib_perm hk hp)
  have l := ls_len hk hp (Nat.le_refl (nK k))
  rw [ot_two hk, lay_mid (m := plK k 2) (by rw [List.length_append, List.length_append, f, a, b]; unfold plK; omega) (by rw [List.length_replicate, l]; omega), List.drop_replicate, l, Nat.sub_self, List.replicate_zero, List.append_nil]
  obtain ⟨K, hK'⟩ : ∃ K, k.toNat = K + 2 := ⟨k.toNat - 2, by omega⟩
  have en : nK k = 2 * hN (K + 2) := by rw [e.1]; unfold hK; rw [hK']
  have eh : hK k = hN (K + 2) := by unfold hK; rw [hK']
  rw [hK', setF_next, show (k - 1).toNat = K + 1 by omega]
  unfold fsK iaK ibK lsK
  rw [en, eh]
/-! ### One round of the last but one loop -/
theorem F_even {x : Nat} (hx : x < nK k) (he : (x : Int) % 2 = 0) : (fsK k p x).set ((x : Int) / 2).toNat (IntKind.u8.wrap (48 + IntKind.u8.wrap ((ptK k p (nK k)).getD x 0))) = fsK k p (x + 1) := by
  rw [fs_succ, if_pos (by omega), let01 (pt01 hk hp hx), show ((x : Int) / 2).toNat = x / 2 by omega]
theorem L_even {x : Nat} (hx : x < nK k) (he : p.getD x 0 % 2 = 0) : (lsK k p x).set (p.getD x 0 / 2).toNat (IntKind.u8.wrap (48 + IntKind.u8.wrap ((ptK k p (nK k)).getD x 0))) = lsK k p (x + 1) := by
  rw [ls_succ, if_pos he, let01 (pt01 hk hp hx)]
omit hk hp in
theorem F_odd {x : Nat} (he : ¬ (x : Int) % 2 = 0) : fsK k p x = fsK k p (x + 1) := by rw [fs_succ, if_neg (by omega)]
omit hk hp in
theorem L_odd {x : Nat} (he : ¬ p.getD x 0 % 2 = 0) : lsK k p x = lsK k p (x + 1) := by rw [ls_succ, if_neg he]
omit hk hp in
theorem A_yes {x : Nat} (h : (ptK k p (nK k)).getD x 0 = 0) : (iaK k p x).set ((x : Int) / 2).toNat (p.getD x 0 / 2) = iaK k p (x + 1) := by
  rw [ia_succ, if_pos h, show ((x : Int) / 2).toNat = x / 2 by omega]
omit hk hp in
theorem A_no {x : Nat} (h : (ptK k p (nK k)).getD x 0 = 1) : iaK k p x = iaK k p (x + 1) := by rw [ia_succ, if_neg (by rw [h]; decide)]
omit hk hp in
theorem B_yes {x : Nat} (h : (ptK k p (nK k)).getD x 0 = 1) : (ibK k p x).set ((x : Int) / 2).toNat (p.getD x 0 / 2) = ibK k p (x + 1) := by
  rw [ib_succ, if_pos h, show ((x : Int) / 2).toNat = x / 2 by omega]
omit hk hp in
theorem B_no {x : Nat} (h : (ptK k p (nK k)).getD x 0 = 0) : ibK k p x = ibK k p (x + 1) := by rw [ib_succ, if_neg (by rw [h]; decide)]
/-- What a round of the last but one loop asks of its places. -/
theorem rnd18 {x : Nat} (hx : x < nK k) : ((0 ≤ (x : Int) ∧ (x : Int) < p.length) ∧ (0 ≤ (x : Int) ∧ (x : Int) < (ptK k p (nK k)).length) ∧ (0 ≤ (ptK k p (nK k)).getD x 0 ∧ (ptK k p (nK k)).getD x 0 < 2)) ∧
    ((0 ≤ (x : Int) ∧ (0 : Int) < 2) ∧ Fits .i64 ((x : Int) / 2) ∧ (0 ≤ p.getD x 0 ∧ (0 : Int) < 2) ∧ Fits .i64 (p.getD x 0 / 2)) ∧
    ((0 ≤ (x : Int) / 2 ∧ (x : Int) / 2 < (iaK k p x).length) ∧ (0 ≤ (x : Int) / 2 ∧ (x : Int) / 2 < (ibK k p x).length) ∧ (0 ≤ (x : Int) / 2 ∧ (x : Int) / 2 < (fsK k p x).length) ∧ (0 ≤ p.getD x 0 / 2 ∧ p.getD x 0 / 2 < (lsK k p x).length)) ∧
    Fits .i64 ((x : Int) + 1) ∧ x + 1 ≤ nK k ∧ nK k - (x + 1) < nK k - x ∧ (x : Int) + 1 = ((x + 1 : Nat) : Int) := by
  have e := nk_eq hk
  have h1 := perm_in hp (x := x) hx
  have hx1 : x ≤ nK k := by omega
  have hn : ((2 ^ k.toNat : Nat) : Int) = (nK k : Nat) := rfl
  rw [hn] at h1
  rw [perm_len hp, (pt_len hk hp (Nat.le_refl (nK k))).1, fs_len hk hx1, ls_len hk hp hx1, ia_len hk hp hx1, ib_len hk hp hx1, show 2 ^ k.toNat = nK k from rfl]
  have h2 := pt01 hk hp hx
  obtain ⟨e1, -, -, e4, -⟩ := e
  have a1 : 0 ≤ (x : Int) / 2 ∧ (x : Int) / 2 < (hK k : Nat) := by omega
  exact ⟨⟨by omega, by omega, by omega⟩, ⟨by omega, fits_i64 (by omega) (by omega), by omega, fits_i64 (by omega) (by omega)⟩, ⟨a1, a1, a1, by omega⟩, fits_i64 (by omega) (by omega), by omega, by omega, by omega⟩
/-- One of the two halves. -/
theorem half18 {i : Nat} {l : List Int} (hi : i < 2) (hl : PermP l (2 ^ (k - 1).toNat : Nat)) (hy : layF (otK k p i) (plK k i) ((setF (k - 1).toNat l).take ((otK k p i).length - plK k i)) = otK k p (i + 1)) :
    Fits .i64 (k - 1) ∧ (((1 ≤ k - 1 ∧ k - 1 ≤ 3) ∧ PermP l (2 ^ (k - 1).toNat : Nat)) ∧ m68 (k - 1, l) < m68 (k, p)) ∧
      (0 ≤ ((min ((otK k p i).length - plK k i) (setF (k - 1).toNat l).length : Nat) : Int) ∧ ((plK k i : Nat) : Int) + ((min ((otK k p i).length - plK k i) (setF (k - 1).toNat l).length : Nat) : Int) ≤ ((layF (otK k p i) (plK k i) ((setF (k - 1).toNat l).take ((otK k p i).length - plK k i))).length : Nat)) ∧
      Fits .i64 ((i : Int) + 1) ∧ ∃ x' : Nat, x' ≤ 2 ∧ 2 - x' < 2 - i ∧ layF (otK k p i) (plK k i) ((setF (k - 1).toNat l).take ((otK k p i).length - plK k i)) = otK k p x' ∧ (i : Int) + 1 = (x' : Int) ∧
        plK k i + min ((otK k p i).length - plK k i) (setF (k - 1).toNat l).length = plK k x' ∧ (layF (otK k p i) (plK k i) ((setF (k - 1).toNat l).take ((otK k p i).length - plK k i))).length = (otK k p x').length := by
  have e := nk_eq hk
  rw [hy, s_len hk hl, ot_len hk hp (show i ≤ 2 by omega), ot_len hk hp (show i + 1 ≤ 2 by omega)]
  have hs : plK k i + min (swN k.toNat - plK k i) (swN (k.toNat - 1)) = plK k (i + 1) ∧ plK k (i + 1) ≤ swN k.toNat := by
    have : i = 0 ∨ i = 1 := by omega
    unfold plK
    rcases this with rfl | rfl <;> omega
  have hm : m68 (k - 1, l) < m68 (k, p) := by show (k - 1).toNat < k.toNat; omega
  refine ⟨fits_i64 (by omega) (by omega), ⟨⟨by omega, hl⟩, hm⟩, ⟨by omega, by omega⟩, fits_i64 (by omega) (by omega), i + 1, by omega, by omega, rfl, by omega, hs.1, (ot_len hk hp (by omega)).symm⟩
theorem exit18 : (0 ≤ ((min ((List.replicate (swN k.toNat) (0 : Int)).length - 0) (fsK k p (nK k)).length : Nat) : Int) ∧ ((min ((List.replicate (swN k.toNat) (0 : Int)).length - 0) (fsK k p (nK k)).length : Nat) : Int) ≤ ((layF (List.replicate (swN k.toNat) (0 : Int)) 0 ((fsK k p (nK k)).take ((List.replicate (swN k.toNat) (0 : Int)).length - 0))).length : Nat)) ∧
    min ((List.replicate (swN k.toNat) (0 : Int)).length - 0) (fsK k p (nK k)).length = plK k 0 ∧ (layF (List.replicate (swN k.toNat) (0 : Int)) 0 ((fsK k p (nK k)).take ((List.replicate (swN k.toNat) (0 : Int)).length - 0))).length = (otK k p 0).length := by
  have e := nk_eq hk
  rw [lay_first (p := p) hk rfl, List.length_replicate, fs_len hk (Nat.le_refl _), ot_len hk hp (by omega)]
  unfold plK
  omega
end
end Go.SX.Pa

/- Chapter 06, part 18: set: its contract. -/
namespace Go.SX.Pa
open Go Go.Proofs

theorem ok68 : p68.OK Tryd.prog := p68.rec_ok (fn := Tryd.f68) m68 C68 (fun _ h => cx2 (PC.OK.ci ok52) (PC.OK.ci h)) rfl (by decide +kernel) rfl fun (q : Int × List Int) hq => by
  obtain ⟨k, p⟩ := q
  refine (g68_eq k p).mpr ?_
  have hq : (1 ≤ k ∧ k ≤ 3) ∧ PermP p (2 ^ k.toNat : Nat) := hq
  obtain ⟨hk0, hp⟩ := hq
  simp only [pp1, eq_self, and_true, true_and, and_self, Int.toNat_natCast]
  refine ⟨fun h => ?_, fun h => ?_⟩
  · subst h
    have hl := perm_len hp
    have b0 := perm_in hp (x := 0) (by decide)
    have e2 : ((2 ^ (1 : Int).toNat : Nat) : Int) = 2 := by decide
    rw [e2] at b0
    have hl2 : p.length = 2 := hl
    refine ⟨by omega, ?_⟩
    show [IntKind.u8.wrap (48 + IntKind.u8.wrap (p.getD 0 0))] = [48 + p.getD 0 0]
    rw [let01 (by omega)]
  have hk : 2 ≤ k ∧ k ≤ 3 := by omega
  obtain ⟨e1, e2, e3, e4, e5, e6, e7, e8⟩ := nk_eq hk
  have hpl : p.length = nK k := by rw [perm_len hp]; rfl
  have hdiv : (nK k : Int) / 2 = (hK k : Nat) := by omega
  simp only [(nk_int hk).1, hdiv, Int.toNat_natCast, e6]
  have hpin : ∀ x, x < nK k → 0 ≤ p.getD x 0 ∧ p.getD x 0 < nK k := fun x hx => perm_in hp hx
  have hSn : (0 ≤ (nK k : Int) ∧ (nK k : Int) ≤ (nK k : Int) ∧ Small (nK k)) = True := eq_true ⟨by omega, Int.le_refl _, by unfold Small; omega⟩
  have hSh : (0 ≤ (hK k : Int) ∧ (hK k : Int) ≤ (hK k : Int) ∧ Small (hK k)) = True := eq_true ⟨by omega, Int.le_refl _, by unfold Small; omega⟩
  have hFh : Fits .i64 (hK k : Int) = True := eq_true (fits_i64 (by omega) (by omega))
  have hPn : (0 ≤ (nK k : Int) ∧ (0 : Int) < 2) = True := eq_true (by omega)
  have hFs : Fits .i64 ((swN k.toNat : Nat) : Int) = True := eq_true (fits_i64 (by omega) (by omega))
  simp only [hSn, hSh, hFh, hPn, true_and]
  refine ⟨by omega, fits_i64 (by omega) (by omega), ⟨0, by omega, rfl, rfl⟩, fun i hi => ⟨fun h1 => ?_, fun h1 => ?_⟩⟩
  · have := hpin i (by omega)
    refine ⟨by omega, ⟨this.1, by rw [fr_len hk hp hi]; exact this.2⟩, fits_nat (by omega), i + 1, by omega, by omega, (fr_succ k p i).symm, by omega⟩
  have hi' : i = nK k := by omega
  subst hi'
  refine ⟨⟨0, by omega, ⟨rfl, rfl⟩, rfl⟩, fun x hx => ⟨fun h2 => ⟨⟨0, fun i hi => absurd hi (by omega), ?_, ?_⟩, fun j hj => ?_⟩, fun h2 => ?_⟩⟩
  · rw [wk_zero]; exact ⟨rfl, rfl⟩
  · rw [wk_zero]
  · have hx' : x < nK k := by omega
    obtain ⟨w1, w2, w3, w4⟩ := wk_inv hk hp hx' hj
    refine ⟨by omega, fun hd => ?_, fun hd => ?_⟩
    · have hd' : (wkK k p (x : Int) j).1.getD (wkK k p (x : Int) j).2.2 false = false := by simpa using hd
      have hsx := xor_sgN (a := (wkK k p (x : Int) j).2.2) (by omega)
      have hsl : sgN (wkK k p (x : Int) j).2.2 < nK k := by rw [e1]; exact sg_lt (by omega)
      have hpx := hpin _ hsl
      have hsx2 := xor_sgN (a := (p.getD (sgN (wkK k p (x : Int) j).2.2) 0).toNat) (by omega)
      have hso : sgN (p.getD (sgN (wkK k p (x : Int) j).2.2) 0).toNat < nK k := by rw [e1]; exact sg_lt (by omega)
      rw [Int.toNat_of_nonneg hpx.1] at hsx2
      rw [hsx, Int.toNat_natCast, hsx2, Int.toNat_natCast]
      have hfl := fr_len hk hp (Nat.le_refl (nK k))
      have hp2 := hp_nk hk hp
      rw [← e1] at hp2
      obtain ⟨y, hy, hyo⟩ := perm_sur hp2 hso
      have hfy := from_get hp2 hy
      rw [hyo, Int.toNat_natCast] at hfy
      refine ⟨by omega, by omega, ⟨by omega, by simp; omega⟩, ⟨by omega, by simp; omega⟩, by omega, by omega, j + 1, all_below hj hd', ?_, ⟨?_, ?_⟩, ?_⟩
      · rw [wk_succ]
        exact undone_step (by omega) hd'
      · rw [wk_succ]; rfl
      · rw [wk_succ]; rfl
      · rw [wk_succ]
        show (fromF (nK k) p).getD _ 0 = (((fromF (nK k) p).getD _ 0).toNat : Int)
        rw [hfy]; simp
    · have hd' : (wkK k p (x : Int) j).1.getD (wkK k p (x : Int) j).2.2 false = true := by simpa using hd
      obtain ⟨q1, q2⟩ := wk_end hk hp hx' hj hd'
      exact ⟨fits_nat (by omega), x + 1, by omega, by omega, ⟨q2.symm, q1.symm⟩, by omega⟩
  have hx' : x = nK k := by omega
  subst hx'
  clear hpin hSn hSh hFh hPn hFs hdiv
  obtain ⟨x1, x2, x3⟩ := exit18 hk hp
  have ha := half18 hk hp (i := 0) (by decide) (ia_perm hk hp) (lay_ia hk hp)
  have hb := half18 hk hp (i := 1) (by decide) (ib_perm hk hp) (lay_ib hk hp)
  have hl := lay_last hk hp rfl
  have hS : 0 ≤ ((swN k.toNat : Nat) : Int) ∧ ((swN k.toNat : Nat) : Int) ≤ ((swN k.toNat : Nat) : Int) ∧ Small (swN k.toNat) := ⟨by omega, by omega, by unfold Small; omega⟩
  refine ⟨⟨?_, ?_, ?_, ?_⟩, ?_, ?_, ?_, ?_⟩
  all_goals
    refine ⟨⟨0, Nat.zero_le _, ⟨rfl, rfl, rfl, rfl⟩, rfl⟩, fun x hx => ⟨fun h3 => ?_, fun h3 => ?_⟩⟩
    · have hx' : x < nK k := by omega
      obtain ⟨⟨c1, c2, c3⟩, ⟨z, fx2, zp, fp2⟩, ⟨ca, cb, cf, cl⟩, fx1, s1, s2, s3⟩ := rnd18 hk hp hx'
      refine ⟨c1, c2, c3, fun hP => ?_, fun hP => ?_⟩
      · have hA := A_yes (p := p) (k := k) hP
        have hB := B_no (p := p) (k := k) hP
        refine ⟨z, fx2, zp, fp2, ca, z, fun hE => ?_, fun hE => ?_⟩
        · have hF := F_even hk hp hx' hE
          refine ⟨z, fx2, c2, cf, zp, fun hQ => ?_, fun hQ => ?_⟩
          · have hL := L_even hk hp hx' hQ
            refine ⟨zp, fp2, c2, cl, fx1, x + 1, s1, s2, ?_, s3⟩
            and_intros <;> first | exact hF | exact hL | exact hA | exact hB
          · have hL := L_odd (k := k) hQ
            refine ⟨fx1, x + 1, s1, s2, ?_, s3⟩
            and_intros <;> first | exact hF | exact hL | exact hA | exact hB
        · have hF := F_odd (k := k) (p := p) hE
          refine ⟨zp, fun hQ => ?_, fun hQ => ?_⟩
          · have hL := L_even hk hp hx' hQ
            refine ⟨zp, fp2, c2, cl, fx1, x + 1, s1, s2, ?_, s3⟩
            and_intros <;> first | exact hF | exact hL | exact hA | exact hB
          · have hL := L_odd (k := k) hQ
            refine ⟨fx1, x + 1, s1, s2, ?_, s3⟩
            and_intros <;> first | exact hF | exact hL | exact hA | exact hB
      · have hP : (ptK k p (nK k)).getD x 0 = 1 := by omega
        have hA := A_no (p := p) (k := k) hP
        have hB := B_yes (p := p) (k := k) hP
        refine ⟨z, fx2, zp, fp2, cb, z, fun hE => ?_, fun hE => ?_⟩
        · have hF := F_even hk hp hx' hE
          refine ⟨z, fx2, c2, cf, zp, fun hQ => ?_, fun hQ => ?_⟩
          · have hL := L_even hk hp hx' hQ
            refine ⟨zp, fp2, c2, cl, fx1, x + 1, s1, s2, ?_, s3⟩
            and_intros <;> first | exact hF | exact hL | exact hA | exact hB
          · have hL := L_odd (k := k) hQ
            refine ⟨fx1, x + 1, s1, s2, ?_, s3⟩
            and_intros <;> first | exact hF | exact hL | exact hA | exact hB
        · have hF := F_odd (k := k) (p := p) hE
          refine ⟨zp, fun hQ => ?_, fun hQ => ?_⟩
          · have hL := L_even hk hp hx' hQ
            refine ⟨zp, fp2, c2, cl, fx1, x + 1, s1, s2, ?_, s3⟩
            and_intros <;> first | exact hF | exact hL | exact hA | exact hB
          · have hL := L_odd (k := k) hQ
            refine ⟨fx1, x + 1, s1, s2, ?_, s3⟩
            and_intros <;> first | exact hF | exact hL | exact hA | exact hB
    · have hx2 : x = nK k := by omega
      subst hx2
      refine ⟨hk0, hS, x1, ⟨0, Nat.zero_le _, lay_first hk rfl, rfl, ⟨x2, x3⟩, rfl, rfl⟩, fun i hi => ⟨fun hlt => ⟨by omega, fun h0 => ?_, fun h0 => ?_⟩, fun hge => ?_⟩⟩
      · have h1 : i = 0 := by omega
        subst h1
        exact ha
      · have h1 : i = 1 := by omega
        subst h1
        exact hb
      · have h1 : i = 2 := by omega
        subst h1
        exact hl
end Go.SX.Pa

/- Chapter 06, part 19: Set, and the laws PatchApplies and PatchBenes. -/
namespace Go.SX.Pa
open Go Go.Proofs
def setP (k : Int) (perm : List Int) : ByteArray × Int := if 1 ≤ k ∧ k ≤ 3 then (if PermP perm (2 ^ k.toNat) then (strOf (setF k.toNat perm), 0) else (⟨#[]⟩, 2)) else (⟨#[]⟩, 1)
def bitsB (s : ByteArray) : Bool := (List.range s.size).all fun i => decide (bt s i = 48 ∨ bt s i = 49)
noncomputable section
@[reducible] def p46 : PC := ⟨46, [aI, aIs], [aS, aI], fun p => p.2.length ≤ 1000, fun p => setP p.1 p.2⟩
def g46 (k : Int) (perm : List Int) : Prop := p46.VC (cx [p63.ci, p51.ci, p68.ci] []) Tryd.f46 (k, perm)
@[reducible] def p47 : PC := ⟨47, [aI, aS], [aB], fun p => (1 ≤ p.1 ∧ p.1 ≤ 3) ∧ p.2.size ≤ 1000, fun p => bitsB p.2 && decide (p.2.size = swN p.1.toNat)⟩
@[reducible] def C47 (p : Int × ByteArray) : Ctx := cx [p32.ci] [(0, fun _ => upTo p.2.size 5 [0, 1] fun k => ∀ a, a < k → bt p.2 a = 48 ∨ bt p.2 a = 49)]
def g47 (k : Int) (s : ByteArray) : Prop := p47.VC (C47 (k, s)) Tryd.f47 (k, s)
@[reducible] def p12 : PC := ⟨12, [aI, aS, aIs], [aB], fun _ => True, fun _ => true⟩
def g12 (k : Int) (s : ByteArray) (y : List Int) : Prop := p12.VC (cx [p17.ci, p45.ci, p46.ci, p21.ci, p25.ci, p47.ci, p28.ci, p48.ci, p22.ci] []) Tryd.f12 (k, s, y)
@[reducible] def p13 : PC := ⟨13, [aU, aBs], [aB], fun p => (0 ≤ p.1 ∧ p.1 ≤ 255) ∧ Bytes p.2, fun _ => true⟩
def g13 (x : Int) (code : List Int) : Prop := p13.VC (cx [p31.ci, p46.ci, p45.ci, p32.ci, p28.ci, p25.ci] []) Tryd.f13 (x, code)
end
end Go.SX.Pa

/- Printed by VC.lean: what the executor asks. -/
namespace Go.SX.Pa
open Go Go.Proofs
theorem g46_eq (k : Int) (perm : List Int) : g46 k perm = (
 True ∧
 ((!decide ((1 : Int) ≤ k ∧ k ≤ (3 : Int))) = true →
 (!decide ((1 : Int) ≤ k ∧ k ≤ (3 : Int))) = true ∧ (!decide ((1 : Int) ≤ k ∧ k ≤ (3 : Int))) = true ∧ (ByteArray.mk #[], (1 : Int)) = setP k perm) ∧
 ((!decide ((1 : Int) ≤ k ∧ k ≤ (3 : Int))) = false →
 (!decide ((1 : Int) ≤ k ∧ k ≤ (3 : Int))) = false ∧
 (!decide ((1 : Int) ≤ k ∧ k ≤ (3 : Int))) = false ∧
 ((0 : Int) ≤ k ∧ k < (64 : Int)) ∧
 Fits IntKind.i64 ((1 : Int) * (2 : Int) ^ k.toNat) ∧
 perm.length ≤ (1000 : Nat) ∧
 ((!decide (PermP perm ((1 : Int) * (2 : Int) ^ k.toNat))) = true →
 (!decide (PermP perm ((1 : Int) * (2 : Int) ^ k.toNat))) = true ∧
 (!decide (PermP perm ((1 : Int) * (2 : Int) ^ k.toNat))) = true ∧ (ByteArray.mk #[], (2 : Int)) = setP k perm) ∧
 ((!decide (PermP perm ((1 : Int) * (2 : Int) ^ k.toNat))) = false →
 (!decide (PermP perm ((1 : Int) * (2 : Int) ^ k.toNat))) = false ∧
 (!decide (PermP perm ((1 : Int) * (2 : Int) ^ k.toNat))) = false ∧
 (((1 : Int) ≤ k ∧ k ≤ (3 : Int)) ∧
 (↑perm.length : Int) = (↑((2 : Nat) ^ k.toNat) : Int) ∧ (∀ (x : Int), x ∈ perm → (0 : Int) ≤ x ∧ x < (↑((2 : Nat) ^ k.toNat) : Int)) ∧ perm.Nodup) ∧
 (strOf (setF k.toNat perm), (0 : Int)) = setP k perm))) := by
 kernel_rfl

theorem g47_eq (k : Int) (s : ByteArray) : g47 k s = (
 (∃ (x0 : Nat), (x0 ≤ s.size ∧ ∀ (a : Nat), a < x0 → bt s a = (48 : Int) ∨ bt s a = (49 : Int)) ∧ True ∧ (0 : Int) = (↑x0 : Int) ∧ k = k ∧ s = s ∧ True) ∧
 ∀ (x : Nat),
 (x ≤ s.size ∧ ∀ (a : Nat), a < x → bt s a = (48 : Int) ∨ bt s a = (49 : Int)) →
 ((↑x : Int) < (↑s.size : Int) →
 (↑x : Int) < (↑s.size : Int) ∧
 ((0 : Int) ≤ (↑x : Int) ∧ (↑x : Int) < (↑s.size : Int)) ∧
 (¬bt s (↑x : Int).toNat = (48 : Int) →
 ¬bt s (↑x : Int).toNat = (48 : Int) ∧
 ¬bt s (↑x : Int).toNat = (48 : Int) ∧
 ((0 : Int) ≤ (↑x : Int) ∧ (↑x : Int) < (↑s.size : Int)) ∧
 (¬bt s (↑x : Int).toNat = (49 : Int) →
 ¬bt s (↑x : Int).toNat = (49 : Int) ∧ ¬bt s (↑x : Int).toNat = (49 : Int) ∧ false = (bitsB s && decide (s.size = swN k.toNat))) ∧
 (¬¬bt s (↑x : Int).toNat = (49 : Int) →
 ¬¬bt s (↑x : Int).toNat = (49 : Int) ∧
 ¬¬bt s (↑x : Int).toNat = (49 : Int) ∧
 Fits IntKind.i64 ((↑x : Int) + (1 : Int)) ∧
 ∃ (x' : Nat),
 (x' ≤ s.size ∧ ∀ (a : Nat), a < x' → bt s a = (48 : Int) ∨ bt s a = (49 : Int)) ∧
 s.size - x' < s.size - x ∧ True ∧ (↑x : Int) + (1 : Int) = (↑x' : Int) ∧ k = k ∧ s = s ∧ True)) ∧
 (¬¬bt s (↑x : Int).toNat = (48 : Int) →
 ¬¬bt s (↑x : Int).toNat = (48 : Int) ∧
 ¬¬bt s (↑x : Int).toNat = (48 : Int) ∧
 Fits IntKind.i64 ((↑x : Int) + (1 : Int)) ∧
 ∃ (x' : Nat),
 (x' ≤ s.size ∧ ∀ (a : Nat), a < x' → bt s a = (48 : Int) ∨ bt s a = (49 : Int)) ∧
 s.size - x' < s.size - x ∧ True ∧ (↑x : Int) + (1 : Int) = (↑x' : Int) ∧ k = k ∧ s = s ∧ True)) ∧
 (¬(↑x : Int) < (↑s.size : Int) →
 ¬(↑x : Int) < (↑s.size : Int) ∧ ((1 : Int) ≤ k ∧ k ≤ (3 : Int)) ∧ decide ((↑s.size : Int) = switchesF k) = (bitsB s && decide (s.size = swN k.toNat)))) := by
 kernel_rfl

theorem g12_eq (k : Int) (s : ByteArray) (y : List Int) : g12 k s y = (
 ((0 : Int) ≤ (↑(0 : Nat) : Int) ∧ (↑(0 : Nat) : Int) ≤ min (↑s.size : Int) (21 : Int) ∧ min (↑s.size : Int) (21 : Int) ≤ (↑s.size : Int)) ∧
 true = true ∧
 True ∧
 (s.extract (↑(0 : Nat) : Int).toNat (min (↑s.size : Int) (21 : Int)).toNat).size ≤ (1000 : Nat) ∧
 (List.take (13 : Nat) y).length ≤ (1000 : Nat) ∧
 True ∧
 ((!decide ((1 : Int) ≤ k ∧ k ≤ (3 : Int))) = true →
 (!decide ((1 : Int) ≤ k ∧ k ≤ (3 : Int))) = true ∧
 ((↑(applyP k (s.extract (↑(0 : Nat) : Int).toNat (min (↑s.size : Int) (21 : Int)).toNat)).fst.length : Int) = (0 : Int) →
 (↑(applyP k (s.extract (↑(0 : Nat) : Int).toNat (min (↑s.size : Int) (21 : Int)).toNat)).fst.length : Int) = (0 : Int) ∧
 (↑(applyP k (s.extract (↑(0 : Nat) : Int).toNat (min (↑s.size : Int) (21 : Int)).toNat)).fst.length : Int) = (0 : Int) ∧
 ((setP k (List.take (13 : Nat) y)).fst = ByteArray.mk #[] →
 (setP k (List.take (13 : Nat) y)).fst = ByteArray.mk #[] ∧
 (setP k (List.take (13 : Nat) y)).fst = ByteArray.mk #[] ∧
 (setP k (List.take (13 : Nat) y)).fst = ByteArray.mk #[] ∧
 ((applyP k (s.extract (↑(0 : Nat) : Int).toNat (min (↑s.size : Int) (21 : Int)).toNat)).snd = (1 : Int) →
 (applyP k (s.extract (↑(0 : Nat) : Int).toNat (min (↑s.size : Int) (21 : Int)).toNat)).snd = (1 : Int) ∧
 (applyP k (s.extract (↑(0 : Nat) : Int).toNat (min (↑s.size : Int) (21 : Int)).toNat)).snd = (1 : Int) ∧
 (applyP k (s.extract (↑(0 : Nat) : Int).toNat (min (↑s.size : Int) (21 : Int)).toNat)).snd = (1 : Int) ∧
 ((setP k (List.take (13 : Nat) y)).snd = (1 : Int) →
 (setP k (List.take (13 : Nat) y)).snd = (1 : Int) ∧
 (setP k (List.take (13 : Nat) y)).snd = (1 : Int) ∧ (setP k (List.take (13 : Nat) y)).snd = (1 : Int) ∧ True ∧ true = true) ∧
 (¬(setP k (List.take (13 : Nat) y)).snd = (1 : Int) →
 ¬(setP k (List.take (13 : Nat) y)).snd = (1 : Int) ∧
 ¬(setP k (List.take (13 : Nat) y)).snd = (1 : Int) ∧ ¬(setP k (List.take (13 : Nat) y)).snd = (1 : Int) ∧ false = true)) ∧
 (¬(applyP k (s.extract (↑(0 : Nat) : Int).toNat (min (↑s.size : Int) (21 : Int)).toNat)).snd = (1 : Int) →
 ¬(applyP k (s.extract (↑(0 : Nat) : Int).toNat (min (↑s.size : Int) (21 : Int)).toNat)).snd = (1 : Int) ∧
 ¬(applyP k (s.extract (↑(0 : Nat) : Int).toNat (min (↑s.size : Int) (21 : Int)).toNat)).snd = (1 : Int) ∧
 ¬(applyP k (s.extract (↑(0 : Nat) : Int).toNat (min (↑s.size : Int) (21 : Int)).toNat)).snd = (1 : Int) ∧ false = true)) ∧
 (¬(setP k (List.take (13 : Nat) y)).fst = ByteArray.mk #[] →
 ¬(setP k (List.take (13 : Nat) y)).fst = ByteArray.mk #[] ∧
 ¬(setP k (List.take (13 : Nat) y)).fst = ByteArray.mk #[] ∧ ¬(setP k (List.take (13 : Nat) y)).fst = ByteArray.mk #[] ∧ false = true)) ∧
 (¬(↑(applyP k (s.extract (↑(0 : Nat) : Int).toNat (min (↑s.size : Int) (21 : Int)).toNat)).fst.length : Int) = (0 : Int) →
 ¬(↑(applyP k (s.extract (↑(0 : Nat) : Int).toNat (min (↑s.size : Int) (21 : Int)).toNat)).fst.length : Int) = (0 : Int) ∧
 ¬(↑(applyP k (s.extract (↑(0 : Nat) : Int).toNat (min (↑s.size : Int) (21 : Int)).toNat)).fst.length : Int) = (0 : Int) ∧ false = true)) ∧
 ((!decide ((1 : Int) ≤ k ∧ k ≤ (3 : Int))) = false →
 (!decide ((1 : Int) ≤ k ∧ k ≤ (3 : Int))) = false ∧
 (((1 : Int) ≤ k ∧ k ≤ (3 : Int)) ∧ (s.extract (↑(0 : Nat) : Int).toNat (min (↑s.size : Int) (21 : Int)).toNat).size ≤ (1000 : Nat)) ∧
 ((!(bitsB (s.extract (↑(0 : Nat) : Int).toNat (min (↑s.size : Int) (21 : Int)).toNat) &&
 decide ((s.extract (↑(0 : Nat) : Int).toNat (min (↑s.size : Int) (21 : Int)).toNat).size = swN k.toNat))) =
 true →
 (!(bitsB (s.extract (↑(0 : Nat) : Int).toNat (min (↑s.size : Int) (21 : Int)).toNat) &&
 decide ((s.extract (↑(0 : Nat) : Int).toNat (min (↑s.size : Int) (21 : Int)).toNat).size = swN k.toNat))) =
 true ∧
 (¬(↑(applyP k (s.extract (↑(0 : Nat) : Int).toNat (min (↑s.size : Int) (21 : Int)).toNat)).fst.length : Int) = (0 : Int) →
 ¬(↑(applyP k (s.extract (↑(0 : Nat) : Int).toNat (min (↑s.size : Int) (21 : Int)).toNat)).fst.length : Int) = (0 : Int) ∧
 ¬(↑(applyP k (s.extract (↑(0 : Nat) : Int).toNat (min (↑s.size : Int) (21 : Int)).toNat)).fst.length : Int) = (0 : Int) ∧ false = true) ∧
 (¬¬(↑(applyP k (s.extract (↑(0 : Nat) : Int).toNat (min (↑s.size : Int) (21 : Int)).toNat)).fst.length : Int) = (0 : Int) →
 ¬¬(↑(applyP k (s.extract (↑(0 : Nat) : Int).toNat (min (↑s.size : Int) (21 : Int)).toNat)).fst.length : Int) = (0 : Int) ∧
 ¬¬(↑(applyP k (s.extract (↑(0 : Nat) : Int).toNat (min (↑s.size : Int) (21 : Int)).toNat)).fst.length : Int) = (0 : Int) ∧
 (¬(applyP k (s.extract (↑(0 : Nat) : Int).toNat (min (↑s.size : Int) (21 : Int)).toNat)).snd = (2 : Int) →
 ¬(applyP k (s.extract (↑(0 : Nat) : Int).toNat (min (↑s.size : Int) (21 : Int)).toNat)).snd = (2 : Int) ∧
 ¬(applyP k (s.extract (↑(0 : Nat) : Int).toNat (min (↑s.size : Int) (21 : Int)).toNat)).snd = (2 : Int) ∧ false = true) ∧
 (¬¬(applyP k (s.extract (↑(0 : Nat) : Int).toNat (min (↑s.size : Int) (21 : Int)).toNat)).snd = (2 : Int) →
 ¬¬(applyP k (s.extract (↑(0 : Nat) : Int).toNat (min (↑s.size : Int) (21 : Int)).toNat)).snd = (2 : Int) ∧
 ¬¬(applyP k (s.extract (↑(0 : Nat) : Int).toNat (min (↑s.size : Int) (21 : Int)).toNat)).snd = (2 : Int) ∧
 ((0 : Int) ≤ k ∧ k < (64 : Int)) ∧
 Fits IntKind.i64 ((1 : Int) * (2 : Int) ^ k.toNat) ∧
 ((List.take (13 : Nat) y).length ≤ (1000 : Nat) ∧
 (0 : Int) ≤ (1 : Int) * (2 : Int) ^ k.toNat ∧ (1 : Int) * (2 : Int) ^ k.toNat ≤ (1000000 : Int)) ∧
 ((!decide (PermP (List.take (13 : Nat) y) ((1 : Int) * (2 : Int) ^ k.toNat))) = true →
 (!decide (PermP (List.take (13 : Nat) y) ((1 : Int) * (2 : Int) ^ k.toNat))) = true ∧
 ((setP k (List.take (13 : Nat) y)).fst = ByteArray.mk #[] →
 (setP k (List.take (13 : Nat) y)).fst = ByteArray.mk #[] ∧
 (setP k (List.take (13 : Nat) y)).fst = ByteArray.mk #[] ∧
 ((setP k (List.take (13 : Nat) y)).snd = (2 : Int) →
 (setP k (List.take (13 : Nat) y)).snd = (2 : Int) ∧
 (setP k (List.take (13 : Nat) y)).snd = (2 : Int) ∧
 (setP k (List.take (13 : Nat) y)).snd = (2 : Int) ∧ True ∧ true = true) ∧
 (¬(setP k (List.take (13 : Nat) y)).snd = (2 : Int) →
 ¬(setP k (List.take (13 : Nat) y)).snd = (2 : Int) ∧
 ¬(setP k (List.take (13 : Nat) y)).snd = (2 : Int) ∧
 ¬(setP k (List.take (13 : Nat) y)).snd = (2 : Int) ∧ false = true)) ∧
 (¬(setP k (List.take (13 : Nat) y)).fst = ByteArray.mk #[] →
 ¬(setP k (List.take (13 : Nat) y)).fst = ByteArray.mk #[] ∧
 ¬(setP k (List.take (13 : Nat) y)).fst = ByteArray.mk #[] ∧ false = true)) ∧
 ((!decide (PermP (List.take (13 : Nat) y) ((1 : Int) * (2 : Int) ^ k.toNat))) = false →
 (!decide (PermP (List.take (13 : Nat) y) ((1 : Int) * (2 : Int) ^ k.toNat))) = false ∧
 (((1 : Int) ≤ k ∧ k ≤ (3 : Int)) ∧ (setP k (List.take (13 : Nat) y)).fst.size ≤ (1000 : Nat)) ∧
 ((bitsB (setP k (List.take (13 : Nat) y)).fst && decide ((setP k (List.take (13 : Nat) y)).fst.size = swN k.toNat)) = true →
 (bitsB (setP k (List.take (13 : Nat) y)).fst && decide ((setP k (List.take (13 : Nat) y)).fst.size = swN k.toNat)) =
 true ∧
 (bitsB (setP k (List.take (13 : Nat) y)).fst && decide ((setP k (List.take (13 : Nat) y)).fst.size = swN k.toNat)) =
 true ∧
 (((1 : Int) ≤ k ∧ k ≤ (3 : Int)) ∧
 (setP k (List.take (13 : Nat) y)).fst.size = swN k.toNat ∧
 ∀ (i : Nat),
 i < (setP k (List.take (13 : Nat) y)).fst.size →
 bt (setP k (List.take (13 : Nat) y)).fst i = (48 : Int) ∨
 bt (setP k (List.take (13 : Nat) y)).fst i = (49 : Int)) ∧
 ((applyF k.toNat (setP k (List.take (13 : Nat) y)).fst).length ≤ (1000 : Nat) ∧
 (List.take (13 : Nat) y).length ≤ (1000 : Nat)) ∧
 (decide (applyF k.toNat (setP k (List.take (13 : Nat) y)).fst = List.take (13 : Nat) y) = true →
 decide (applyF k.toNat (setP k (List.take (13 : Nat) y)).fst = List.take (13 : Nat) y) = true ∧
 decide (applyF k.toNat (setP k (List.take (13 : Nat) y)).fst = List.take (13 : Nat) y) = true ∧
 decide (applyF k.toNat (setP k (List.take (13 : Nat) y)).fst = List.take (13 : Nat) y) = true ∧
 ((setP k (List.take (13 : Nat) y)).snd = (0 : Int) →
 (setP k (List.take (13 : Nat) y)).snd = (0 : Int) ∧
 (setP k (List.take (13 : Nat) y)).snd = (0 : Int) ∧
 (setP k (List.take (13 : Nat) y)).snd = (0 : Int) ∧ True ∧ true = true) ∧
 (¬(setP k (List.take (13 : Nat) y)).snd = (0 : Int) →
 ¬(setP k (List.take (13 : Nat) y)).snd = (0 : Int) ∧
 ¬(setP k (List.take (13 : Nat) y)).snd = (0 : Int) ∧
 ¬(setP k (List.take (13 : Nat) y)).snd = (0 : Int) ∧ false = true)) ∧
 (decide (applyF k.toNat (setP k (List.take (13 : Nat) y)).fst = List.take (13 : Nat) y) = false →
 decide (applyF k.toNat (setP k (List.take (13 : Nat) y)).fst = List.take (13 : Nat) y) = false ∧
 decide (applyF k.toNat (setP k (List.take (13 : Nat) y)).fst = List.take (13 : Nat) y) = false ∧
 decide (applyF k.toNat (setP k (List.take (13 : Nat) y)).fst = List.take (13 : Nat) y) = false ∧
 false = true)) ∧
 ((bitsB (setP k (List.take (13 : Nat) y)).fst && decide ((setP k (List.take (13 : Nat) y)).fst.size = swN k.toNat)) =
 false →
 (bitsB (setP k (List.take (13 : Nat) y)).fst && decide ((setP k (List.take (13 : Nat) y)).fst.size = swN k.toNat)) =
 false ∧
 (bitsB (setP k (List.take (13 : Nat) y)).fst && decide ((setP k (List.take (13 : Nat) y)).fst.size = swN k.toNat)) =
 false ∧
 false = true))))) ∧
 ((!(bitsB (s.extract (↑(0 : Nat) : Int).toNat (min (↑s.size : Int) (21 : Int)).toNat) &&
 decide ((s.extract (↑(0 : Nat) : Int).toNat (min (↑s.size : Int) (21 : Int)).toNat).size = swN k.toNat))) =
 false →
 (!(bitsB (s.extract (↑(0 : Nat) : Int).toNat (min (↑s.size : Int) (21 : Int)).toNat) &&
 decide ((s.extract (↑(0 : Nat) : Int).toNat (min (↑s.size : Int) (21 : Int)).toNat).size = swN k.toNat))) =
 false ∧
 (((1 : Int) ≤ k ∧ k ≤ (3 : Int)) ∧
 (s.extract (↑(0 : Nat) : Int).toNat (min (↑s.size : Int) (21 : Int)).toNat).size = swN k.toNat ∧
 ∀ (i : Nat),
 i < (s.extract (↑(0 : Nat) : Int).toNat (min (↑s.size : Int) (21 : Int)).toNat).size →
 bt (s.extract (↑(0 : Nat) : Int).toNat (min (↑s.size : Int) (21 : Int)).toNat) i = (48 : Int) ∨
 bt (s.extract (↑(0 : Nat) : Int).toNat (min (↑s.size : Int) (21 : Int)).toNat) i = (49 : Int)) ∧
 ((applyP k (s.extract (↑(0 : Nat) : Int).toNat (min (↑s.size : Int) (21 : Int)).toNat)).fst.length ≤ (1000 : Nat) ∧
 (applyF k.toNat (s.extract (↑(0 : Nat) : Int).toNat (min (↑s.size : Int) (21 : Int)).toNat)).length ≤ (1000 : Nat)) ∧
 ((!decide
 ((applyP k (s.extract (↑(0 : Nat) : Int).toNat (min (↑s.size : Int) (21 : Int)).toNat)).fst =
 applyF k.toNat (s.extract (↑(0 : Nat) : Int).toNat (min (↑s.size : Int) (21 : Int)).toNat))) =
 true →
 (!decide
 ((applyP k (s.extract (↑(0 : Nat) : Int).toNat (min (↑s.size : Int) (21 : Int)).toNat)).fst =
 applyF k.toNat (s.extract (↑(0 : Nat) : Int).toNat (min (↑s.size : Int) (21 : Int)).toNat))) =
 true ∧
 (!decide
 ((applyP k (s.extract (↑(0 : Nat) : Int).toNat (min (↑s.size : Int) (21 : Int)).toNat)).fst =
 applyF k.toNat (s.extract (↑(0 : Nat) : Int).toNat (min (↑s.size : Int) (21 : Int)).toNat))) =
 true ∧
 false = true) ∧
 ((!decide
 ((applyP k (s.extract (↑(0 : Nat) : Int).toNat (min (↑s.size : Int) (21 : Int)).toNat)).fst =
 applyF k.toNat (s.extract (↑(0 : Nat) : Int).toNat (min (↑s.size : Int) (21 : Int)).toNat))) =
 false →
 (!decide
 ((applyP k (s.extract (↑(0 : Nat) : Int).toNat (min (↑s.size : Int) (21 : Int)).toNat)).fst =
 applyF k.toNat (s.extract (↑(0 : Nat) : Int).toNat (min (↑s.size : Int) (21 : Int)).toNat))) =
 false ∧
 (!decide
 ((applyP k (s.extract (↑(0 : Nat) : Int).toNat (min (↑s.size : Int) (21 : Int)).toNat)).fst =
 applyF k.toNat (s.extract (↑(0 : Nat) : Int).toNat (min (↑s.size : Int) (21 : Int)).toNat))) =
 false ∧
 (¬(applyP k (s.extract (↑(0 : Nat) : Int).toNat (min (↑s.size : Int) (21 : Int)).toNat)).snd = (0 : Int) →
 ¬(applyP k (s.extract (↑(0 : Nat) : Int).toNat (min (↑s.size : Int) (21 : Int)).toNat)).snd = (0 : Int) ∧
 ¬(applyP k (s.extract (↑(0 : Nat) : Int).toNat (min (↑s.size : Int) (21 : Int)).toNat)).snd = (0 : Int) ∧ false = true) ∧
 (¬¬(applyP k (s.extract (↑(0 : Nat) : Int).toNat (min (↑s.size : Int) (21 : Int)).toNat)).snd = (0 : Int) →
 ¬¬(applyP k (s.extract (↑(0 : Nat) : Int).toNat (min (↑s.size : Int) (21 : Int)).toNat)).snd = (0 : Int) ∧
 ¬¬(applyP k (s.extract (↑(0 : Nat) : Int).toNat (min (↑s.size : Int) (21 : Int)).toNat)).snd = (0 : Int) ∧
 ((0 : Int) ≤ k ∧ k < (64 : Int)) ∧
 Fits IntKind.i64 ((1 : Int) * (2 : Int) ^ k.toNat) ∧
 ((List.take (13 : Nat) y).length ≤ (1000 : Nat) ∧
 (0 : Int) ≤ (1 : Int) * (2 : Int) ^ k.toNat ∧ (1 : Int) * (2 : Int) ^ k.toNat ≤ (1000000 : Int)) ∧
 ((!decide (PermP (List.take (13 : Nat) y) ((1 : Int) * (2 : Int) ^ k.toNat))) = true →
 (!decide (PermP (List.take (13 : Nat) y) ((1 : Int) * (2 : Int) ^ k.toNat))) = true ∧
 ((setP k (List.take (13 : Nat) y)).fst = ByteArray.mk #[] →
 (setP k (List.take (13 : Nat) y)).fst = ByteArray.mk #[] ∧
 (setP k (List.take (13 : Nat) y)).fst = ByteArray.mk #[] ∧
 ((setP k (List.take (13 : Nat) y)).snd = (2 : Int) →
 (setP k (List.take (13 : Nat) y)).snd = (2 : Int) ∧
 (setP k (List.take (13 : Nat) y)).snd = (2 : Int) ∧
 (setP k (List.take (13 : Nat) y)).snd = (2 : Int) ∧ True ∧ true = true) ∧
 (¬(setP k (List.take (13 : Nat) y)).snd = (2 : Int) →
 ¬(setP k (List.take (13 : Nat) y)).snd = (2 : Int) ∧
 ¬(setP k (List.take (13 : Nat) y)).snd = (2 : Int) ∧
 ¬(setP k (List.take (13 : Nat) y)).snd = (2 : Int) ∧ false = true)) ∧
 (¬(setP k (List.take (13 : Nat) y)).fst = ByteArray.mk #[] →
 ¬(setP k (List.take (13 : Nat) y)).fst = ByteArray.mk #[] ∧
 ¬(setP k (List.take (13 : Nat) y)).fst = ByteArray.mk #[] ∧ false = true)) ∧
 ((!decide (PermP (List.take (13 : Nat) y) ((1 : Int) * (2 : Int) ^ k.toNat))) = false →
 (!decide (PermP (List.take (13 : Nat) y) ((1 : Int) * (2 : Int) ^ k.toNat))) = false ∧
 (((1 : Int) ≤ k ∧ k ≤ (3 : Int)) ∧ (setP k (List.take (13 : Nat) y)).fst.size ≤ (1000 : Nat)) ∧
 ((bitsB (setP k (List.take (13 : Nat) y)).fst && decide ((setP k (List.take (13 : Nat) y)).fst.size = swN k.toNat)) =
 true →
 (bitsB (setP k (List.take (13 : Nat) y)).fst && decide ((setP k (List.take (13 : Nat) y)).fst.size = swN k.toNat)) =
 true ∧
 (bitsB (setP k (List.take (13 : Nat) y)).fst &&
 decide ((setP k (List.take (13 : Nat) y)).fst.size = swN k.toNat)) =
 true ∧
 (((1 : Int) ≤ k ∧ k ≤ (3 : Int)) ∧
 (setP k (List.take (13 : Nat) y)).fst.size = swN k.toNat ∧
 ∀ (i : Nat),
 i < (setP k (List.take (13 : Nat) y)).fst.size →
 bt (setP k (List.take (13 : Nat) y)).fst i = (48 : Int) ∨
 bt (setP k (List.take (13 : Nat) y)).fst i = (49 : Int)) ∧
 ((applyF k.toNat (setP k (List.take (13 : Nat) y)).fst).length ≤ (1000 : Nat) ∧
 (List.take (13 : Nat) y).length ≤ (1000 : Nat)) ∧
 (decide (applyF k.toNat (setP k (List.take (13 : Nat) y)).fst = List.take (13 : Nat) y) = true →
 decide (applyF k.toNat (setP k (List.take (13 : Nat) y)).fst = List.take (13 : Nat) y) = true ∧
 decide (applyF k.toNat (setP k (List.take (13 : Nat) y)).fst = List.take (13 : Nat) y) = true ∧
 decide (applyF k.toNat (setP k (List.take (13 : Nat) y)).fst = List.take (13 : Nat) y) = true ∧
 ((setP k (List.take (13 : Nat) y)).snd = (0 : Int) →
 (setP k (List.take (13 : Nat) y)).snd = (0 : Int) ∧
 (setP k (List.take (13 : Nat) y)).snd = (0 : Int) ∧
 (setP k (List.take (13 : Nat) y)).snd = (0 : Int) ∧ True ∧ true = true) ∧
 (¬(setP k (List.take (13 : Nat) y)).snd = (0 : Int) →
 ¬(setP k (List.take (13 : Nat) y)).snd = (0 : Int) ∧
 ¬(setP k (List.take (13 : Nat) y)).snd = (0 : Int) ∧
 ¬(setP k (List.take (13 : Nat) y)).snd = (0 : Int) ∧ false = true)) ∧
 (decide (applyF k.toNat (setP k (List.take (13 : Nat) y)).fst = List.take (13 : Nat) y) = false →
 decide (applyF k.toNat (setP k (List.take (13 : Nat) y)).fst = List.take (13 : Nat) y) = false ∧
 decide (applyF k.toNat (setP k (List.take (13 : Nat) y)).fst = List.take (13 : Nat) y) = false ∧
 decide (applyF k.toNat (setP k (List.take (13 : Nat) y)).fst = List.take (13 : Nat) y) = false ∧
 false = true)) ∧
 ((bitsB (setP k (List.take (13 : Nat) y)).fst && decide ((setP k (List.take (13 : Nat) y)).fst.size = swN k.toNat)) =
 false →
 (bitsB (setP k (List.take (13 : Nat) y)).fst && decide ((setP k (List.take (13 : Nat) y)).fst.size = swN k.toNat)) =
 false ∧
 (bitsB (setP k (List.take (13 : Nat) y)).fst &&
 decide ((setP k (List.take (13 : Nat) y)).fst.size = swN k.toNat)) =
 false ∧
 false = true))))))) := by
 kernel_rfl

theorem g13_eq (x : Int) (code : List Int) : g13 x code = (
 Fits IntKind.i64 x ∧
 ((0 : Int) ≤ x ∧ (0 : Int) < (3 : Int)) ∧
 Fits IntKind.i64 (x % (3 : Int) + (1 : Int)) ∧
 ((0 : Int) ≤ x % (3 : Int) + (1 : Int) ∧ x % (3 : Int) + (1 : Int) < (64 : Int)) ∧
 Fits IntKind.i64 ((1 : Int) * (2 : Int) ^ (x % (3 : Int) + (1 : Int)).toNat) ∧
 (((0 : Int) ≤ (1 : Int) * (2 : Int) ^ (x % (3 : Int) + (1 : Int)).toNat ∧ (1 : Int) * (2 : Int) ^ (x % (3 : Int) + (1 : Int)).toNat ≤ (100 : Int)) ∧
 code.length ≤ maxLen ∧ ∀ (b : Int), b ∈ code → (0 : Int) ≤ b ∧ b ≤ (255 : Int)) ∧
 (nthTo code ((1 : Int) * (2 : Int) ^ (x % (3 : Int) + (1 : Int)).toNat).toNat).length ≤ (1000 : Nat) ∧
 (setP (x % (3 : Int) + (1 : Int)) (nthTo code ((1 : Int) * (2 : Int) ^ (x % (3 : Int) + (1 : Int)).toNat).toNat)).fst.size ≤ (1000 : Nat) ∧
 ((setP (x % (3 : Int) + (1 : Int)) (nthTo code ((1 : Int) * (2 : Int) ^ (x % (3 : Int) + (1 : Int)).toNat).toNat)).snd = (0 : Int) →
 (setP (x % (3 : Int) + (1 : Int)) (nthTo code ((1 : Int) * (2 : Int) ^ (x % (3 : Int) + (1 : Int)).toNat).toNat)).snd = (0 : Int) ∧
 (setP (x % (3 : Int) + (1 : Int)) (nthTo code ((1 : Int) * (2 : Int) ^ (x % (3 : Int) + (1 : Int)).toNat).toNat)).snd = (0 : Int) ∧
 ((applyP (x % (3 : Int) + (1 : Int))
 (setP (x % (3 : Int) + (1 : Int)) (nthTo code ((1 : Int) * (2 : Int) ^ (x % (3 : Int) + (1 : Int)).toNat).toNat)).fst).snd =
 (0 : Int) →
 (applyP (x % (3 : Int) + (1 : Int))
 (setP (x % (3 : Int) + (1 : Int)) (nthTo code ((1 : Int) * (2 : Int) ^ (x % (3 : Int) + (1 : Int)).toNat).toNat)).fst).snd =
 (0 : Int) ∧
 (applyP (x % (3 : Int) + (1 : Int))
 (setP (x % (3 : Int) + (1 : Int)) (nthTo code ((1 : Int) * (2 : Int) ^ (x % (3 : Int) + (1 : Int)).toNat).toNat)).fst).snd =
 (0 : Int) ∧
 (applyP (x % (3 : Int) + (1 : Int))
 (setP (x % (3 : Int) + (1 : Int)) (nthTo code ((1 : Int) * (2 : Int) ^ (x % (3 : Int) + (1 : Int)).toNat).toNat)).fst).snd =
 (0 : Int) ∧
 ((1 : Int) ≤ x % (3 : Int) + (1 : Int) ∧ x % (3 : Int) + (1 : Int) ≤ (3 : Int)) ∧
 ((↑(setP (x % (3 : Int) + (1 : Int)) (nthTo code ((1 : Int) * (2 : Int) ^ (x % (3 : Int) + (1 : Int)).toNat).toNat)).fst.size : Int) =
 switchesF (x % (3 : Int) + (1 : Int)) →
 (↑(setP (x % (3 : Int) + (1 : Int)) (nthTo code ((1 : Int) * (2 : Int) ^ (x % (3 : Int) + (1 : Int)).toNat).toNat)).fst.size : Int) =
 switchesF (x % (3 : Int) + (1 : Int)) ∧
 (↑(setP (x % (3 : Int) + (1 : Int)) (nthTo code ((1 : Int) * (2 : Int) ^ (x % (3 : Int) + (1 : Int)).toNat).toNat)).fst.size : Int) =
 switchesF (x % (3 : Int) + (1 : Int)) ∧
 (↑(setP (x % (3 : Int) + (1 : Int)) (nthTo code ((1 : Int) * (2 : Int) ^ (x % (3 : Int) + (1 : Int)).toNat).toNat)).fst.size : Int) =
 switchesF (x % (3 : Int) + (1 : Int)) ∧
 ((applyP (x % (3 : Int) + (1 : Int))
 (setP (x % (3 : Int) + (1 : Int))
 (nthTo code ((1 : Int) * (2 : Int) ^ (x % (3 : Int) + (1 : Int)).toNat).toNat)).fst).fst.length ≤
 (1000 : Nat) ∧
 (nthTo code ((1 : Int) * (2 : Int) ^ (x % (3 : Int) + (1 : Int)).toNat).toNat).length ≤ (1000 : Nat)) ∧
 (decide
 ((applyP (x % (3 : Int) + (1 : Int))
 (setP (x % (3 : Int) + (1 : Int))
 (nthTo code ((1 : Int) * (2 : Int) ^ (x % (3 : Int) + (1 : Int)).toNat).toNat)).fst).fst =
 nthTo code ((1 : Int) * (2 : Int) ^ (x % (3 : Int) + (1 : Int)).toNat).toNat) =
 true →
 decide
 ((applyP (x % (3 : Int) + (1 : Int))
 (setP (x % (3 : Int) + (1 : Int))
 (nthTo code ((1 : Int) * (2 : Int) ^ (x % (3 : Int) + (1 : Int)).toNat).toNat)).fst).fst =
 nthTo code ((1 : Int) * (2 : Int) ^ (x % (3 : Int) + (1 : Int)).toNat).toNat) =
 true ∧
 decide
 ((applyP (x % (3 : Int) + (1 : Int))
 (setP (x % (3 : Int) + (1 : Int))
 (nthTo code ((1 : Int) * (2 : Int) ^ (x % (3 : Int) + (1 : Int)).toNat).toNat)).fst).fst =
 nthTo code ((1 : Int) * (2 : Int) ^ (x % (3 : Int) + (1 : Int)).toNat).toNat) =
 true ∧
 decide
 ((applyP (x % (3 : Int) + (1 : Int))
 (setP (x % (3 : Int) + (1 : Int))
 (nthTo code ((1 : Int) * (2 : Int) ^ (x % (3 : Int) + (1 : Int)).toNat).toNat)).fst).fst =
 nthTo code ((1 : Int) * (2 : Int) ^ (x % (3 : Int) + (1 : Int)).toNat).toNat) =
 true ∧
 True ∧ true = true) ∧
 (decide
 ((applyP (x % (3 : Int) + (1 : Int))
 (setP (x % (3 : Int) + (1 : Int))
 (nthTo code ((1 : Int) * (2 : Int) ^ (x % (3 : Int) + (1 : Int)).toNat).toNat)).fst).fst =
 nthTo code ((1 : Int) * (2 : Int) ^ (x % (3 : Int) + (1 : Int)).toNat).toNat) =
 false →
 decide
 ((applyP (x % (3 : Int) + (1 : Int))
 (setP (x % (3 : Int) + (1 : Int))
 (nthTo code ((1 : Int) * (2 : Int) ^ (x % (3 : Int) + (1 : Int)).toNat).toNat)).fst).fst =
 nthTo code ((1 : Int) * (2 : Int) ^ (x % (3 : Int) + (1 : Int)).toNat).toNat) =
 false ∧
 decide
 ((applyP (x % (3 : Int) + (1 : Int))
 (setP (x % (3 : Int) + (1 : Int))
 (nthTo code ((1 : Int) * (2 : Int) ^ (x % (3 : Int) + (1 : Int)).toNat).toNat)).fst).fst =
 nthTo code ((1 : Int) * (2 : Int) ^ (x % (3 : Int) + (1 : Int)).toNat).toNat) =
 false ∧
 decide
 ((applyP (x % (3 : Int) + (1 : Int))
 (setP (x % (3 : Int) + (1 : Int))
 (nthTo code ((1 : Int) * (2 : Int) ^ (x % (3 : Int) + (1 : Int)).toNat).toNat)).fst).fst =
 nthTo code ((1 : Int) * (2 : Int) ^ (x % (3 : Int) + (1 : Int)).toNat).toNat) =
 false ∧
 false = true)) ∧
 (¬(↑(setP (x % (3 : Int) + (1 : Int)) (nthTo code ((1 : Int) * (2 : Int) ^ (x % (3 : Int) + (1 : Int)).toNat).toNat)).fst.size : Int) =
 switchesF (x % (3 : Int) + (1 : Int)) →
 ¬(↑(setP (x % (3 : Int) + (1 : Int)) (nthTo code ((1 : Int) * (2 : Int) ^ (x % (3 : Int) + (1 : Int)).toNat).toNat)).fst.size : Int) =
 switchesF (x % (3 : Int) + (1 : Int)) ∧
 ¬(↑(setP (x % (3 : Int) + (1 : Int)) (nthTo code ((1 : Int) * (2 : Int) ^ (x % (3 : Int) + (1 : Int)).toNat).toNat)).fst.size : Int) =
 switchesF (x % (3 : Int) + (1 : Int)) ∧
 ¬(↑(setP (x % (3 : Int) + (1 : Int)) (nthTo code ((1 : Int) * (2 : Int) ^ (x % (3 : Int) + (1 : Int)).toNat).toNat)).fst.size : Int) =
 switchesF (x % (3 : Int) + (1 : Int)) ∧
 false = true)) ∧
 (¬(applyP (x % (3 : Int) + (1 : Int))
 (setP (x % (3 : Int) + (1 : Int)) (nthTo code ((1 : Int) * (2 : Int) ^ (x % (3 : Int) + (1 : Int)).toNat).toNat)).fst).snd =
 (0 : Int) →
 ¬(applyP (x % (3 : Int) + (1 : Int))
 (setP (x % (3 : Int) + (1 : Int)) (nthTo code ((1 : Int) * (2 : Int) ^ (x % (3 : Int) + (1 : Int)).toNat).toNat)).fst).snd =
 (0 : Int) ∧
 ¬(applyP (x % (3 : Int) + (1 : Int))
 (setP (x % (3 : Int) + (1 : Int)) (nthTo code ((1 : Int) * (2 : Int) ^ (x % (3 : Int) + (1 : Int)).toNat).toNat)).fst).snd =
 (0 : Int) ∧
 ¬(applyP (x % (3 : Int) + (1 : Int))
 (setP (x % (3 : Int) + (1 : Int)) (nthTo code ((1 : Int) * (2 : Int) ^ (x % (3 : Int) + (1 : Int)).toNat).toNat)).fst).snd =
 (0 : Int) ∧
 false = true)) ∧
 (¬(setP (x % (3 : Int) + (1 : Int)) (nthTo code ((1 : Int) * (2 : Int) ^ (x % (3 : Int) + (1 : Int)).toNat).toNat)).snd = (0 : Int) →
 ¬(setP (x % (3 : Int) + (1 : Int)) (nthTo code ((1 : Int) * (2 : Int) ^ (x % (3 : Int) + (1 : Int)).toNat).toNat)).snd = (0 : Int) ∧
 ¬(setP (x % (3 : Int) + (1 : Int)) (nthTo code ((1 : Int) * (2 : Int) ^ (x % (3 : Int) + (1 : Int)).toNat).toNat)).snd = (0 : Int) ∧ false = true)) := by
 kernel_rfl

end Go.SX.Pa

/- Chapter 06, part 19: Set, Settings; the laws PatchApplies and PatchBenes: their contracts. -/
namespace Go.SX.Pa
open Go Go.Proofs

theorem bitsB_iff {s : ByteArray} : bitsB s = true ↔ Bits s := by
  unfold bitsB Bits
  simp
theorem sw_int {k : Int} (h : 1 ≤ k ∧ k ≤ 3) : switchesF k = (swN k.toNat : Nat) ∧ swN k.toNat ≤ 20 ∧ 1 ≤ swN k.toNat ∧ (2 : Int) ^ k.toNat = ((2 ^ k.toNat : Nat) : Int) ∧ 2 ^ k.toNat ≤ 8 ∧ 2 * hN k.toNat = 2 ^ k.toNat := by
  have : k = 1 ∨ k = 2 ∨ k = 3 := by omega
  rcases this with rfl | rfl | rfl <;> decide
theorem apply_good {k : Int} {s : ByteArray} (h : 1 ≤ k ∧ k ≤ 3) (h1 : s.size = swN k.toNat) (h2 : Bits s) : applyP k s = (applyF k.toNat s, 0) := by
  unfold applyP
  rw [if_pos h, if_pos ⟨h1, bits_trim.2 h2⟩]
theorem apply_bad {k : Int} {s : ByteArray} (h : 1 ≤ k ∧ k ≤ 3) (h1 : ¬ (s.size = swN k.toNat ∧ Bits s)) : applyP k s = ([], 2) := by
  unfold applyP
  rw [if_pos h, if_neg (fun c => h1 ⟨c.1, bits_trim.1 c.2⟩)]
theorem apply_out {k : Int} {s : ByteArray} (h : ¬ (1 ≤ k ∧ k ≤ 3)) : applyP k s = ([], 1) := by unfold applyP; rw [if_neg h]
theorem set_good {k : Int} {l : List Int} (h : 1 ≤ k ∧ k ≤ 3) (h2 : PermP l (2 ^ k.toNat)) : setP k l = (strOf (setF k.toNat l), 0) ∧ (strOf (setF k.toNat l)).size = swN k.toNat ∧ Bits (strOf (setF k.toNat l)) ∧ applyF k.toNat (strOf (setF k.toNat l)) = l := by
  have h3 : PermP l (2 ^ k.toNat : Nat) := by rw [← (sw_int h).2.2.2.1]; exact h2
  obtain ⟨q1, q2, q3⟩ := set_ok k.toNat (by omega) (by omega) l h3
  refine ⟨?_, by rw [strOf_size, q1], bits_of q2, q3⟩
  unfold setP
  rw [if_pos h, if_pos h2]
theorem set_bad {k : Int} {l : List Int} (h : 1 ≤ k ∧ k ≤ 3) (h2 : ¬ PermP l (2 ^ k.toNat)) : setP k l = (⟨#[]⟩, 2) := by
  unfold setP
  rw [if_pos h, if_neg h2]
theorem set_out {k : Int} {l : List Int} (h : ¬ (1 ≤ k ∧ k ≤ 3)) : setP k l = (⟨#[]⟩, 1) := by unfold setP; rw [if_neg h]

theorem ok46 : p46.OK Tryd.prog := p46.ok (fun _ => cx [p63.ci, p51.ci, p68.ci] []) (fun _ => cx_ok (cs := [p63.ci, p51.ci, p68.ci]) ⟨PC.OK.ci ok63, PC.OK.ci ok51, PC.OK.ci ok68, trivial⟩ _) (fn := Tryd.f46) rfl (by decide +kernel) rfl fun (p : Int × List Int) hp => by
  obtain ⟨k, perm⟩ := p
  refine (g46_eq k perm).mpr ?_
  have hp : perm.length ≤ 1000 := hp
  simp only [pp1, true_and, Int.one_mul]
  by_cases h1 : 1 ≤ k ∧ k ≤ 3
  · have hd : decide (1 ≤ k ∧ k ≤ 3) = true := decide_eq_true h1
    obtain ⟨s1, s2, s3, s4, s5, s6⟩ := sw_int h1
    have hf : Fits .i64 ((2 : Int) ^ k.toNat) := fits_i64 (by omega) (by omega)
    simp only [hd, Bool.not_true]
    refine ⟨fun h => (by cases h), fun _ => ⟨by omega, hf, hp, ?_⟩⟩
    by_cases h2 : PermP perm (2 ^ k.toNat)
    · rw [(set_good h1 h2).1]
      simp only [h2, decide_true, Bool.not_true]
      rw [s4] at h2
      exact ⟨fun h => (by cases h), fun _ => ⟨⟨h1, h2⟩, trivial⟩⟩
    · rw [set_bad h1 h2]
      simp [h2]
  · have hd : decide (1 ≤ k ∧ k ≤ 3) = false := decide_eq_false h1
    rw [set_out h1]
    simp [hd]

theorem ok47 : p47.OK Tryd.prog := p47.ok C47 (fun _ => cx1 (PC.OK.ci ok32)) (fn := Tryd.f47) rfl (by decide +kernel) rfl fun (p : Int × ByteArray) hp => by
  obtain ⟨k, s⟩ := p
  refine (g47_eq k s).mpr ?_
  have hp : (1 ≤ k ∧ k ≤ 3) ∧ s.size ≤ 1000 := hp
  obtain ⟨h1, h2⟩ := hp
  simp only [pp1, eq_self, and_true, true_and, and_self, Int.toNat_natCast, Decidable.not_not]
  refine ⟨⟨0, ⟨by omega, fun a ha => absurd ha (by omega)⟩, rfl⟩, fun x hx => ⟨fun h3 => ⟨by omega, fun h4 => ⟨by omega, fun h5 => ?_, fun h5 => ?_⟩, fun h4 => ?_⟩, fun h3 => ?_⟩⟩
  · have : bitsB s = false := by
      cases e : bitsB s with
      | false => rfl
      | true =>
        have := bitsB_iff.1 e x (by omega)
        omega
    rw [this]; rfl
  · exact ⟨fits_nat (by omega), x + 1, ⟨by omega, all_below hx.2 (.inr h5)⟩, by omega, by omega⟩
  · exact ⟨fits_nat (by omega), x + 1, ⟨by omega, all_below hx.2 (.inl h4)⟩, by omega, by omega⟩
  · refine ⟨h1, ?_⟩
    have hb : bitsB s = true := bitsB_iff.2 fun i hi => hx.2 i (by omega)
    rw [hb, (sw_int h1).1, Bool.true_and]
    exact decide_eq_decide.2 (by omega)

theorem ok12 : p12.OK Tryd.prog := p12.ok (fun _ => cx [p17.ci, p45.ci, p46.ci, p21.ci, p25.ci, p47.ci, p28.ci, p48.ci, p22.ci] []) (fun _ => cx_ok (cs := [p17.ci, p45.ci, p46.ci, p21.ci, p25.ci, p47.ci, p28.ci, p48.ci, p22.ci]) ⟨PC.OK.ci ok17, PC.OK.ci ok45, PC.OK.ci ok46, PC.OK.ci ok21, PC.OK.ci ok25, PC.OK.ci ok47, PC.OK.ci ok28, PC.OK.ci ok48, PC.OK.ci ok22, trivial⟩ _) (fn := Tryd.f12) rfl (by decide +kernel) rfl fun (p : Int × ByteArray × List Int) _ => by
  obtain ⟨k, s, y⟩ := p
  refine (g12_eq k s y).mpr ?_
  simp only [pp1, eq_self, and_true, true_and, and_self, Int.one_mul]
  have hy : (y.take 13).length ≤ 13 := by simp; omega
  generalize y.take 13 = l at hy ⊢
  have ha : (s.extract ((0 : Nat) : Int).toNat (min (s.size : Int) 21).toNat).size ≤ 1000 := by rw [ByteArray.size_extract]; omega
  generalize s.extract ((0 : Nat) : Int).toNat (min (s.size : Int) 21).toNat = a at ha ⊢
  refine ⟨by omega, ha, by omega, ?_⟩
  by_cases h1 : 1 ≤ k ∧ k ≤ 3
  · have hd : decide (1 ≤ k ∧ k ≤ 3) = true := decide_eq_true h1
    obtain ⟨s1, s2, s3, s4, s5, s6⟩ := sw_int h1
    have hf : Fits .i64 ((2 : Int) ^ k.toNat) := fits_i64 (by omega) (by omega)
    have hk : (0 ≤ k ∧ k < 64) = True := eq_true (by omega)
    have hl : (l.length ≤ 1000 ∧ (0 : Int) ≤ 2 ^ k.toNat ∧ (2 : Int) ^ k.toNat ≤ 1000000) = True := eq_true (by omega)
    have hl2 : (l.length ≤ 1000) = True := eq_true (by omega)
    have ha' := eq_true ha
    have hf' := eq_true hf
    simp only [hd, Bool.not_true]
    refine ⟨fun h => (by cases h), fun _ => ⟨⟨h1, ha⟩, ?_⟩⟩
    have h1' := eq_true h1
    by_cases h2 : PermP l (2 ^ k.toNat)
    · obtain ⟨g1, g2, g3, g4⟩ := set_good h1 h2
      have gb : bitsB (strOf (setF k.toNat l)) = true := bitsB_iff.2 g3
      rw [g1]
      simp only [h2, decide_true, Bool.not_true, hf', hk, hl2, true_and, h1', g2, gb, g4, Bool.true_and]
      have g3' : ∀ (i : Nat), i < swN k.toNat → bt (strOf (setF k.toNat l)) i = 48 ∨ bt (strOf (setF k.toNat l)) i = 49 := fun i hi => g3 i (by omega)
      by_cases h3 : a.size = swN k.toNat ∧ Bits a
      · have hb : bitsB a = true := bitsB_iff.2 h3.2
        have hg := (applyF_good k.toNat (by omega) (by omega) a h3.1 h3.2).1
        rw [apply_good h1 h3.1 h3.2]
        simp [hb, h3.1, show (applyF k.toNat a).length ≤ 1000 by omega, show swN k.toNat ≤ 1000 by omega]
        exact ⟨fun i hi => h3.2 i (by omega), by omega, g3'⟩
      · have hb : (bitsB a && decide (a.size = swN k.toNat)) = false := by
          cases e : bitsB a with
          | false => rfl
          | true => simpa using fun e2 => h3 ⟨e2, bitsB_iff.1 e⟩
        rw [apply_bad h1 h3]
        simp only [hb]
        simp [show swN k.toNat ≤ 1000 by omega]
        exact ⟨by omega, g3'⟩
    · rw [set_bad h1 h2]
      simp only [h2, decide_false, Bool.not_false, hf', hk, hl2, true_and, h1']
      by_cases h3 : a.size = swN k.toNat ∧ Bits a
      · have hb : bitsB a = true := bitsB_iff.2 h3.2
        have hg := (applyF_good k.toNat (by omega) (by omega) a h3.1 h3.2).1
        rw [apply_good h1 h3.1 h3.2]
        simp [hb, h3.1, show (applyF k.toNat a).length ≤ 1000 by omega]
        exact ⟨fun i hi => h3.2 i (by omega), by omega⟩
      · have hb : (bitsB a && decide (a.size = swN k.toNat)) = false := by
          cases e : bitsB a with
          | false => rfl
          | true => simpa using fun e2 => h3 ⟨e2, bitsB_iff.1 e⟩
        rw [apply_bad h1 h3]
        simp only [hb]
        simp
        omega
  · have hd : decide (1 ≤ k ∧ k ≤ 3) = false := decide_eq_false h1
    rw [set_out h1, apply_out h1]
    simp [hd]

theorem ok13 : p13.OK Tryd.prog := p13.ok (fun _ => cx [p31.ci, p46.ci, p45.ci, p32.ci, p28.ci, p25.ci] []) (fun _ => cx_ok (cs := [p31.ci, p46.ci, p45.ci, p32.ci, p28.ci, p25.ci]) ⟨PC.OK.ci ok31, PC.OK.ci ok46, PC.OK.ci ok45, PC.OK.ci ok32, PC.OK.ci ok28, PC.OK.ci ok25, trivial⟩ _) (fn := Tryd.f13) rfl (by decide +kernel) rfl fun (p : Int × List Int) hp => by
  obtain ⟨x, code⟩ := p
  refine (g13_eq x code).mpr ?_
  have hp : (0 ≤ x ∧ x ≤ 255) ∧ Bytes code := hp
  obtain ⟨hx, hc1, hc2⟩ := hp
  simp only [pp1, eq_self, and_true, and_self, Int.one_mul]
  have hk0 : 1 ≤ x % 3 + 1 ∧ x % 3 + 1 ≤ 3 := by omega
  generalize x % 3 + 1 = k at hk0 ⊢
  obtain ⟨s1, s2, s3, s4, s5, s6⟩ := sw_int hk0
  have ht : ((2 : Int) ^ k.toNat).toNat = 2 ^ k.toNat := by omega
  have hpm : PermP (nthTo code (2 ^ k.toNat)) (2 ^ k.toNat) := by rw [s4]; exact nth_perm code _
  have hnl := nthTo_length code (2 ^ k.toNat)
  obtain ⟨g1, g2, g3, g4⟩ := set_good hk0 hpm
  rw [ht, g1]
  simp only
  rw [apply_good hk0 g2 g3, g4, g2, s1]
  refine ⟨fits_i64 (by omega) (by omega), by omega, fits_i64 (by omega) (by omega), by omega, fits_i64 (by omega) (by omega), ⟨by omega, hc1, hc2⟩, by omega, by omega, ?_⟩
  simp [hk0, show 2 ^ k.toNat ≤ 1000 by omega, hnl]
end Go.SX.Pa
