/- Parts of the proof, one after the other: PaT Pa23 Pa23E Pa23Q. -/
import Derived.Test.YtfbgbdiajghnbaaDoorM6
import Derived.Test.YtfbgbdiajghnbaaDoorM13
/- Chapter 06, plain: Clos's theorem for an exchange that never moves a line; calls that hang up and come back. -/
namespace Go.SX.Pa
open Go
theorem pigeon {α : Type} [DecidableEq α] : (a b : List α) → a.Nodup → (∀ x ∈ a, x ∈ b) → a.length ≤ b.length
  | [], _, _, _ => Nat.zero_le _
  | x :: r, b, hn, hs => by
    rw [List.nodup_cons] at hn
    have hx := hs x (by simp)
    have := pigeon r (b.erase x) hn.2 fun y hy => (List.mem_erase_of_ne (fun e => hn.1 (by rw [← e]; exact hy))).2 (hs y (List.mem_cons_of_mem _ hy))
    rw [List.length_erase_of_mem hx] at this
    have hp : 0 < b.length := List.length_pos_of_mem hx
    simp only [List.length_cons]
    omega
theorem ints_le {l : List Int} {lo : Int} {n : Nat} (hn : l.Nodup) (h : ∀ x ∈ l, lo ≤ x ∧ x < lo + n) : l.length ≤ n := by
  have := pigeon l ((List.range n).map fun i : Nat => lo + (i : Int)) hn fun x hx => by
    rw [List.mem_map]
    have := h x hx
    exact ⟨(x - lo).toNat, List.mem_range.2 (by omega), by omega⟩
  rw [List.length_map, List.length_range] at this
  exact this
theorem filter_or {α : Type} (p q : α → Bool) : (l : List α) → (l.filter fun x => p x || q x).length ≤ (l.filter p).length + (l.filter q).length
  | [] => by simp
  | x :: r => by
    have := filter_or p q r
    rw [List.filter_cons, List.filter_cons, List.filter_cons]
    cases p x <;> cases q x <;> simp <;> omega
theorem ediv_in {x n q : Int} (hn : 1 ≤ n) (h : x / n = q) : n * q ≤ x ∧ x < n * q + n := by
  have h1 := Int.mul_ediv_add_emod x n
  have h2 := Int.emod_nonneg x (show n ≠ 0 by omega)
  have h3 := Int.emod_lt_of_pos x (show 0 < n by omega)
  rw [h] at h1
  omega
theorem same_le {n : Int} {E : List Lk} (f : Lk → Int) {a : Int} (hn : 1 ≤ n) (hd : (E.map f).Nodup) (ha : ∀ l ∈ E, f l ≠ a) : (E.filter fun l => decide (f l / n = a / n)).length + 1 ≤ n.toNat := by
  have := ints_le (l := a :: (E.filter fun l => decide (f l / n = a / n)).map f) (lo := n * (a / n)) (n := n.toNat) (by
    rw [List.nodup_cons]
    refine ⟨fun h => ?_, hd.sublist (List.filter_sublist.map f)⟩
    obtain ⟨l, hl, e⟩ := List.mem_map.1 h
    exact ha l (List.mem_filter.1 hl).1 e) fun x hx => by
    rw [Int.toNat_of_nonneg (by omega)]
    rcases List.mem_cons.1 hx with h | h
    · rw [h]; exact ediv_in hn rfl
    · obtain ⟨l, hl, e⟩ := List.mem_map.1 h
      have := of_decide_eq_true (List.mem_filter.1 hl).2
      rw [← e]; exact ediv_in hn this
  simpa using this
theorem free_ok {n m : Int} {E : List Lk} {c : Ed} (h : (E.filter (nearL n c)).length < m.toNat) : 0 ≤ idxB (markS n m.toNat c E) false := by
  rcases idxB_ok (markS n m.toNat c E) false with ⟨_, q⟩ | ⟨i, q, _⟩
  · rw [markS_length] at q
    have := pigeon (List.range m.toNat) ((E.filter (nearL n c)).map fun l => l.2.2.toNat) List.nodup_range fun a ha => by
      have h1 := q a (List.mem_range.1 ha)
      rw [markS_get (List.mem_range.1 ha), Bool.ne_false_iff, List.any_eq_true] at h1
      obtain ⟨l, hl, h2⟩ := h1
      rw [Bool.and_eq_true] at h2
      exact List.mem_map.2 ⟨l, List.mem_filter.2 ⟨hl, h2.1⟩, of_decide_eq_true h2.2⟩
    rw [List.length_range, List.length_map] at this
    omega
  · omega
/-- Clos: with so many middles one is free. -/
theorem clos_free {n r m : Int} {E : List Lk} {c : Ed} (hc : ClosP n r m) (hs : 2 * n - 1 ≤ m ∨ r = 1 ∧ n ≤ m) (hl : LinesOK (n * r) m E) (h1 : 0 ≤ c.1 ∧ c.1 < n * r) (hm : E.any (meets c) = false) : 0 ≤ idxB (markS n m.toNat c E) false := by
  have ne := meets_false hm
  obtain ⟨c1, c2, c3, c4⟩ := hc
  refine free_ok ?_
  rcases hs with hs | ⟨hr, hs⟩
  · have a := same_le (fun l : Lk => l.1) (a := c.1) c1.1 hl.nodI fun l hl => (ne l hl).1
    have b := same_le (fun l : Lk => l.2.1) (a := c.2) c1.1 hl.nodO fun l hl => (ne l hl).2
    have o := filter_or (fun l : Lk => decide (l.1 / n = c.1 / n)) (fun l => decide (l.2.1 / n = c.2 / n)) E
    have e : (E.filter (nearL n c)).length = (E.filter fun l : Lk => decide (l.1 / n = c.1 / n) || decide (l.2.1 / n = c.2 / n)).length := rfl
    omega
  · rw [hr, Int.mul_one] at hl h1
    have := ints_le (l := c.1 :: E.map fun l => l.1) (lo := 0) (n := n.toNat) (by
      rw [List.nodup_cons]
      refine ⟨fun h => ?_, hl.nodI⟩
      obtain ⟨l, q, e⟩ := List.mem_map.1 h
      exact (ne l q).1 e) fun x hx => by
      rcases List.mem_cons.1 hx with h | h
      · rw [h]; omega
      · obtain ⟨l, q, e⟩ := List.mem_map.1 h
        have := hl.ins l q
        rw [← e]; omega
    simp only [List.length_cons, List.length_map] at this
    have h2 := List.length_filter_le (nearL n c) E
    omega
theorem clos_step {n r m : Int} {E : List Lk} {c : Ed} (hc : ClosP n r m) (hs : 2 * n - 1 ≤ m ∨ r = 1 ∧ n ≤ m) (hl : LinesOK (n * r) m E) (h1 : 0 ≤ c.1 ∧ c.1 < n * r) : (stepL n m E c).1 ≠ -1 := by
  by_cases h0 : 0 ≤ c.2
  · cases hm : E.any (meets c) with
    | true => rw [conn_no h0 hm]; exact fun h => absurd h (by decide : (-2 : Int) ≠ -1)
    | false =>
      rw [conn_yes h0 hm]
      have := clos_free hc hs hl h1 hm
      simp only
      omega
  · unfold stepL hangF
    rw [if_neg h0]
    cases hk : lookF E c.1 with
    | none => simp
    | some l =>
      have := hl.mids _ (look_some hk)
      simp only at this ⊢
      omega
theorem clos_all {n r m : Int} {cs : List Ed} (hc : ClosP n r m) (hs : 2 * n - 1 ≤ m ∨ r = 1 ∧ n ≤ m) (h : ∀ c ∈ cs, (0 ≤ c.1 ∧ c.1 < n * r) ∧ c.2 < n * r) : (k : Nat) → k ≤ cs.length → (-1 : Int) ∉ ansTo n m cs k
  | 0, _ => by simp [ansTo]
  | k + 1, hk => by
    have hC := h _ (getD_mem cs (0, 0) (show k < cs.length by omega))
    have := clos_step (c := cs.getD k (0, 0)) hc hs (lines_ok (n := n) (m := m) h k (by omega)).1 hC.1
    rw [ansTo, List.mem_append, List.mem_singleton]
    rintro (q | q)
    · exact clos_all hc hs h k (by omega) q
    · exact this q.symm
/-! ### The first inputs, each to the last outputs -/
def diagTo (N : Int) : Nat → List Ed
  | 0 => []
  | i + 1 => diagTo N i ++ [((i : Int), N - 1 - (i : Int))]
def diagL (N : Int) (i : Nat) : List Lk := (List.range i).map fun j : Nat => ((j : Int), N - 1 - (j : Int), (j : Int))
theorem diag_length (N : Int) : (k : Nat) → (diagTo N k).length = k
  | 0 => rfl
  | k + 1 => by rw [diagTo, List.length_append, diag_length N k]; rfl
theorem diag_get (N : Int) {i : Nat} : (k : Nat) → i < k → (diagTo N k).getD i (0, 0) = ((i : Int), N - 1 - (i : Int))
  | k + 1, h => by
    have hl := diag_length N k
    rw [diagTo, List.getD_eq_getElem?_getD]
    by_cases e : i < k
    · rw [List.getElem?_append_left (by omega), ← List.getD_eq_getElem?_getD, diag_get N k e]
    · have : i = k := by omega
      subst this
      rw [List.getElem?_append_right (by omega), hl, Nat.sub_self]
      rfl
theorem diag_mem {N : Int} {c : Ed} : (k : Nat) → c ∈ diagTo N k → ∃ i : Nat, i < k ∧ c = ((i : Int), N - 1 - (i : Int))
  | 0, h => by simp [diagTo] at h
  | k + 1, h => by
    rw [diagTo, List.mem_append, List.mem_singleton] at h
    rcases h with h | h
    · obtain ⟨i, q1, q2⟩ := diag_mem k h
      exact ⟨i, by omega, q2⟩
    · exact ⟨k, by omega, h⟩
theorem diag_step {n m N : Int} (hm : 1 ≤ m) {i : Nat} (hi : (i : Int) < n) : stepL n m (diagL N (min i m.toNat)) ((i : Int), N - 1 - (i : Int)) = (if (i : Int) < m then (i : Int) else -1, diagL N (min (i + 1) m.toNat)) ∨ N - 1 - (i : Int) < 0 := by
  by_cases h0 : N - 1 - (i : Int) < 0
  · exact .inr h0
  refine .inl ?_
  have hno : (diagL N (min i m.toNat)).any (meets ((i : Int), N - 1 - (i : Int))) = false := by
    rw [List.any_eq_false]
    intro l hl
    obtain ⟨j, hj, e⟩ := List.mem_map.1 hl
    rw [List.mem_range] at hj
    rw [← e]
    simp [meets]
    omega
  rw [conn_yes (by simp only; omega) hno]
  have hmk : ∀ a, a < m.toNat → (markS n m.toNat ((i : Int), N - 1 - (i : Int)) (diagL N (min i m.toNat))).getD a false = decide (a < i) := fun a ha => by
    rw [markS_get ha, Bool.eq_iff_iff, List.any_eq_true, decide_eq_true_eq]
    constructor
    · rintro ⟨l, hl, q⟩
      obtain ⟨j, hj, e⟩ := List.mem_map.1 hl
      rw [List.mem_range] at hj
      rw [← e, Bool.and_eq_true] at q
      have := of_decide_eq_true q.2
      simp only [Int.toNat_natCast] at this
      omega
    · intro h
      refine ⟨_, List.mem_map.2 ⟨a, List.mem_range.2 (by omega), rfl⟩, ?_⟩
      rw [Bool.and_eq_true]
      refine ⟨near_true (.inl ?_), decide_eq_true (Int.toNat_natCast a)⟩
      simp only
      rw [Int.ediv_eq_zero_of_lt (by omega) (by omega), Int.ediv_eq_zero_of_lt (by omega) (by omega)]
  have hml := markS_length n m.toNat ((i : Int), N - 1 - (i : Int)) (diagL N (min i m.toNat))
  by_cases h : (i : Int) < m
  · have hid : idxB (markS n m.toNat ((i : Int), N - 1 - (i : Int)) (diagL N (min i m.toNat))) false = (i : Int) := by
      refine idxB_at (by omega) ?_ fun j hj => ?_
      · rw [hmk i (by omega)]; simp
      · rw [hmk j (by omega)]; simp; omega
    rw [hid, if_pos h, if_pos (by omega)]
    have e1 : min i m.toNat = i := by omega
    have e2 : min (i + 1) m.toNat = i + 1 := by omega
    rw [e1, e2]
    unfold diagL
    rw [List.range_succ, List.map_append]
    rfl
  · have hid : idxB (markS n m.toNat ((i : Int), N - 1 - (i : Int)) (diagL N (min i m.toNat))) false = -1 := by
      refine idxB_no fun j hj => ?_
      rw [hmk j (by omega)]
      simp; omega
    rw [hid, if_neg h, if_neg (by omega)]
    have e1 : min i m.toNat = min (i + 1) m.toNat := by omega
    rw [e1]
theorem diag_lines {n r m : Int} (hc : ClosP n r m) : (i : Nat) → i ≤ n.toNat → linesTo n m (diagTo (n * r) n.toNat) i = diagL (n * r) (min i m.toNat)
  | 0, _ => by rw [Nat.zero_min]; rfl
  | i + 1, h => by
    obtain ⟨c1, c2, c3, c4⟩ := hc
    have hnr : n * 1 ≤ n * r := Int.mul_le_mul_of_nonneg_left c2.1 (by omega)
    rw [linesTo, diag_lines ⟨c1, c2, c3, c4⟩ i (by omega), diag_get _ _ (by omega)]
    rcases diag_step (n := n) (N := n * r) c4.1 (show (i : Int) < n by omega) with q | q
    · rw [q]
    · omega
theorem diag_last {n r m : Int} (hc : ClosP n r m) : (ansTo n m (diagTo (n * r) n.toNat) n.toNat).getD (n - 1).toNat 0 = if n - 1 < m then n - 1 else -1 := by
  have hc' := hc
  obtain ⟨c1, c2, c3, c4⟩ := hc'
  have hnr : n * 1 ≤ n * r := Int.mul_le_mul_of_nonneg_left c2.1 (by omega)
  obtain ⟨k, hk⟩ : ∃ k : Nat, n.toNat = k + 1 := ⟨n.toNat - 1, by omega⟩
  have e : (n - 1).toNat = k := by omega
  have hl := diag_lines hc k (by omega)
  have hal := ansTo_length n m (diagTo (n * r) n.toNat) k
  have hg := diag_get (n * r) (i := k) n.toNat (by omega)
  have hs := diag_step (n := n) (N := n * r) c4.1 (i := k) (by omega)
  rw [← hl, ← hg] at hs
  rw [e, hk] 
  rw [hk] at hs hal
  rw [ansTo, List.getD_eq_getElem?_getD, List.getElem?_append_right (by omega), hal, Nat.sub_self]
  rcases hs with q | q
  · rw [q]
    simp only [List.getElem?_cons_zero, Option.getD_some]
    rw [show (k : Int) = n - 1 by omega]
  · omega
/-! ### Hung up and called again -/
theorem back_ok {N n m : Int} {E : List Lk} {a b v : Int} {E1 : List Lk} (hb : 0 ≤ b) (h : stepL n m E (a, b) = (v, E1)) (hv : 0 ≤ v) (_hl : LinesOK N m E) : stepL n m E1 (a, -1) = (v, E) := by
  cases hm : E.any (meets (a, b)) with
  | true => rw [conn_no hb hm] at h; simp only [Prod.mk.injEq] at h; omega
  | false =>
    rw [conn_yes hb hm] at h
    simp only [Prod.mk.injEq] at h
    obtain ⟨h1, h2⟩ := h
    rw [h1, if_pos hv] at h2
    have ne := meets_false hm
    rw [← h2]
    unfold stepL hangF
    rw [if_neg (show ¬ (0 : Int) ≤ -1 by decide)]
    have key : ∀ F : List Lk, (∀ l ∈ F, l.1 ≠ a) → lookF (F ++ [(a, b, v)]) a = some (b, v) ∧ delF (F ++ [(a, b, v)]) a = F := by
      intro F
      induction F with
      | nil => intro _; simp [lookF, delF]
      | cons x r ih =>
        intro hF
        obtain ⟨i1, i2⟩ := ih fun l hl => hF l (List.mem_cons_of_mem _ hl)
        have hx := hF x (by simp)
        obtain ⟨x1, x2⟩ := x
        simp only [List.cons_append, lookF, delF]
        rw [if_neg hx, if_neg hx, i1, i2]
        exact ⟨rfl, rfl⟩
    obtain ⟨k1, k2⟩ := key E fun l hl => (ne l hl).1
    simp only [k1, k2]
end Go.SX.Pa

/- Chapter 06, part 23: the laws PatchClos, PatchBack. -/
namespace Go.SX.Pa
open Go Go.Proofs
def callsTo (N : Int) (codes : List (Int × Int)) : Nat → List Ed
  | 0 => []
  | i + 1 => callsTo N codes i ++ [((codes.getD i (0, 0)).1 % N, (codes.getD i (0, 0)).2 % (N + 1) - 1)]
noncomputable section
@[reducible] def Byte2s (l : List (Int × Int)) : Prop := l.length ≤ maxLen ∧ ∀ c ∈ l, Byte2 c
@[reducible] def A15a (N : Int) (codes : List (Int × Int)) (top : Nat) (o : Nat) (keep : List Nat) : Ann where
  τ := Nat
  pre := []
  preC := []
  keep := keep
  slots k := [(11, .c (.int .i64 k)), (10, .c (.own o 1))]
  ents k := [(o, .row 58 tEd 0 (callsTo N codes k))]
  ok k := k ≤ codes.length ∧ k ≤ top
  m k := codes.length - k
@[reducible] def A15b (N n : Int) : Ann where
  τ := Nat
  pre := []
  preC := []
  keep := [5, 6, 7]
  slots k := [(15, .c (.int .i64 k)), (14, .c (.own 2 1))]
  ents k := [(2, .row 58 tEd 0 (diagTo N k))]
  ok k := k ≤ n.toNat
  m k := n.toNat - k
@[reducible] def p15 : PC := ⟨15, [aB3, aB2s], [aB], fun p => Byte3 p.1 ∧ Byte2s p.2, fun _ => true⟩
@[reducible] def C15 (p : (Int × Int × Int) × List (Int × Int)) : Ctx := cz [p37.ci, p20.ci, p49.ci, p34.ci, p25.ci] [(0, fun _ => A15a ((netF p.1).1 * (netF p.1).2.1) p.2 100 1 [1, 5, 6, 7, 8, 9]), (1, fun _ => A15b ((netF p.1).1 * (netF p.1).2.1) (netF p.1).1)]
def g15 (a b c : Int) (codes : List (Int × Int)) : Prop := p15.VC (C15 ((a, b, c), codes)) Tryd.f15 ((a, b, c), codes)
@[reducible] def p16 : PC := ⟨16, [aB3, aB2s, aB2], [aB], fun p => Byte3 p.1 ∧ Byte2s p.2.1 ∧ Byte2 p.2.2, fun _ => true⟩
@[reducible] def C16 (p : (Int × Int × Int) × List (Int × Int) × Int × Int) : Ctx := cz [p37.ci, p49.ci, p25.ci] [(0, fun _ => A15a ((netF p.1).1 * (netF p.1).2.1) p.2.1 90 2 [1, 5, 7, 8, 9])]
def g16 (a b c : Int) (codes : List (Int × Int)) (u v : Int) : Prop := p16.VC (C16 ((a, b, c), codes, (u, v))) Tryd.f16 ((a, b, c), codes, (u, v))
end
end Go.SX.Pa

/- Printed by VC.lean: what the executor asks. -/
namespace Go.SX.Pa
open Go Go.Proofs
theorem g15_eq (a : Int) (b : Int) (c : Int) (codes : List (Int × Int)) : g15 a b c codes = (
 (((0 : Int) ≤ a ∧ a ≤ (255 : Int)) ∧ ((0 : Int) ≤ b ∧ b ≤ (255 : Int)) ∧ (0 : Int) ≤ c ∧ c ≤ (255 : Int)) ∧
 True ∧
 (∃ (x0 : Nat),
 (x0 ≤ codes.length ∧ x0 ≤ (100 : Nat)) ∧
 ((a = a ∧ b = b ∧ c = c ∧ True) ∧ [] = callsTo ((netF (a, b, c)).fst * (netF (a, b, c)).snd.fst) codes x0 ∧ True) ∧
 (0 : Int) = (↑x0 : Int) ∧
 True ∧
 (strictF (netF (a, b, c)).fst (netF (a, b, c)).snd.fst (netF (a, b, c)).snd.snd).snd =
 (strictF (netF (a, b, c)).fst (netF (a, b, c)).snd.fst (netF (a, b, c)).snd.snd).snd ∧
 (strictF (netF (a, b, c)).fst (netF (a, b, c)).snd.fst (netF (a, b, c)).snd.snd).fst =
 (strictF (netF (a, b, c)).fst (netF (a, b, c)).snd.fst (netF (a, b, c)).snd.snd).fst ∧
 (netF (a, b, c)).snd.snd = (netF (a, b, c)).snd.snd ∧
 (netF (a, b, c)).snd.fst = (netF (a, b, c)).snd.fst ∧ (netF (a, b, c)).fst = (netF (a, b, c)).fst ∧ codes = codes ∧ True) ∧
 ∀ (x : Nat),
 x ≤ codes.length ∧ x ≤ (100 : Nat) →
 ((↑x : Int) < (↑codes.length : Int) →
 (↑x : Int) < (↑codes.length : Int) ∧
 (↑x : Int) < (↑codes.length : Int) ∧
 ((↑x : Int) < (100 : Int) →
 (↑x : Int) < (100 : Int) ∧
 (↑x : Int) < (100 : Int) ∧
 ((0 : Int) ≤ (↑x : Int) ∧ (↑x : Int) < (↑codes.length : Int)) ∧
 Fits IntKind.i64 (codes.getD (↑x : Int).toNat ((0 : Int), (0 : Int))).fst ∧
 Fits IntKind.i64 ((netF (a, b, c)).fst * (netF (a, b, c)).snd.fst) ∧
 ((0 : Int) ≤ (codes.getD (↑x : Int).toNat ((0 : Int), (0 : Int))).fst ∧ (0 : Int) < (netF (a, b, c)).fst * (netF (a, b, c)).snd.fst) ∧
 ((0 : Int) ≤ (↑x : Int) ∧ (↑x : Int) < (↑codes.length : Int)) ∧
 Fits IntKind.i64 (codes.getD (↑x : Int).toNat ((0 : Int), (0 : Int))).snd ∧
 Fits IntKind.i64 ((netF (a, b, c)).fst * (netF (a, b, c)).snd.fst) ∧
 Fits IntKind.i64 ((netF (a, b, c)).fst * (netF (a, b, c)).snd.fst + (1 : Int)) ∧
 ((0 : Int) ≤ (codes.getD (↑x : Int).toNat ((0 : Int), (0 : Int))).snd ∧
 (0 : Int) < (netF (a, b, c)).fst * (netF (a, b, c)).snd.fst + (1 : Int)) ∧
 Fits IntKind.i64
 ((codes.getD (↑x : Int).toNat ((0 : Int), (0 : Int))).snd % ((netF (a, b, c)).fst * (netF (a, b, c)).snd.fst + (1 : Int)) -
 (1 : Int)) ∧
 Small ((callsTo ((netF (a, b, c)).fst * (netF (a, b, c)).snd.fst) codes x).length + ((0 : Nat) + (1 : Nat))) ∧
 Fits IntKind.i64 ((↑x : Int) + (1 : Int)) ∧
 ∃ (x' : Nat),
 (x' ≤ codes.length ∧ x' ≤ (100 : Nat)) ∧
 codes.length - x' < codes.length - x ∧
 ((a = a ∧ b = b ∧ c = c ∧ True) ∧
 callsTo ((netF (a, b, c)).fst * (netF (a, b, c)).snd.fst) codes x ++
 [((codes.getD (↑x : Int).toNat ((0 : Int), (0 : Int))).fst % ((netF (a, b, c)).fst * (netF (a, b, c)).snd.fst),
 (codes.getD (↑x : Int).toNat ((0 : Int), (0 : Int))).snd %
 ((netF (a, b, c)).fst * (netF (a, b, c)).snd.fst + (1 : Int)) -
 (1 : Int))] =
 callsTo ((netF (a, b, c)).fst * (netF (a, b, c)).snd.fst) codes x' ∧
 True) ∧
 (↑x : Int) + (1 : Int) = (↑x' : Int) ∧
 True ∧
 (strictF (netF (a, b, c)).fst (netF (a, b, c)).snd.fst (netF (a, b, c)).snd.snd).snd =
 (strictF (netF (a, b, c)).fst (netF (a, b, c)).snd.fst (netF (a, b, c)).snd.snd).snd ∧
 (strictF (netF (a, b, c)).fst (netF (a, b, c)).snd.fst (netF (a, b, c)).snd.snd).fst =
 (strictF (netF (a, b, c)).fst (netF (a, b, c)).snd.fst (netF (a, b, c)).snd.snd).fst ∧
 (netF (a, b, c)).snd.snd = (netF (a, b, c)).snd.snd ∧
 (netF (a, b, c)).snd.fst = (netF (a, b, c)).snd.fst ∧
 (netF (a, b, c)).fst = (netF (a, b, c)).fst ∧ codes = codes ∧ True) ∧
 (¬(↑x : Int) < (100 : Int) →
 ¬(↑x : Int) < (100 : Int) ∧
 ¬(↑x : Int) < (100 : Int) ∧
 (callsTo ((netF (a, b, c)).fst * (netF (a, b, c)).snd.fst) codes x).length ≤ (1000 : Nat) ∧
 (¬(strictF (netF (a, b, c)).fst (netF (a, b, c)).snd.fst (netF (a, b, c)).snd.snd).snd = (0 : Int) →
 ¬(strictF (netF (a, b, c)).fst (netF (a, b, c)).snd.fst (netF (a, b, c)).snd.snd).snd = (0 : Int) ∧
 ¬(strictF (netF (a, b, c)).fst (netF (a, b, c)).snd.fst (netF (a, b, c)).snd.snd).snd = (0 : Int) ∧ false = true) ∧
 (¬¬(strictF (netF (a, b, c)).fst (netF (a, b, c)).snd.fst (netF (a, b, c)).snd.snd).snd = (0 : Int) →
 ¬¬(strictF (netF (a, b, c)).fst (netF (a, b, c)).snd.fst (netF (a, b, c)).snd.snd).snd = (0 : Int) ∧
 ¬¬(strictF (netF (a, b, c)).fst (netF (a, b, c)).snd.fst (netF (a, b, c)).snd.snd).snd = (0 : Int) ∧
 (¬(serveF (netF (a, b, c)).fst (netF (a, b, c)).snd.fst (netF (a, b, c)).snd.snd
 (callsTo ((netF (a, b, c)).fst * (netF (a, b, c)).snd.fst) codes x)).snd =
 (0 : Int) →
 ¬(serveF (netF (a, b, c)).fst (netF (a, b, c)).snd.fst (netF (a, b, c)).snd.snd
 (callsTo ((netF (a, b, c)).fst * (netF (a, b, c)).snd.fst) codes x)).snd =
 (0 : Int) ∧
 ¬(serveF (netF (a, b, c)).fst (netF (a, b, c)).snd.fst (netF (a, b, c)).snd.snd
 (callsTo ((netF (a, b, c)).fst * (netF (a, b, c)).snd.fst) codes x)).snd =
 (0 : Int) ∧
 ¬(serveF (netF (a, b, c)).fst (netF (a, b, c)).snd.fst (netF (a, b, c)).snd.snd
 (callsTo ((netF (a, b, c)).fst * (netF (a, b, c)).snd.fst) codes x)).snd =
 (0 : Int) ∧
 false = true) ∧
 (¬¬(serveF (netF (a, b, c)).fst (netF (a, b, c)).snd.fst (netF (a, b, c)).snd.snd
 (callsTo ((netF (a, b, c)).fst * (netF (a, b, c)).snd.fst) codes x)).snd =
 (0 : Int) →
 ¬¬(serveF (netF (a, b, c)).fst (netF (a, b, c)).snd.fst (netF (a, b, c)).snd.snd
 (callsTo ((netF (a, b, c)).fst * (netF (a, b, c)).snd.fst) codes x)).snd =
 (0 : Int) ∧
 ¬¬(serveF (netF (a, b, c)).fst (netF (a, b, c)).snd.fst (netF (a, b, c)).snd.snd
 (callsTo ((netF (a, b, c)).fst * (netF (a, b, c)).snd.fst) codes x)).snd =
 (0 : Int) ∧
 ¬¬(serveF (netF (a, b, c)).fst (netF (a, b, c)).snd.fst (netF (a, b, c)).snd.snd
 (callsTo ((netF (a, b, c)).fst * (netF (a, b, c)).snd.fst) codes x)).snd =
 (0 : Int) ∧
 (¬(↑(serveF (netF (a, b, c)).fst (netF (a, b, c)).snd.fst (netF (a, b, c)).snd.snd
 (callsTo ((netF (a, b, c)).fst * (netF (a, b, c)).snd.fst) codes x)).fst.length :
 Int) =
 (↑(callsTo ((netF (a, b, c)).fst * (netF (a, b, c)).snd.fst) codes x).length : Int) →
 ¬(↑(serveF (netF (a, b, c)).fst (netF (a, b, c)).snd.fst (netF (a, b, c)).snd.snd
 (callsTo ((netF (a, b, c)).fst * (netF (a, b, c)).snd.fst) codes x)).fst.length :
 Int) =
 (↑(callsTo ((netF (a, b, c)).fst * (netF (a, b, c)).snd.fst) codes x).length : Int) ∧
 ¬(↑(serveF (netF (a, b, c)).fst (netF (a, b, c)).snd.fst (netF (a, b, c)).snd.snd
 (callsTo ((netF (a, b, c)).fst * (netF (a, b, c)).snd.fst) codes x)).fst.length :
 Int) =
 (↑(callsTo ((netF (a, b, c)).fst * (netF (a, b, c)).snd.fst) codes x).length : Int) ∧
 ¬(↑(serveF (netF (a, b, c)).fst (netF (a, b, c)).snd.fst (netF (a, b, c)).snd.snd
 (callsTo ((netF (a, b, c)).fst * (netF (a, b, c)).snd.fst) codes x)).fst.length :
 Int) =
 (↑(callsTo ((netF (a, b, c)).fst * (netF (a, b, c)).snd.fst) codes x).length : Int) ∧
 false = true) ∧
 (¬¬(↑(serveF (netF (a, b, c)).fst (netF (a, b, c)).snd.fst (netF (a, b, c)).snd.snd
 (callsTo ((netF (a, b, c)).fst * (netF (a, b, c)).snd.fst) codes x)).fst.length :
 Int) =
 (↑(callsTo ((netF (a, b, c)).fst * (netF (a, b, c)).snd.fst) codes x).length : Int) →
 ¬¬(↑(serveF (netF (a, b, c)).fst (netF (a, b, c)).snd.fst (netF (a, b, c)).snd.snd
 (callsTo ((netF (a, b, c)).fst * (netF (a, b, c)).snd.fst) codes x)).fst.length :
 Int) =
 (↑(callsTo ((netF (a, b, c)).fst * (netF (a, b, c)).snd.fst) codes x).length : Int) ∧
 ¬¬(↑(serveF (netF (a, b, c)).fst (netF (a, b, c)).snd.fst (netF (a, b, c)).snd.snd
 (callsTo ((netF (a, b, c)).fst * (netF (a, b, c)).snd.fst) codes x)).fst.length :
 Int) =
 (↑(callsTo ((netF (a, b, c)).fst * (netF (a, b, c)).snd.fst) codes x).length : Int) ∧
 ¬¬(↑(serveF (netF (a, b, c)).fst (netF (a, b, c)).snd.fst (netF (a, b, c)).snd.snd
 (callsTo ((netF (a, b, c)).fst * (netF (a, b, c)).snd.fst) codes x)).fst.length :
 Int) =
 (↑(callsTo ((netF (a, b, c)).fst * (netF (a, b, c)).snd.fst) codes x).length : Int) ∧
 ((strictF (netF (a, b, c)).fst (netF (a, b, c)).snd.fst (netF (a, b, c)).snd.snd).fst = true →
 (strictF (netF (a, b, c)).fst (netF (a, b, c)).snd.fst (netF (a, b, c)).snd.snd).fst = true ∧
 (strictF (netF (a, b, c)).fst (netF (a, b, c)).snd.fst (netF (a, b, c)).snd.snd).fst = true ∧
 (strictF (netF (a, b, c)).fst (netF (a, b, c)).snd.fst (netF (a, b, c)).snd.snd).fst = true ∧
 (serveF (netF (a, b, c)).fst (netF (a, b, c)).snd.fst (netF (a, b, c)).snd.snd
 (callsTo ((netF (a, b, c)).fst * (netF (a, b, c)).snd.fst) codes x)).fst.length ≤
 (1000 : Nat) ∧
 (decide
 ((-1 : Int) ∈
 (serveF (netF (a, b, c)).fst (netF (a, b, c)).snd.fst (netF (a, b, c)).snd.snd
 (callsTo ((netF (a, b, c)).fst * (netF (a, b, c)).snd.fst) codes x)).fst) =
 true →
 decide
 ((-1 : Int) ∈
 (serveF (netF (a, b, c)).fst (netF (a, b, c)).snd.fst (netF (a, b, c)).snd.snd
 (callsTo ((netF (a, b, c)).fst * (netF (a, b, c)).snd.fst) codes x)).fst) =
 true ∧
 decide
 ((-1 : Int) ∈
 (serveF (netF (a, b, c)).fst (netF (a, b, c)).snd.fst (netF (a, b, c)).snd.snd
 (callsTo ((netF (a, b, c)).fst * (netF (a, b, c)).snd.fst) codes x)).fst) =
 true ∧
 decide
 ((-1 : Int) ∈
 (serveF (netF (a, b, c)).fst (netF (a, b, c)).snd.fst (netF (a, b, c)).snd.snd
 (callsTo ((netF (a, b, c)).fst * (netF (a, b, c)).snd.fst) codes x)).fst) =
 true ∧
 decide
 ((-1 : Int) ∈
 (serveF (netF (a, b, c)).fst (netF (a, b, c)).snd.fst (netF (a, b, c)).snd.snd
 (callsTo ((netF (a, b, c)).fst * (netF (a, b, c)).snd.fst) codes x)).fst) =
 true ∧
 false = true) ∧
 (decide
 ((-1 : Int) ∈
 (serveF (netF (a, b, c)).fst (netF (a, b, c)).snd.fst (netF (a, b, c)).snd.snd
 (callsTo ((netF (a, b, c)).fst * (netF (a, b, c)).snd.fst) codes x)).fst) =
 false →
 decide
 ((-1 : Int) ∈
 (serveF (netF (a, b, c)).fst (netF (a, b, c)).snd.fst (netF (a, b, c)).snd.snd
 (callsTo ((netF (a, b, c)).fst * (netF (a, b, c)).snd.fst) codes x)).fst) =
 false ∧
 decide
 ((-1 : Int) ∈
 (serveF (netF (a, b, c)).fst (netF (a, b, c)).snd.fst (netF (a, b, c)).snd.snd
 (callsTo ((netF (a, b, c)).fst * (netF (a, b, c)).snd.fst) codes x)).fst) =
 false ∧
 decide
 ((-1 : Int) ∈
 (serveF (netF (a, b, c)).fst (netF (a, b, c)).snd.fst (netF (a, b, c)).snd.snd
 (callsTo ((netF (a, b, c)).fst * (netF (a, b, c)).snd.fst) codes x)).fst) =
 false ∧
 decide
 ((-1 : Int) ∈
 (serveF (netF (a, b, c)).fst (netF (a, b, c)).snd.fst (netF (a, b, c)).snd.snd
 (callsTo ((netF (a, b, c)).fst * (netF (a, b, c)).snd.fst) codes x)).fst) =
 false ∧
 True ∧
 ((!true) = true → (!true) = true ∧ (!true) = true ∧ false = true) ∧
 ((!true) = false →
 (!true) = false ∧
 (!true) = false ∧
 (∃ (x0 : Nat),
 x0 ≤ (netF (a, b, c)).fst.toNat ∧
 ((a = a ∧ b = b ∧ c = c ∧ True) ∧
 True ∧
 [] = diagTo ((netF (a, b, c)).fst * (netF (a, b, c)).snd.fst) x0 ∧ True) ∧
 (0 : Int) = (↑x0 : Int) ∧
 True ∧
 (netF (a, b, c)).snd.snd = (netF (a, b, c)).snd.snd ∧
 (netF (a, b, c)).snd.fst = (netF (a, b, c)).snd.fst ∧
 (netF (a, b, c)).fst = (netF (a, b, c)).fst ∧ True) ∧
 ∀ (x : Nat),
 x ≤ (netF (a, b, c)).fst.toNat →
 ((↑x : Int) < (netF (a, b, c)).fst →
 (↑x : Int) < (netF (a, b, c)).fst ∧
 Fits IntKind.i64 ((netF (a, b, c)).fst * (netF (a, b, c)).snd.fst) ∧
 Fits IntKind.i64
 ((netF (a, b, c)).fst * (netF (a, b, c)).snd.fst - (1 : Int)) ∧
 Fits IntKind.i64
 ((netF (a, b, c)).fst * (netF (a, b, c)).snd.fst - (1 : Int) -
 (↑x : Int)) ∧
 Small
 ((diagTo ((netF (a, b, c)).fst * (netF (a, b, c)).snd.fst)
 x).length +
 ((0 : Nat) + (1 : Nat))) ∧
 Fits IntKind.i64 ((↑x : Int) + (1 : Int)) ∧
 ∃ (x' : Nat),
 x' ≤ (netF (a, b, c)).fst.toNat ∧
 (netF (a, b, c)).fst.toNat - x' <
 (netF (a, b, c)).fst.toNat - x ∧
 ((a = a ∧ b = b ∧ c = c ∧ True) ∧
 True ∧
 diagTo ((netF (a, b, c)).fst * (netF (a, b, c)).snd.fst)
 x ++
 [((↑x : Int),
 (netF (a, b, c)).fst *
 (netF (a, b, c)).snd.fst -
 (1 : Int) -
 (↑x : Int))] =
 diagTo
 ((netF (a, b, c)).fst * (netF (a, b, c)).snd.fst)
 x' ∧
 True) ∧
 (↑x : Int) + (1 : Int) = (↑x' : Int) ∧
 True ∧
 (netF (a, b, c)).snd.snd = (netF (a, b, c)).snd.snd ∧
 (netF (a, b, c)).snd.fst = (netF (a, b, c)).snd.fst ∧
 (netF (a, b, c)).fst = (netF (a, b, c)).fst ∧
 True) ∧
 (¬(↑x : Int) < (netF (a, b, c)).fst →
 ¬(↑x : Int) < (netF (a, b, c)).fst ∧
 (diagTo ((netF (a, b, c)).fst * (netF (a, b, c)).snd.fst) x).length ≤
 (1000 : Nat) ∧
 ((serveF (netF (a, b, c)).fst (netF (a, b, c)).snd.fst
 (netF (a, b, c)).snd.snd
 (diagTo ((netF (a, b, c)).fst * (netF (a, b, c)).snd.fst)
 x)).snd =
 (0 : Int) →
 (serveF (netF (a, b, c)).fst (netF (a, b, c)).snd.fst
 (netF (a, b, c)).snd.snd
 (diagTo ((netF (a, b, c)).fst * (netF (a, b, c)).snd.fst)
 x)).snd =
 (0 : Int) ∧
 (serveF (netF (a, b, c)).fst (netF (a, b, c)).snd.fst
 (netF (a, b, c)).snd.snd
 (diagTo ((netF (a, b, c)).fst * (netF (a, b, c)).snd.fst)
 x)).snd =
 (0 : Int) ∧
 ((↑(serveF (netF (a, b, c)).fst (netF (a, b, c)).snd.fst
 (netF (a, b, c)).snd.snd
 (diagTo
 ((netF (a, b, c)).fst * (netF (a, b, c)).snd.fst)
 x)).fst.length :
 Int) =
 (netF (a, b, c)).fst →
 (↑(serveF (netF (a, b, c)).fst (netF (a, b, c)).snd.fst
 (netF (a, b, c)).snd.snd
 (diagTo
 ((netF (a, b, c)).fst *
 (netF (a, b, c)).snd.fst)
 x)).fst.length :
 Int) =
 (netF (a, b, c)).fst ∧
 (↑(serveF (netF (a, b, c)).fst (netF (a, b, c)).snd.fst
 (netF (a, b, c)).snd.snd
 (diagTo
 ((netF (a, b, c)).fst *
 (netF (a, b, c)).snd.fst)
 x)).fst.length :
 Int) =
 (netF (a, b, c)).fst ∧
 (↑(serveF (netF (a, b, c)).fst (netF (a, b, c)).snd.fst
 (netF (a, b, c)).snd.snd
 (diagTo
 ((netF (a, b, c)).fst *
 (netF (a, b, c)).snd.fst)
 x)).fst.length :
 Int) =
 (netF (a, b, c)).fst ∧
 Fits IntKind.i64 ((netF (a, b, c)).fst - (1 : Int)) ∧
 ((0 : Int) ≤ (netF (a, b, c)).fst - (1 : Int) ∧
 (netF (a, b, c)).fst - (1 : Int) <
 (↑(serveF (netF (a, b, c)).fst
 (netF (a, b, c)).snd.fst
 (netF (a, b, c)).snd.snd
 (diagTo
 ((netF (a, b, c)).fst *
 (netF (a, b, c)).snd.fst)
 x)).fst.length :
 Int)) ∧
 decide
 (decide
 ((serveF (netF (a, b, c)).fst
 (netF (a, b, c)).snd.fst
 (netF (a, b, c)).snd.snd
 (diagTo
 ((netF (a, b, c)).fst *
 (netF (a, b, c)).snd.fst)
 x)).fst.getD
 ((netF (a, b, c)).fst - (1 : Int)).toNat
 (0 : Int) =
 (-1 : Int)) =
 decide
 ((netF (a, b, c)).snd.snd <
 (netF (a, b, c)).fst)) =
 true) ∧
 (¬(↑(serveF (netF (a, b, c)).fst (netF (a, b, c)).snd.fst
 (netF (a, b, c)).snd.snd
 (diagTo
 ((netF (a, b, c)).fst *
 (netF (a, b, c)).snd.fst)
 x)).fst.length :
 Int) =
 (netF (a, b, c)).fst →
 ¬(↑(serveF (netF (a, b, c)).fst (netF (a, b, c)).snd.fst
 (netF (a, b, c)).snd.snd
 (diagTo
 ((netF (a, b, c)).fst *
 (netF (a, b, c)).snd.fst)
 x)).fst.length :
 Int) =
 (netF (a, b, c)).fst ∧
 ¬(↑(serveF (netF (a, b, c)).fst (netF (a, b, c)).snd.fst
 (netF (a, b, c)).snd.snd
 (diagTo
 ((netF (a, b, c)).fst *
 (netF (a, b, c)).snd.fst)
 x)).fst.length :
 Int) =
 (netF (a, b, c)).fst ∧
 ¬(↑(serveF (netF (a, b, c)).fst (netF (a, b, c)).snd.fst
 (netF (a, b, c)).snd.snd
 (diagTo
 ((netF (a, b, c)).fst *
 (netF (a, b, c)).snd.fst)
 x)).fst.length :
 Int) =
 (netF (a, b, c)).fst ∧
 false = true)) ∧
 (¬(serveF (netF (a, b, c)).fst (netF (a, b, c)).snd.fst
 (netF (a, b, c)).snd.snd
 (diagTo ((netF (a, b, c)).fst * (netF (a, b, c)).snd.fst)
 x)).snd =
 (0 : Int) →
 ¬(serveF (netF (a, b, c)).fst (netF (a, b, c)).snd.fst
 (netF (a, b, c)).snd.snd
 (diagTo ((netF (a, b, c)).fst * (netF (a, b, c)).snd.fst)
 x)).snd =
 (0 : Int) ∧
 ¬(serveF (netF (a, b, c)).fst (netF (a, b, c)).snd.fst
 (netF (a, b, c)).snd.snd
 (diagTo ((netF (a, b, c)).fst * (netF (a, b, c)).snd.fst)
 x)).snd =
 (0 : Int) ∧
 false = true))))) ∧
 ((strictF (netF (a, b, c)).fst (netF (a, b, c)).snd.fst (netF (a, b, c)).snd.snd).fst = false →
 (strictF (netF (a, b, c)).fst (netF (a, b, c)).snd.fst (netF (a, b, c)).snd.snd).fst = false ∧
 (strictF (netF (a, b, c)).fst (netF (a, b, c)).snd.fst (netF (a, b, c)).snd.snd).fst = false ∧
 (strictF (netF (a, b, c)).fst (netF (a, b, c)).snd.fst (netF (a, b, c)).snd.snd).fst = false ∧
 True ∧
 ((!true) = true → (!true) = true ∧ (!true) = true ∧ false = true) ∧
 ((!true) = false →
 (!true) = false ∧
 (!true) = false ∧
 (∃ (x0 : Nat),
 x0 ≤ (netF (a, b, c)).fst.toNat ∧
 ((a = a ∧ b = b ∧ c = c ∧ True) ∧
 True ∧ [] = diagTo ((netF (a, b, c)).fst * (netF (a, b, c)).snd.fst) x0 ∧ True) ∧
 (0 : Int) = (↑x0 : Int) ∧
 True ∧
 (netF (a, b, c)).snd.snd = (netF (a, b, c)).snd.snd ∧
 (netF (a, b, c)).snd.fst = (netF (a, b, c)).snd.fst ∧
 (netF (a, b, c)).fst = (netF (a, b, c)).fst ∧ True) ∧
 ∀ (x : Nat),
 x ≤ (netF (a, b, c)).fst.toNat →
 ((↑x : Int) < (netF (a, b, c)).fst →
 (↑x : Int) < (netF (a, b, c)).fst ∧
 Fits IntKind.i64 ((netF (a, b, c)).fst * (netF (a, b, c)).snd.fst) ∧
 Fits IntKind.i64 ((netF (a, b, c)).fst * (netF (a, b, c)).snd.fst - (1 : Int)) ∧
 Fits IntKind.i64
 ((netF (a, b, c)).fst * (netF (a, b, c)).snd.fst - (1 : Int) - (↑x : Int)) ∧
 Small
 ((diagTo ((netF (a, b, c)).fst * (netF (a, b, c)).snd.fst) x).length +
 ((0 : Nat) + (1 : Nat))) ∧
 Fits IntKind.i64 ((↑x : Int) + (1 : Int)) ∧
 ∃ (x' : Nat),
 x' ≤ (netF (a, b, c)).fst.toNat ∧
 (netF (a, b, c)).fst.toNat - x' < (netF (a, b, c)).fst.toNat - x ∧
 ((a = a ∧ b = b ∧ c = c ∧ True) ∧
 True ∧
 diagTo ((netF (a, b, c)).fst * (netF (a, b, c)).snd.fst) x ++
 [((↑x : Int),
 (netF (a, b, c)).fst * (netF (a, b, c)).snd.fst -
 (1 : Int) -
 (↑x : Int))] =
 diagTo ((netF (a, b, c)).fst * (netF (a, b, c)).snd.fst) x' ∧
 True) ∧
 (↑x : Int) + (1 : Int) = (↑x' : Int) ∧
 True ∧
 (netF (a, b, c)).snd.snd = (netF (a, b, c)).snd.snd ∧
 (netF (a, b, c)).snd.fst = (netF (a, b, c)).snd.fst ∧
 (netF (a, b, c)).fst = (netF (a, b, c)).fst ∧ True) ∧
 (¬(↑x : Int) < (netF (a, b, c)).fst →
 ¬(↑x : Int) < (netF (a, b, c)).fst ∧
 (diagTo ((netF (a, b, c)).fst * (netF (a, b, c)).snd.fst) x).length ≤ (1000 : Nat) ∧
 ((serveF (netF (a, b, c)).fst (netF (a, b, c)).snd.fst (netF (a, b, c)).snd.snd
 (diagTo ((netF (a, b, c)).fst * (netF (a, b, c)).snd.fst) x)).snd =
 (0 : Int) →
 (serveF (netF (a, b, c)).fst (netF (a, b, c)).snd.fst (netF (a, b, c)).snd.snd
 (diagTo ((netF (a, b, c)).fst * (netF (a, b, c)).snd.fst) x)).snd =
 (0 : Int) ∧
 (serveF (netF (a, b, c)).fst (netF (a, b, c)).snd.fst (netF (a, b, c)).snd.snd
 (diagTo ((netF (a, b, c)).fst * (netF (a, b, c)).snd.fst) x)).snd =
 (0 : Int) ∧
 ((↑(serveF (netF (a, b, c)).fst (netF (a, b, c)).snd.fst (netF (a, b, c)).snd.snd
 (diagTo ((netF (a, b, c)).fst * (netF (a, b, c)).snd.fst)
 x)).fst.length :
 Int) =
 (netF (a, b, c)).fst →
 (↑(serveF (netF (a, b, c)).fst (netF (a, b, c)).snd.fst
 (netF (a, b, c)).snd.snd
 (diagTo ((netF (a, b, c)).fst * (netF (a, b, c)).snd.fst)
 x)).fst.length :
 Int) =
 (netF (a, b, c)).fst ∧
 (↑(serveF (netF (a, b, c)).fst (netF (a, b, c)).snd.fst
 (netF (a, b, c)).snd.snd
 (diagTo ((netF (a, b, c)).fst * (netF (a, b, c)).snd.fst)
 x)).fst.length :
 Int) =
 (netF (a, b, c)).fst ∧
 (↑(serveF (netF (a, b, c)).fst (netF (a, b, c)).snd.fst
 (netF (a, b, c)).snd.snd
 (diagTo ((netF (a, b, c)).fst * (netF (a, b, c)).snd.fst)
 x)).fst.length :
 Int) =
 (netF (a, b, c)).fst ∧
 Fits IntKind.i64 ((netF (a, b, c)).fst - (1 : Int)) ∧
 ((0 : Int) ≤ (netF (a, b, c)).fst - (1 : Int) ∧
 (netF (a, b, c)).fst - (1 : Int) <
 (↑(serveF (netF (a, b, c)).fst (netF (a, b, c)).snd.fst
 (netF (a, b, c)).snd.snd
 (diagTo
 ((netF (a, b, c)).fst * (netF (a, b, c)).snd.fst)
 x)).fst.length :
 Int)) ∧
 decide
 (decide
 ((serveF (netF (a, b, c)).fst (netF (a, b, c)).snd.fst
 (netF (a, b, c)).snd.snd
 (diagTo
 ((netF (a, b, c)).fst *
 (netF (a, b, c)).snd.fst)
 x)).fst.getD
 ((netF (a, b, c)).fst - (1 : Int)).toNat (0 : Int) =
 (-1 : Int)) =
 decide ((netF (a, b, c)).snd.snd < (netF (a, b, c)).fst)) =
 true) ∧
 (¬(↑(serveF (netF (a, b, c)).fst (netF (a, b, c)).snd.fst
 (netF (a, b, c)).snd.snd
 (diagTo ((netF (a, b, c)).fst * (netF (a, b, c)).snd.fst)
 x)).fst.length :
 Int) =
 (netF (a, b, c)).fst →
 ¬(↑(serveF (netF (a, b, c)).fst (netF (a, b, c)).snd.fst
 (netF (a, b, c)).snd.snd
 (diagTo ((netF (a, b, c)).fst * (netF (a, b, c)).snd.fst)
 x)).fst.length :
 Int) =
 (netF (a, b, c)).fst ∧
 ¬(↑(serveF (netF (a, b, c)).fst (netF (a, b, c)).snd.fst
 (netF (a, b, c)).snd.snd
 (diagTo ((netF (a, b, c)).fst * (netF (a, b, c)).snd.fst)
 x)).fst.length :
 Int) =
 (netF (a, b, c)).fst ∧
 ¬(↑(serveF (netF (a, b, c)).fst (netF (a, b, c)).snd.fst
 (netF (a, b, c)).snd.snd
 (diagTo ((netF (a, b, c)).fst * (netF (a, b, c)).snd.fst)
 x)).fst.length :
 Int) =
 (netF (a, b, c)).fst ∧
 false = true)) ∧
 (¬(serveF (netF (a, b, c)).fst (netF (a, b, c)).snd.fst (netF (a, b, c)).snd.snd
 (diagTo ((netF (a, b, c)).fst * (netF (a, b, c)).snd.fst) x)).snd =
 (0 : Int) →
 ¬(serveF (netF (a, b, c)).fst (netF (a, b, c)).snd.fst (netF (a, b, c)).snd.snd
 (diagTo ((netF (a, b, c)).fst * (netF (a, b, c)).snd.fst) x)).snd =
 (0 : Int) ∧
 ¬(serveF (netF (a, b, c)).fst (netF (a, b, c)).snd.fst (netF (a, b, c)).snd.snd
 (diagTo ((netF (a, b, c)).fst * (netF (a, b, c)).snd.fst) x)).snd =
 (0 : Int) ∧
 false = true))))))))) ∧
 (¬(↑x : Int) < (↑codes.length : Int) →
 ¬(↑x : Int) < (↑codes.length : Int) ∧
 ¬(↑x : Int) < (↑codes.length : Int) ∧
 (callsTo ((netF (a, b, c)).fst * (netF (a, b, c)).snd.fst) codes x).length ≤ (1000 : Nat) ∧
 (¬(strictF (netF (a, b, c)).fst (netF (a, b, c)).snd.fst (netF (a, b, c)).snd.snd).snd = (0 : Int) →
 ¬(strictF (netF (a, b, c)).fst (netF (a, b, c)).snd.fst (netF (a, b, c)).snd.snd).snd = (0 : Int) ∧
 ¬(strictF (netF (a, b, c)).fst (netF (a, b, c)).snd.fst (netF (a, b, c)).snd.snd).snd = (0 : Int) ∧ false = true) ∧
 (¬¬(strictF (netF (a, b, c)).fst (netF (a, b, c)).snd.fst (netF (a, b, c)).snd.snd).snd = (0 : Int) →
 ¬¬(strictF (netF (a, b, c)).fst (netF (a, b, c)).snd.fst (netF (a, b, c)).snd.snd).snd = (0 : Int) ∧
 ¬¬(strictF (netF (a, b, c)).fst (netF (a, b, c)).snd.fst (netF (a, b, c)).snd.snd).snd = (0 : Int) ∧
 (¬(serveF (netF (a, b, c)).fst (netF (a, b, c)).snd.fst (netF (a, b, c)).snd.snd
 (callsTo ((netF (a, b, c)).fst * (netF (a, b, c)).snd.fst) codes x)).snd =
 (0 : Int) →
 ¬(serveF (netF (a, b, c)).fst (netF (a, b, c)).snd.fst (netF (a, b, c)).snd.snd
 (callsTo ((netF (a, b, c)).fst * (netF (a, b, c)).snd.fst) codes x)).snd =
 (0 : Int) ∧
 ¬(serveF (netF (a, b, c)).fst (netF (a, b, c)).snd.fst (netF (a, b, c)).snd.snd
 (callsTo ((netF (a, b, c)).fst * (netF (a, b, c)).snd.fst) codes x)).snd =
 (0 : Int) ∧
 ¬(serveF (netF (a, b, c)).fst (netF (a, b, c)).snd.fst (netF (a, b, c)).snd.snd
 (callsTo ((netF (a, b, c)).fst * (netF (a, b, c)).snd.fst) codes x)).snd =
 (0 : Int) ∧
 false = true) ∧
 (¬¬(serveF (netF (a, b, c)).fst (netF (a, b, c)).snd.fst (netF (a, b, c)).snd.snd
 (callsTo ((netF (a, b, c)).fst * (netF (a, b, c)).snd.fst) codes x)).snd =
 (0 : Int) →
 ¬¬(serveF (netF (a, b, c)).fst (netF (a, b, c)).snd.fst (netF (a, b, c)).snd.snd
 (callsTo ((netF (a, b, c)).fst * (netF (a, b, c)).snd.fst) codes x)).snd =
 (0 : Int) ∧
 ¬¬(serveF (netF (a, b, c)).fst (netF (a, b, c)).snd.fst (netF (a, b, c)).snd.snd
 (callsTo ((netF (a, b, c)).fst * (netF (a, b, c)).snd.fst) codes x)).snd =
 (0 : Int) ∧
 ¬¬(serveF (netF (a, b, c)).fst (netF (a, b, c)).snd.fst (netF (a, b, c)).snd.snd
 (callsTo ((netF (a, b, c)).fst * (netF (a, b, c)).snd.fst) codes x)).snd =
 (0 : Int) ∧
 (¬(↑(serveF (netF (a, b, c)).fst (netF (a, b, c)).snd.fst (netF (a, b, c)).snd.snd
 (callsTo ((netF (a, b, c)).fst * (netF (a, b, c)).snd.fst) codes x)).fst.length :
 Int) =
 (↑(callsTo ((netF (a, b, c)).fst * (netF (a, b, c)).snd.fst) codes x).length : Int) →
 ¬(↑(serveF (netF (a, b, c)).fst (netF (a, b, c)).snd.fst (netF (a, b, c)).snd.snd
 (callsTo ((netF (a, b, c)).fst * (netF (a, b, c)).snd.fst) codes x)).fst.length :
 Int) =
 (↑(callsTo ((netF (a, b, c)).fst * (netF (a, b, c)).snd.fst) codes x).length : Int) ∧
 ¬(↑(serveF (netF (a, b, c)).fst (netF (a, b, c)).snd.fst (netF (a, b, c)).snd.snd
 (callsTo ((netF (a, b, c)).fst * (netF (a, b, c)).snd.fst) codes x)).fst.length :
 Int) =
 (↑(callsTo ((netF (a, b, c)).fst * (netF (a, b, c)).snd.fst) codes x).length : Int) ∧
 ¬(↑(serveF (netF (a, b, c)).fst (netF (a, b, c)).snd.fst (netF (a, b, c)).snd.snd
 (callsTo ((netF (a, b, c)).fst * (netF (a, b, c)).snd.fst) codes x)).fst.length :
 Int) =
 (↑(callsTo ((netF (a, b, c)).fst * (netF (a, b, c)).snd.fst) codes x).length : Int) ∧
 false = true) ∧
 (¬¬(↑(serveF (netF (a, b, c)).fst (netF (a, b, c)).snd.fst (netF (a, b, c)).snd.snd
 (callsTo ((netF (a, b, c)).fst * (netF (a, b, c)).snd.fst) codes x)).fst.length :
 Int) =
 (↑(callsTo ((netF (a, b, c)).fst * (netF (a, b, c)).snd.fst) codes x).length : Int) →
 ¬¬(↑(serveF (netF (a, b, c)).fst (netF (a, b, c)).snd.fst (netF (a, b, c)).snd.snd
 (callsTo ((netF (a, b, c)).fst * (netF (a, b, c)).snd.fst) codes x)).fst.length :
 Int) =
 (↑(callsTo ((netF (a, b, c)).fst * (netF (a, b, c)).snd.fst) codes x).length : Int) ∧
 ¬¬(↑(serveF (netF (a, b, c)).fst (netF (a, b, c)).snd.fst (netF (a, b, c)).snd.snd
 (callsTo ((netF (a, b, c)).fst * (netF (a, b, c)).snd.fst) codes x)).fst.length :
 Int) =
 (↑(callsTo ((netF (a, b, c)).fst * (netF (a, b, c)).snd.fst) codes x).length : Int) ∧
 ¬¬(↑(serveF (netF (a, b, c)).fst (netF (a, b, c)).snd.fst (netF (a, b, c)).snd.snd
 (callsTo ((netF (a, b, c)).fst * (netF (a, b, c)).snd.fst) codes x)).fst.length :
 Int) =
 (↑(callsTo ((netF (a, b, c)).fst * (netF (a, b, c)).snd.fst) codes x).length : Int) ∧
 ((strictF (netF (a, b, c)).fst (netF (a, b, c)).snd.fst (netF (a, b, c)).snd.snd).fst = true →
 (strictF (netF (a, b, c)).fst (netF (a, b, c)).snd.fst (netF (a, b, c)).snd.snd).fst = true ∧
 (strictF (netF (a, b, c)).fst (netF (a, b, c)).snd.fst (netF (a, b, c)).snd.snd).fst = true ∧
 (strictF (netF (a, b, c)).fst (netF (a, b, c)).snd.fst (netF (a, b, c)).snd.snd).fst = true ∧
 (serveF (netF (a, b, c)).fst (netF (a, b, c)).snd.fst (netF (a, b, c)).snd.snd
 (callsTo ((netF (a, b, c)).fst * (netF (a, b, c)).snd.fst) codes x)).fst.length ≤
 (1000 : Nat) ∧
 (decide
 ((-1 : Int) ∈
 (serveF (netF (a, b, c)).fst (netF (a, b, c)).snd.fst (netF (a, b, c)).snd.snd
 (callsTo ((netF (a, b, c)).fst * (netF (a, b, c)).snd.fst) codes x)).fst) =
 true →
 decide
 ((-1 : Int) ∈
 (serveF (netF (a, b, c)).fst (netF (a, b, c)).snd.fst (netF (a, b, c)).snd.snd
 (callsTo ((netF (a, b, c)).fst * (netF (a, b, c)).snd.fst) codes x)).fst) =
 true ∧
 decide
 ((-1 : Int) ∈
 (serveF (netF (a, b, c)).fst (netF (a, b, c)).snd.fst (netF (a, b, c)).snd.snd
 (callsTo ((netF (a, b, c)).fst * (netF (a, b, c)).snd.fst) codes x)).fst) =
 true ∧
 decide
 ((-1 : Int) ∈
 (serveF (netF (a, b, c)).fst (netF (a, b, c)).snd.fst (netF (a, b, c)).snd.snd
 (callsTo ((netF (a, b, c)).fst * (netF (a, b, c)).snd.fst) codes x)).fst) =
 true ∧
 decide
 ((-1 : Int) ∈
 (serveF (netF (a, b, c)).fst (netF (a, b, c)).snd.fst (netF (a, b, c)).snd.snd
 (callsTo ((netF (a, b, c)).fst * (netF (a, b, c)).snd.fst) codes x)).fst) =
 true ∧
 false = true) ∧
 (decide
 ((-1 : Int) ∈
 (serveF (netF (a, b, c)).fst (netF (a, b, c)).snd.fst (netF (a, b, c)).snd.snd
 (callsTo ((netF (a, b, c)).fst * (netF (a, b, c)).snd.fst) codes x)).fst) =
 false →
 decide
 ((-1 : Int) ∈
 (serveF (netF (a, b, c)).fst (netF (a, b, c)).snd.fst (netF (a, b, c)).snd.snd
 (callsTo ((netF (a, b, c)).fst * (netF (a, b, c)).snd.fst) codes x)).fst) =
 false ∧
 decide
 ((-1 : Int) ∈
 (serveF (netF (a, b, c)).fst (netF (a, b, c)).snd.fst (netF (a, b, c)).snd.snd
 (callsTo ((netF (a, b, c)).fst * (netF (a, b, c)).snd.fst) codes x)).fst) =
 false ∧
 decide
 ((-1 : Int) ∈
 (serveF (netF (a, b, c)).fst (netF (a, b, c)).snd.fst (netF (a, b, c)).snd.snd
 (callsTo ((netF (a, b, c)).fst * (netF (a, b, c)).snd.fst) codes x)).fst) =
 false ∧
 decide
 ((-1 : Int) ∈
 (serveF (netF (a, b, c)).fst (netF (a, b, c)).snd.fst (netF (a, b, c)).snd.snd
 (callsTo ((netF (a, b, c)).fst * (netF (a, b, c)).snd.fst) codes x)).fst) =
 false ∧
 True ∧
 ((!true) = true → (!true) = true ∧ (!true) = true ∧ false = true) ∧
 ((!true) = false →
 (!true) = false ∧
 (!true) = false ∧
 (∃ (x0 : Nat),
 x0 ≤ (netF (a, b, c)).fst.toNat ∧
 ((a = a ∧ b = b ∧ c = c ∧ True) ∧
 True ∧ [] = diagTo ((netF (a, b, c)).fst * (netF (a, b, c)).snd.fst) x0 ∧ True) ∧
 (0 : Int) = (↑x0 : Int) ∧
 True ∧
 (netF (a, b, c)).snd.snd = (netF (a, b, c)).snd.snd ∧
 (netF (a, b, c)).snd.fst = (netF (a, b, c)).snd.fst ∧
 (netF (a, b, c)).fst = (netF (a, b, c)).fst ∧ True) ∧
 ∀ (x : Nat),
 x ≤ (netF (a, b, c)).fst.toNat →
 ((↑x : Int) < (netF (a, b, c)).fst →
 (↑x : Int) < (netF (a, b, c)).fst ∧
 Fits IntKind.i64 ((netF (a, b, c)).fst * (netF (a, b, c)).snd.fst) ∧
 Fits IntKind.i64 ((netF (a, b, c)).fst * (netF (a, b, c)).snd.fst - (1 : Int)) ∧
 Fits IntKind.i64
 ((netF (a, b, c)).fst * (netF (a, b, c)).snd.fst - (1 : Int) - (↑x : Int)) ∧
 Small
 ((diagTo ((netF (a, b, c)).fst * (netF (a, b, c)).snd.fst) x).length +
 ((0 : Nat) + (1 : Nat))) ∧
 Fits IntKind.i64 ((↑x : Int) + (1 : Int)) ∧
 ∃ (x' : Nat),
 x' ≤ (netF (a, b, c)).fst.toNat ∧
 (netF (a, b, c)).fst.toNat - x' < (netF (a, b, c)).fst.toNat - x ∧
 ((a = a ∧ b = b ∧ c = c ∧ True) ∧
 True ∧
 diagTo ((netF (a, b, c)).fst * (netF (a, b, c)).snd.fst) x ++
 [((↑x : Int),
 (netF (a, b, c)).fst * (netF (a, b, c)).snd.fst -
 (1 : Int) -
 (↑x : Int))] =
 diagTo ((netF (a, b, c)).fst * (netF (a, b, c)).snd.fst)
 x' ∧
 True) ∧
 (↑x : Int) + (1 : Int) = (↑x' : Int) ∧
 True ∧
 (netF (a, b, c)).snd.snd = (netF (a, b, c)).snd.snd ∧
 (netF (a, b, c)).snd.fst = (netF (a, b, c)).snd.fst ∧
 (netF (a, b, c)).fst = (netF (a, b, c)).fst ∧ True) ∧
 (¬(↑x : Int) < (netF (a, b, c)).fst →
 ¬(↑x : Int) < (netF (a, b, c)).fst ∧
 (diagTo ((netF (a, b, c)).fst * (netF (a, b, c)).snd.fst) x).length ≤ (1000 : Nat) ∧
 ((serveF (netF (a, b, c)).fst (netF (a, b, c)).snd.fst (netF (a, b, c)).snd.snd
 (diagTo ((netF (a, b, c)).fst * (netF (a, b, c)).snd.fst) x)).snd =
 (0 : Int) →
 (serveF (netF (a, b, c)).fst (netF (a, b, c)).snd.fst (netF (a, b, c)).snd.snd
 (diagTo ((netF (a, b, c)).fst * (netF (a, b, c)).snd.fst) x)).snd =
 (0 : Int) ∧
 (serveF (netF (a, b, c)).fst (netF (a, b, c)).snd.fst (netF (a, b, c)).snd.snd
 (diagTo ((netF (a, b, c)).fst * (netF (a, b, c)).snd.fst) x)).snd =
 (0 : Int) ∧
 ((↑(serveF (netF (a, b, c)).fst (netF (a, b, c)).snd.fst
 (netF (a, b, c)).snd.snd
 (diagTo ((netF (a, b, c)).fst * (netF (a, b, c)).snd.fst)
 x)).fst.length :
 Int) =
 (netF (a, b, c)).fst →
 (↑(serveF (netF (a, b, c)).fst (netF (a, b, c)).snd.fst
 (netF (a, b, c)).snd.snd
 (diagTo ((netF (a, b, c)).fst * (netF (a, b, c)).snd.fst)
 x)).fst.length :
 Int) =
 (netF (a, b, c)).fst ∧
 (↑(serveF (netF (a, b, c)).fst (netF (a, b, c)).snd.fst
 (netF (a, b, c)).snd.snd
 (diagTo
 ((netF (a, b, c)).fst * (netF (a, b, c)).snd.fst)
 x)).fst.length :
 Int) =
 (netF (a, b, c)).fst ∧
 (↑(serveF (netF (a, b, c)).fst (netF (a, b, c)).snd.fst
 (netF (a, b, c)).snd.snd
 (diagTo
 ((netF (a, b, c)).fst * (netF (a, b, c)).snd.fst)
 x)).fst.length :
 Int) =
 (netF (a, b, c)).fst ∧
 Fits IntKind.i64 ((netF (a, b, c)).fst - (1 : Int)) ∧
 ((0 : Int) ≤ (netF (a, b, c)).fst - (1 : Int) ∧
 (netF (a, b, c)).fst - (1 : Int) <
 (↑(serveF (netF (a, b, c)).fst (netF (a, b, c)).snd.fst
 (netF (a, b, c)).snd.snd
 (diagTo
 ((netF (a, b, c)).fst *
 (netF (a, b, c)).snd.fst)
 x)).fst.length :
 Int)) ∧
 decide
 (decide
 ((serveF (netF (a, b, c)).fst (netF (a, b, c)).snd.fst
 (netF (a, b, c)).snd.snd
 (diagTo
 ((netF (a, b, c)).fst *
 (netF (a, b, c)).snd.fst)
 x)).fst.getD
 ((netF (a, b, c)).fst - (1 : Int)).toNat
 (0 : Int) =
 (-1 : Int)) =
 decide
 ((netF (a, b, c)).snd.snd < (netF (a, b, c)).fst)) =
 true) ∧
 (¬(↑(serveF (netF (a, b, c)).fst (netF (a, b, c)).snd.fst
 (netF (a, b, c)).snd.snd
 (diagTo ((netF (a, b, c)).fst * (netF (a, b, c)).snd.fst)
 x)).fst.length :
 Int) =
 (netF (a, b, c)).fst →
 ¬(↑(serveF (netF (a, b, c)).fst (netF (a, b, c)).snd.fst
 (netF (a, b, c)).snd.snd
 (diagTo
 ((netF (a, b, c)).fst * (netF (a, b, c)).snd.fst)
 x)).fst.length :
 Int) =
 (netF (a, b, c)).fst ∧
 ¬(↑(serveF (netF (a, b, c)).fst (netF (a, b, c)).snd.fst
 (netF (a, b, c)).snd.snd
 (diagTo
 ((netF (a, b, c)).fst * (netF (a, b, c)).snd.fst)
 x)).fst.length :
 Int) =
 (netF (a, b, c)).fst ∧
 ¬(↑(serveF (netF (a, b, c)).fst (netF (a, b, c)).snd.fst
 (netF (a, b, c)).snd.snd
 (diagTo
 ((netF (a, b, c)).fst * (netF (a, b, c)).snd.fst)
 x)).fst.length :
 Int) =
 (netF (a, b, c)).fst ∧
 false = true)) ∧
 (¬(serveF (netF (a, b, c)).fst (netF (a, b, c)).snd.fst (netF (a, b, c)).snd.snd
 (diagTo ((netF (a, b, c)).fst * (netF (a, b, c)).snd.fst) x)).snd =
 (0 : Int) →
 ¬(serveF (netF (a, b, c)).fst (netF (a, b, c)).snd.fst (netF (a, b, c)).snd.snd
 (diagTo ((netF (a, b, c)).fst * (netF (a, b, c)).snd.fst) x)).snd =
 (0 : Int) ∧
 ¬(serveF (netF (a, b, c)).fst (netF (a, b, c)).snd.fst
 (netF (a, b, c)).snd.snd
 (diagTo ((netF (a, b, c)).fst * (netF (a, b, c)).snd.fst) x)).snd =
 (0 : Int) ∧
 false = true))))) ∧
 ((strictF (netF (a, b, c)).fst (netF (a, b, c)).snd.fst (netF (a, b, c)).snd.snd).fst = false →
 (strictF (netF (a, b, c)).fst (netF (a, b, c)).snd.fst (netF (a, b, c)).snd.snd).fst = false ∧
 (strictF (netF (a, b, c)).fst (netF (a, b, c)).snd.fst (netF (a, b, c)).snd.snd).fst = false ∧
 (strictF (netF (a, b, c)).fst (netF (a, b, c)).snd.fst (netF (a, b, c)).snd.snd).fst = false ∧
 True ∧
 ((!true) = true → (!true) = true ∧ (!true) = true ∧ false = true) ∧
 ((!true) = false →
 (!true) = false ∧
 (!true) = false ∧
 (∃ (x0 : Nat),
 x0 ≤ (netF (a, b, c)).fst.toNat ∧
 ((a = a ∧ b = b ∧ c = c ∧ True) ∧
 True ∧ [] = diagTo ((netF (a, b, c)).fst * (netF (a, b, c)).snd.fst) x0 ∧ True) ∧
 (0 : Int) = (↑x0 : Int) ∧
 True ∧
 (netF (a, b, c)).snd.snd = (netF (a, b, c)).snd.snd ∧
 (netF (a, b, c)).snd.fst = (netF (a, b, c)).snd.fst ∧
 (netF (a, b, c)).fst = (netF (a, b, c)).fst ∧ True) ∧
 ∀ (x : Nat),
 x ≤ (netF (a, b, c)).fst.toNat →
 ((↑x : Int) < (netF (a, b, c)).fst →
 (↑x : Int) < (netF (a, b, c)).fst ∧
 Fits IntKind.i64 ((netF (a, b, c)).fst * (netF (a, b, c)).snd.fst) ∧
 Fits IntKind.i64 ((netF (a, b, c)).fst * (netF (a, b, c)).snd.fst - (1 : Int)) ∧
 Fits IntKind.i64 ((netF (a, b, c)).fst * (netF (a, b, c)).snd.fst - (1 : Int) - (↑x : Int)) ∧
 Small
 ((diagTo ((netF (a, b, c)).fst * (netF (a, b, c)).snd.fst) x).length +
 ((0 : Nat) + (1 : Nat))) ∧
 Fits IntKind.i64 ((↑x : Int) + (1 : Int)) ∧
 ∃ (x' : Nat),
 x' ≤ (netF (a, b, c)).fst.toNat ∧
 (netF (a, b, c)).fst.toNat - x' < (netF (a, b, c)).fst.toNat - x ∧
 ((a = a ∧ b = b ∧ c = c ∧ True) ∧
 True ∧
 diagTo ((netF (a, b, c)).fst * (netF (a, b, c)).snd.fst) x ++
 [((↑x : Int),
 (netF (a, b, c)).fst * (netF (a, b, c)).snd.fst - (1 : Int) -
 (↑x : Int))] =
 diagTo ((netF (a, b, c)).fst * (netF (a, b, c)).snd.fst) x' ∧
 True) ∧
 (↑x : Int) + (1 : Int) = (↑x' : Int) ∧
 True ∧
 (netF (a, b, c)).snd.snd = (netF (a, b, c)).snd.snd ∧
 (netF (a, b, c)).snd.fst = (netF (a, b, c)).snd.fst ∧
 (netF (a, b, c)).fst = (netF (a, b, c)).fst ∧ True) ∧
 (¬(↑x : Int) < (netF (a, b, c)).fst →
 ¬(↑x : Int) < (netF (a, b, c)).fst ∧
 (diagTo ((netF (a, b, c)).fst * (netF (a, b, c)).snd.fst) x).length ≤ (1000 : Nat) ∧
 ((serveF (netF (a, b, c)).fst (netF (a, b, c)).snd.fst (netF (a, b, c)).snd.snd
 (diagTo ((netF (a, b, c)).fst * (netF (a, b, c)).snd.fst) x)).snd =
 (0 : Int) →
 (serveF (netF (a, b, c)).fst (netF (a, b, c)).snd.fst (netF (a, b, c)).snd.snd
 (diagTo ((netF (a, b, c)).fst * (netF (a, b, c)).snd.fst) x)).snd =
 (0 : Int) ∧
 (serveF (netF (a, b, c)).fst (netF (a, b, c)).snd.fst (netF (a, b, c)).snd.snd
 (diagTo ((netF (a, b, c)).fst * (netF (a, b, c)).snd.fst) x)).snd =
 (0 : Int) ∧
 ((↑(serveF (netF (a, b, c)).fst (netF (a, b, c)).snd.fst (netF (a, b, c)).snd.snd
 (diagTo ((netF (a, b, c)).fst * (netF (a, b, c)).snd.fst) x)).fst.length :
 Int) =
 (netF (a, b, c)).fst →
 (↑(serveF (netF (a, b, c)).fst (netF (a, b, c)).snd.fst (netF (a, b, c)).snd.snd
 (diagTo ((netF (a, b, c)).fst * (netF (a, b, c)).snd.fst)
 x)).fst.length :
 Int) =
 (netF (a, b, c)).fst ∧
 (↑(serveF (netF (a, b, c)).fst (netF (a, b, c)).snd.fst (netF (a, b, c)).snd.snd
 (diagTo ((netF (a, b, c)).fst * (netF (a, b, c)).snd.fst)
 x)).fst.length :
 Int) =
 (netF (a, b, c)).fst ∧
 (↑(serveF (netF (a, b, c)).fst (netF (a, b, c)).snd.fst (netF (a, b, c)).snd.snd
 (diagTo ((netF (a, b, c)).fst * (netF (a, b, c)).snd.fst)
 x)).fst.length :
 Int) =
 (netF (a, b, c)).fst ∧
 Fits IntKind.i64 ((netF (a, b, c)).fst - (1 : Int)) ∧
 ((0 : Int) ≤ (netF (a, b, c)).fst - (1 : Int) ∧
 (netF (a, b, c)).fst - (1 : Int) <
 (↑(serveF (netF (a, b, c)).fst (netF (a, b, c)).snd.fst
 (netF (a, b, c)).snd.snd
 (diagTo ((netF (a, b, c)).fst * (netF (a, b, c)).snd.fst)
 x)).fst.length :
 Int)) ∧
 decide
 (decide
 ((serveF (netF (a, b, c)).fst (netF (a, b, c)).snd.fst
 (netF (a, b, c)).snd.snd
 (diagTo ((netF (a, b, c)).fst * (netF (a, b, c)).snd.fst)
 x)).fst.getD
 ((netF (a, b, c)).fst - (1 : Int)).toNat (0 : Int) =
 (-1 : Int)) =
 decide ((netF (a, b, c)).snd.snd < (netF (a, b, c)).fst)) =
 true) ∧
 (¬(↑(serveF (netF (a, b, c)).fst (netF (a, b, c)).snd.fst (netF (a, b, c)).snd.snd
 (diagTo ((netF (a, b, c)).fst * (netF (a, b, c)).snd.fst)
 x)).fst.length :
 Int) =
 (netF (a, b, c)).fst →
 ¬(↑(serveF (netF (a, b, c)).fst (netF (a, b, c)).snd.fst (netF (a, b, c)).snd.snd
 (diagTo ((netF (a, b, c)).fst * (netF (a, b, c)).snd.fst)
 x)).fst.length :
 Int) =
 (netF (a, b, c)).fst ∧
 ¬(↑(serveF (netF (a, b, c)).fst (netF (a, b, c)).snd.fst (netF (a, b, c)).snd.snd
 (diagTo ((netF (a, b, c)).fst * (netF (a, b, c)).snd.fst)
 x)).fst.length :
 Int) =
 (netF (a, b, c)).fst ∧
 ¬(↑(serveF (netF (a, b, c)).fst (netF (a, b, c)).snd.fst (netF (a, b, c)).snd.snd
 (diagTo ((netF (a, b, c)).fst * (netF (a, b, c)).snd.fst)
 x)).fst.length :
 Int) =
 (netF (a, b, c)).fst ∧
 false = true)) ∧
 (¬(serveF (netF (a, b, c)).fst (netF (a, b, c)).snd.fst (netF (a, b, c)).snd.snd
 (diagTo ((netF (a, b, c)).fst * (netF (a, b, c)).snd.fst) x)).snd =
 (0 : Int) →
 ¬(serveF (netF (a, b, c)).fst (netF (a, b, c)).snd.fst (netF (a, b, c)).snd.snd
 (diagTo ((netF (a, b, c)).fst * (netF (a, b, c)).snd.fst) x)).snd =
 (0 : Int) ∧
 ¬(serveF (netF (a, b, c)).fst (netF (a, b, c)).snd.fst (netF (a, b, c)).snd.snd
 (diagTo ((netF (a, b, c)).fst * (netF (a, b, c)).snd.fst) x)).snd =
 (0 : Int) ∧
 false = true))))))))) := by
 kernel_rfl

theorem g16_eq (a : Int) (b : Int) (c : Int) (codes : List (Int × Int)) (u : Int) (v : Int) : g16 a b c codes u v = (
 (((0 : Int) ≤ a ∧ a ≤ (255 : Int)) ∧ ((0 : Int) ≤ b ∧ b ≤ (255 : Int)) ∧ (0 : Int) ≤ c ∧ c ≤ (255 : Int)) ∧
 (∃ (x0 : Nat),
 (x0 ≤ codes.length ∧ x0 ≤ (90 : Nat)) ∧
 ((a = a ∧ b = b ∧ c = c ∧ True) ∧ (u = u ∧ v = v ∧ True) ∧ [] = callsTo ((netF (a, b, c)).fst * (netF (a, b, c)).snd.fst) codes x0 ∧ True) ∧
 (0 : Int) = (↑x0 : Int) ∧
 True ∧
 (netF (a, b, c)).snd.snd = (netF (a, b, c)).snd.snd ∧
 (netF (a, b, c)).snd.fst = (netF (a, b, c)).snd.fst ∧ (netF (a, b, c)).fst = (netF (a, b, c)).fst ∧ True ∧ codes = codes ∧ True) ∧
 ∀ (x : Nat),
 x ≤ codes.length ∧ x ≤ (90 : Nat) →
 ((↑x : Int) < (↑codes.length : Int) →
 (↑x : Int) < (↑codes.length : Int) ∧
 (↑x : Int) < (↑codes.length : Int) ∧
 ((↑x : Int) < (90 : Int) →
 (↑x : Int) < (90 : Int) ∧
 (↑x : Int) < (90 : Int) ∧
 ((0 : Int) ≤ (↑x : Int) ∧ (↑x : Int) < (↑codes.length : Int)) ∧
 Fits IntKind.i64 (codes.getD (↑x : Int).toNat ((0 : Int), (0 : Int))).fst ∧
 Fits IntKind.i64 ((netF (a, b, c)).fst * (netF (a, b, c)).snd.fst) ∧
 ((0 : Int) ≤ (codes.getD (↑x : Int).toNat ((0 : Int), (0 : Int))).fst ∧ (0 : Int) < (netF (a, b, c)).fst * (netF (a, b, c)).snd.fst) ∧
 ((0 : Int) ≤ (↑x : Int) ∧ (↑x : Int) < (↑codes.length : Int)) ∧
 Fits IntKind.i64 (codes.getD (↑x : Int).toNat ((0 : Int), (0 : Int))).snd ∧
 Fits IntKind.i64 ((netF (a, b, c)).fst * (netF (a, b, c)).snd.fst) ∧
 Fits IntKind.i64 ((netF (a, b, c)).fst * (netF (a, b, c)).snd.fst + (1 : Int)) ∧
 ((0 : Int) ≤ (codes.getD (↑x : Int).toNat ((0 : Int), (0 : Int))).snd ∧
 (0 : Int) < (netF (a, b, c)).fst * (netF (a, b, c)).snd.fst + (1 : Int)) ∧
 Fits IntKind.i64
 ((codes.getD (↑x : Int).toNat ((0 : Int), (0 : Int))).snd % ((netF (a, b, c)).fst * (netF (a, b, c)).snd.fst + (1 : Int)) -
 (1 : Int)) ∧
 Small ((callsTo ((netF (a, b, c)).fst * (netF (a, b, c)).snd.fst) codes x).length + ((0 : Nat) + (1 : Nat))) ∧
 Fits IntKind.i64 ((↑x : Int) + (1 : Int)) ∧
 ∃ (x' : Nat),
 (x' ≤ codes.length ∧ x' ≤ (90 : Nat)) ∧
 codes.length - x' < codes.length - x ∧
 ((a = a ∧ b = b ∧ c = c ∧ True) ∧
 (u = u ∧ v = v ∧ True) ∧
 callsTo ((netF (a, b, c)).fst * (netF (a, b, c)).snd.fst) codes x ++
 [((codes.getD (↑x : Int).toNat ((0 : Int), (0 : Int))).fst % ((netF (a, b, c)).fst * (netF (a, b, c)).snd.fst),
 (codes.getD (↑x : Int).toNat ((0 : Int), (0 : Int))).snd %
 ((netF (a, b, c)).fst * (netF (a, b, c)).snd.fst + (1 : Int)) -
 (1 : Int))] =
 callsTo ((netF (a, b, c)).fst * (netF (a, b, c)).snd.fst) codes x' ∧
 True) ∧
 (↑x : Int) + (1 : Int) = (↑x' : Int) ∧
 True ∧
 (netF (a, b, c)).snd.snd = (netF (a, b, c)).snd.snd ∧
 (netF (a, b, c)).snd.fst = (netF (a, b, c)).snd.fst ∧
 (netF (a, b, c)).fst = (netF (a, b, c)).fst ∧ True ∧ codes = codes ∧ True) ∧
 (¬(↑x : Int) < (90 : Int) →
 ¬(↑x : Int) < (90 : Int) ∧
 ¬(↑x : Int) < (90 : Int) ∧
 Fits IntKind.i64 u ∧
 Fits IntKind.i64 ((netF (a, b, c)).fst * (netF (a, b, c)).snd.fst) ∧
 ((0 : Int) ≤ u ∧ (0 : Int) < (netF (a, b, c)).fst * (netF (a, b, c)).snd.fst) ∧
 Fits IntKind.i64 v ∧
 Fits IntKind.i64 ((netF (a, b, c)).fst * (netF (a, b, c)).snd.fst) ∧
 ((0 : Int) ≤ v ∧ (0 : Int) < (netF (a, b, c)).fst * (netF (a, b, c)).snd.fst) ∧
 Small ((callsTo ((netF (a, b, c)).fst * (netF (a, b, c)).snd.fst) codes x).length + ((0 : Nat) + (1 : Nat) + (1 : Nat) + (1 : Nat))) ∧
 (callsTo ((netF (a, b, c)).fst * (netF (a, b, c)).snd.fst) codes x ++
 [(u % ((netF (a, b, c)).fst * (netF (a, b, c)).snd.fst), v % ((netF (a, b, c)).fst * (netF (a, b, c)).snd.fst)),
 (u % ((netF (a, b, c)).fst * (netF (a, b, c)).snd.fst), (-1 : Int)),
 (u % ((netF (a, b, c)).fst * (netF (a, b, c)).snd.fst), v % ((netF (a, b, c)).fst * (netF (a, b, c)).snd.fst))]).length ≤
 (1000 : Nat) ∧
 Fits IntKind.i64
 ((↑(callsTo ((netF (a, b, c)).fst * (netF (a, b, c)).snd.fst) codes x ++
 [(u % ((netF (a, b, c)).fst * (netF (a, b, c)).snd.fst), v % ((netF (a, b, c)).fst * (netF (a, b, c)).snd.fst)),
 (u % ((netF (a, b, c)).fst * (netF (a, b, c)).snd.fst), (-1 : Int)),
 (u % ((netF (a, b, c)).fst * (netF (a, b, c)).snd.fst), v % ((netF (a, b, c)).fst * (netF (a, b, c)).snd.fst))]).length :
 Int) -
 (3 : Int)) ∧
 (¬(serveF (netF (a, b, c)).fst (netF (a, b, c)).snd.fst (netF (a, b, c)).snd.snd
 (callsTo ((netF (a, b, c)).fst * (netF (a, b, c)).snd.fst) codes x ++
 [(u % ((netF (a, b, c)).fst * (netF (a, b, c)).snd.fst), v % ((netF (a, b, c)).fst * (netF (a, b, c)).snd.fst)),
 (u % ((netF (a, b, c)).fst * (netF (a, b, c)).snd.fst), (-1 : Int)),
 (u % ((netF (a, b, c)).fst * (netF (a, b, c)).snd.fst), v % ((netF (a, b, c)).fst * (netF (a, b, c)).snd.fst))])).snd =
 (0 : Int) →
 ¬(serveF (netF (a, b, c)).fst (netF (a, b, c)).snd.fst (netF (a, b, c)).snd.snd
 (callsTo ((netF (a, b, c)).fst * (netF (a, b, c)).snd.fst) codes x ++
 [(u % ((netF (a, b, c)).fst * (netF (a, b, c)).snd.fst), v % ((netF (a, b, c)).fst * (netF (a, b, c)).snd.fst)),
 (u % ((netF (a, b, c)).fst * (netF (a, b, c)).snd.fst), (-1 : Int)),
 (u % ((netF (a, b, c)).fst * (netF (a, b, c)).snd.fst), v % ((netF (a, b, c)).fst * (netF (a, b, c)).snd.fst))])).snd =
 (0 : Int) ∧
 ¬(serveF (netF (a, b, c)).fst (netF (a, b, c)).snd.fst (netF (a, b, c)).snd.snd
 (callsTo ((netF (a, b, c)).fst * (netF (a, b, c)).snd.fst) codes x ++
 [(u % ((netF (a, b, c)).fst * (netF (a, b, c)).snd.fst), v % ((netF (a, b, c)).fst * (netF (a, b, c)).snd.fst)),
 (u % ((netF (a, b, c)).fst * (netF (a, b, c)).snd.fst), (-1 : Int)),
 (u % ((netF (a, b, c)).fst * (netF (a, b, c)).snd.fst),
 v % ((netF (a, b, c)).fst * (netF (a, b, c)).snd.fst))])).snd =
 (0 : Int) ∧
 false = true) ∧
 (¬¬(serveF (netF (a, b, c)).fst (netF (a, b, c)).snd.fst (netF (a, b, c)).snd.snd
 (callsTo ((netF (a, b, c)).fst * (netF (a, b, c)).snd.fst) codes x ++
 [(u % ((netF (a, b, c)).fst * (netF (a, b, c)).snd.fst), v % ((netF (a, b, c)).fst * (netF (a, b, c)).snd.fst)),
 (u % ((netF (a, b, c)).fst * (netF (a, b, c)).snd.fst), (-1 : Int)),
 (u % ((netF (a, b, c)).fst * (netF (a, b, c)).snd.fst), v % ((netF (a, b, c)).fst * (netF (a, b, c)).snd.fst))])).snd =
 (0 : Int) →
 ¬¬(serveF (netF (a, b, c)).fst (netF (a, b, c)).snd.fst (netF (a, b, c)).snd.snd
 (callsTo ((netF (a, b, c)).fst * (netF (a, b, c)).snd.fst) codes x ++
 [(u % ((netF (a, b, c)).fst * (netF (a, b, c)).snd.fst), v % ((netF (a, b, c)).fst * (netF (a, b, c)).snd.fst)),
 (u % ((netF (a, b, c)).fst * (netF (a, b, c)).snd.fst), (-1 : Int)),
 (u % ((netF (a, b, c)).fst * (netF (a, b, c)).snd.fst),
 v % ((netF (a, b, c)).fst * (netF (a, b, c)).snd.fst))])).snd =
 (0 : Int) ∧
 ¬¬(serveF (netF (a, b, c)).fst (netF (a, b, c)).snd.fst (netF (a, b, c)).snd.snd
 (callsTo ((netF (a, b, c)).fst * (netF (a, b, c)).snd.fst) codes x ++
 [(u % ((netF (a, b, c)).fst * (netF (a, b, c)).snd.fst), v % ((netF (a, b, c)).fst * (netF (a, b, c)).snd.fst)),
 (u % ((netF (a, b, c)).fst * (netF (a, b, c)).snd.fst), (-1 : Int)),
 (u % ((netF (a, b, c)).fst * (netF (a, b, c)).snd.fst),
 v % ((netF (a, b, c)).fst * (netF (a, b, c)).snd.fst))])).snd =
 (0 : Int) ∧
 (¬(↑(serveF (netF (a, b, c)).fst (netF (a, b, c)).snd.fst (netF (a, b, c)).snd.snd
 (callsTo ((netF (a, b, c)).fst * (netF (a, b, c)).snd.fst) codes x ++
 [(u % ((netF (a, b, c)).fst * (netF (a, b, c)).snd.fst),
 v % ((netF (a, b, c)).fst * (netF (a, b, c)).snd.fst)),
 (u % ((netF (a, b, c)).fst * (netF (a, b, c)).snd.fst), (-1 : Int)),
 (u % ((netF (a, b, c)).fst * (netF (a, b, c)).snd.fst),
 v % ((netF (a, b, c)).fst * (netF (a, b, c)).snd.fst))])).fst.length :
 Int) =
 (↑(callsTo ((netF (a, b, c)).fst * (netF (a, b, c)).snd.fst) codes x ++
 [(u % ((netF (a, b, c)).fst * (netF (a, b, c)).snd.fst), v % ((netF (a, b, c)).fst * (netF (a, b, c)).snd.fst)),
 (u % ((netF (a, b, c)).fst * (netF (a, b, c)).snd.fst), (-1 : Int)),
 (u % ((netF (a, b, c)).fst * (netF (a, b, c)).snd.fst),
 v % ((netF (a, b, c)).fst * (netF (a, b, c)).snd.fst))]).length :
 Int) →
 ¬(↑(serveF (netF (a, b, c)).fst (netF (a, b, c)).snd.fst (netF (a, b, c)).snd.snd
 (callsTo ((netF (a, b, c)).fst * (netF (a, b, c)).snd.fst) codes x ++
 [(u % ((netF (a, b, c)).fst * (netF (a, b, c)).snd.fst),
 v % ((netF (a, b, c)).fst * (netF (a, b, c)).snd.fst)),
 (u % ((netF (a, b, c)).fst * (netF (a, b, c)).snd.fst), (-1 : Int)),
 (u % ((netF (a, b, c)).fst * (netF (a, b, c)).snd.fst),
 v % ((netF (a, b, c)).fst * (netF (a, b, c)).snd.fst))])).fst.length :
 Int) =
 (↑(callsTo ((netF (a, b, c)).fst * (netF (a, b, c)).snd.fst) codes x ++
 [(u % ((netF (a, b, c)).fst * (netF (a, b, c)).snd.fst), v % ((netF (a, b, c)).fst * (netF (a, b, c)).snd.fst)),
 (u % ((netF (a, b, c)).fst * (netF (a, b, c)).snd.fst), (-1 : Int)),
 (u % ((netF (a, b, c)).fst * (netF (a, b, c)).snd.fst),
 v % ((netF (a, b, c)).fst * (netF (a, b, c)).snd.fst))]).length :
 Int) ∧
 ¬(↑(serveF (netF (a, b, c)).fst (netF (a, b, c)).snd.fst (netF (a, b, c)).snd.snd
 (callsTo ((netF (a, b, c)).fst * (netF (a, b, c)).snd.fst) codes x ++
 [(u % ((netF (a, b, c)).fst * (netF (a, b, c)).snd.fst),
 v % ((netF (a, b, c)).fst * (netF (a, b, c)).snd.fst)),
 (u % ((netF (a, b, c)).fst * (netF (a, b, c)).snd.fst), (-1 : Int)),
 (u % ((netF (a, b, c)).fst * (netF (a, b, c)).snd.fst),
 v % ((netF (a, b, c)).fst * (netF (a, b, c)).snd.fst))])).fst.length :
 Int) =
 (↑(callsTo ((netF (a, b, c)).fst * (netF (a, b, c)).snd.fst) codes x ++
 [(u % ((netF (a, b, c)).fst * (netF (a, b, c)).snd.fst),
 v % ((netF (a, b, c)).fst * (netF (a, b, c)).snd.fst)),
 (u % ((netF (a, b, c)).fst * (netF (a, b, c)).snd.fst), (-1 : Int)),
 (u % ((netF (a, b, c)).fst * (netF (a, b, c)).snd.fst),
 v % ((netF (a, b, c)).fst * (netF (a, b, c)).snd.fst))]).length :
 Int) ∧
 ¬(↑(serveF (netF (a, b, c)).fst (netF (a, b, c)).snd.fst (netF (a, b, c)).snd.snd
 (callsTo ((netF (a, b, c)).fst * (netF (a, b, c)).snd.fst) codes x ++
 [(u % ((netF (a, b, c)).fst * (netF (a, b, c)).snd.fst),
 v % ((netF (a, b, c)).fst * (netF (a, b, c)).snd.fst)),
 (u % ((netF (a, b, c)).fst * (netF (a, b, c)).snd.fst), (-1 : Int)),
 (u % ((netF (a, b, c)).fst * (netF (a, b, c)).snd.fst),
 v % ((netF (a, b, c)).fst * (netF (a, b, c)).snd.fst))])).fst.length :
 Int) =
 (↑(callsTo ((netF (a, b, c)).fst * (netF (a, b, c)).snd.fst) codes x ++
 [(u % ((netF (a, b, c)).fst * (netF (a, b, c)).snd.fst),
 v % ((netF (a, b, c)).fst * (netF (a, b, c)).snd.fst)),
 (u % ((netF (a, b, c)).fst * (netF (a, b, c)).snd.fst), (-1 : Int)),
 (u % ((netF (a, b, c)).fst * (netF (a, b, c)).snd.fst),
 v % ((netF (a, b, c)).fst * (netF (a, b, c)).snd.fst))]).length :
 Int) ∧
 false = true) ∧
 (¬¬(↑(serveF (netF (a, b, c)).fst (netF (a, b, c)).snd.fst (netF (a, b, c)).snd.snd
 (callsTo ((netF (a, b, c)).fst * (netF (a, b, c)).snd.fst) codes x ++
 [(u % ((netF (a, b, c)).fst * (netF (a, b, c)).snd.fst),
 v % ((netF (a, b, c)).fst * (netF (a, b, c)).snd.fst)),
 (u % ((netF (a, b, c)).fst * (netF (a, b, c)).snd.fst), (-1 : Int)),
 (u % ((netF (a, b, c)).fst * (netF (a, b, c)).snd.fst),
 v % ((netF (a, b, c)).fst * (netF (a, b, c)).snd.fst))])).fst.length :
 Int) =
 (↑(callsTo ((netF (a, b, c)).fst * (netF (a, b, c)).snd.fst) codes x ++
 [(u % ((netF (a, b, c)).fst * (netF (a, b, c)).snd.fst), v % ((netF (a, b, c)).fst * (netF (a, b, c)).snd.fst)),
 (u % ((netF (a, b, c)).fst * (netF (a, b, c)).snd.fst), (-1 : Int)),
 (u % ((netF (a, b, c)).fst * (netF (a, b, c)).snd.fst),
 v % ((netF (a, b, c)).fst * (netF (a, b, c)).snd.fst))]).length :
 Int) →
 ¬¬(↑(serveF (netF (a, b, c)).fst (netF (a, b, c)).snd.fst (netF (a, b, c)).snd.snd
 (callsTo ((netF (a, b, c)).fst * (netF (a, b, c)).snd.fst) codes x ++
 [(u % ((netF (a, b, c)).fst * (netF (a, b, c)).snd.fst),
 v % ((netF (a, b, c)).fst * (netF (a, b, c)).snd.fst)),
 (u % ((netF (a, b, c)).fst * (netF (a, b, c)).snd.fst), (-1 : Int)),
 (u % ((netF (a, b, c)).fst * (netF (a, b, c)).snd.fst),
 v % ((netF (a, b, c)).fst * (netF (a, b, c)).snd.fst))])).fst.length :
 Int) =
 (↑(callsTo ((netF (a, b, c)).fst * (netF (a, b, c)).snd.fst) codes x ++
 [(u % ((netF (a, b, c)).fst * (netF (a, b, c)).snd.fst),
 v % ((netF (a, b, c)).fst * (netF (a, b, c)).snd.fst)),
 (u % ((netF (a, b, c)).fst * (netF (a, b, c)).snd.fst), (-1 : Int)),
 (u % ((netF (a, b, c)).fst * (netF (a, b, c)).snd.fst),
 v % ((netF (a, b, c)).fst * (netF (a, b, c)).snd.fst))]).length :
 Int) ∧
 ¬¬(↑(serveF (netF (a, b, c)).fst (netF (a, b, c)).snd.fst (netF (a, b, c)).snd.snd
 (callsTo ((netF (a, b, c)).fst * (netF (a, b, c)).snd.fst) codes x ++
 [(u % ((netF (a, b, c)).fst * (netF (a, b, c)).snd.fst),
 v % ((netF (a, b, c)).fst * (netF (a, b, c)).snd.fst)),
 (u % ((netF (a, b, c)).fst * (netF (a, b, c)).snd.fst), (-1 : Int)),
 (u % ((netF (a, b, c)).fst * (netF (a, b, c)).snd.fst),
 v % ((netF (a, b, c)).fst * (netF (a, b, c)).snd.fst))])).fst.length :
 Int) =
 (↑(callsTo ((netF (a, b, c)).fst * (netF (a, b, c)).snd.fst) codes x ++
 [(u % ((netF (a, b, c)).fst * (netF (a, b, c)).snd.fst),
 v % ((netF (a, b, c)).fst * (netF (a, b, c)).snd.fst)),
 (u % ((netF (a, b, c)).fst * (netF (a, b, c)).snd.fst), (-1 : Int)),
 (u % ((netF (a, b, c)).fst * (netF (a, b, c)).snd.fst),
 v % ((netF (a, b, c)).fst * (netF (a, b, c)).snd.fst))]).length :
 Int) ∧
 ¬¬(↑(serveF (netF (a, b, c)).fst (netF (a, b, c)).snd.fst (netF (a, b, c)).snd.snd
 (callsTo ((netF (a, b, c)).fst * (netF (a, b, c)).snd.fst) codes x ++
 [(u % ((netF (a, b, c)).fst * (netF (a, b, c)).snd.fst),
 v % ((netF (a, b, c)).fst * (netF (a, b, c)).snd.fst)),
 (u % ((netF (a, b, c)).fst * (netF (a, b, c)).snd.fst), (-1 : Int)),
 (u % ((netF (a, b, c)).fst * (netF (a, b, c)).snd.fst),
 v % ((netF (a, b, c)).fst * (netF (a, b, c)).snd.fst))])).fst.length :
 Int) =
 (↑(callsTo ((netF (a, b, c)).fst * (netF (a, b, c)).snd.fst) codes x ++
 [(u % ((netF (a, b, c)).fst * (netF (a, b, c)).snd.fst),
 v % ((netF (a, b, c)).fst * (netF (a, b, c)).snd.fst)),
 (u % ((netF (a, b, c)).fst * (netF (a, b, c)).snd.fst), (-1 : Int)),
 (u % ((netF (a, b, c)).fst * (netF (a, b, c)).snd.fst),
 v % ((netF (a, b, c)).fst * (netF (a, b, c)).snd.fst))]).length :
 Int) ∧
 True ∧
 ((!true) = true → (!true) = true ∧ (!true) = true ∧ false = true) ∧
 ((!true) = false →
 (!true) = false ∧
 (!true) = false ∧
 ((0 : Int) ≤
 (↑(callsTo ((netF (a, b, c)).fst * (netF (a, b, c)).snd.fst) codes x ++
 [(u % ((netF (a, b, c)).fst * (netF (a, b, c)).snd.fst),
 v % ((netF (a, b, c)).fst * (netF (a, b, c)).snd.fst)),
 (u % ((netF (a, b, c)).fst * (netF (a, b, c)).snd.fst), (-1 : Int)),
 (u % ((netF (a, b, c)).fst * (netF (a, b, c)).snd.fst),
 v % ((netF (a, b, c)).fst * (netF (a, b, c)).snd.fst))]).length :
 Int) -
 (3 : Int) ∧
 (↑(callsTo ((netF (a, b, c)).fst * (netF (a, b, c)).snd.fst) codes x ++
 [(u % ((netF (a, b, c)).fst * (netF (a, b, c)).snd.fst),
 v % ((netF (a, b, c)).fst * (netF (a, b, c)).snd.fst)),
 (u % ((netF (a, b, c)).fst * (netF (a, b, c)).snd.fst), (-1 : Int)),
 (u % ((netF (a, b, c)).fst * (netF (a, b, c)).snd.fst),
 v % ((netF (a, b, c)).fst * (netF (a, b, c)).snd.fst))]).length :
 Int) -
 (3 : Int) <
 (↑(serveF (netF (a, b, c)).fst (netF (a, b, c)).snd.fst (netF (a, b, c)).snd.snd
 (callsTo ((netF (a, b, c)).fst * (netF (a, b, c)).snd.fst) codes x ++
 [(u % ((netF (a, b, c)).fst * (netF (a, b, c)).snd.fst),
 v % ((netF (a, b, c)).fst * (netF (a, b, c)).snd.fst)),
 (u % ((netF (a, b, c)).fst * (netF (a, b, c)).snd.fst), (-1 : Int)),
 (u % ((netF (a, b, c)).fst * (netF (a, b, c)).snd.fst),
 v % ((netF (a, b, c)).fst * (netF (a, b, c)).snd.fst))])).fst.length :
 Int)) ∧
 ((serveF (netF (a, b, c)).fst (netF (a, b, c)).snd.fst (netF (a, b, c)).snd.snd
 (callsTo ((netF (a, b, c)).fst * (netF (a, b, c)).snd.fst) codes x ++
 [(u % ((netF (a, b, c)).fst * (netF (a, b, c)).snd.fst),
 v % ((netF (a, b, c)).fst * (netF (a, b, c)).snd.fst)),
 (u % ((netF (a, b, c)).fst * (netF (a, b, c)).snd.fst), (-1 : Int)),
 (u % ((netF (a, b, c)).fst * (netF (a, b, c)).snd.fst),
 v % ((netF (a, b, c)).fst * (netF (a, b, c)).snd.fst))])).fst.getD
 ((↑(callsTo ((netF (a, b, c)).fst * (netF (a, b, c)).snd.fst) codes x ++
 [(u % ((netF (a, b, c)).fst * (netF (a, b, c)).snd.fst),
 v % ((netF (a, b, c)).fst * (netF (a, b, c)).snd.fst)),
 (u % ((netF (a, b, c)).fst * (netF (a, b, c)).snd.fst), (-1 : Int)),
 (u % ((netF (a, b, c)).fst * (netF (a, b, c)).snd.fst),
 v % ((netF (a, b, c)).fst * (netF (a, b, c)).snd.fst))]).length :
 Int) -
 (3 : Int)).toNat
 (0 : Int) <
 (0 : Int) →
 (serveF (netF (a, b, c)).fst (netF (a, b, c)).snd.fst (netF (a, b, c)).snd.snd
 (callsTo ((netF (a, b, c)).fst * (netF (a, b, c)).snd.fst) codes x ++
 [(u % ((netF (a, b, c)).fst * (netF (a, b, c)).snd.fst),
 v % ((netF (a, b, c)).fst * (netF (a, b, c)).snd.fst)),
 (u % ((netF (a, b, c)).fst * (netF (a, b, c)).snd.fst), (-1 : Int)),
 (u % ((netF (a, b, c)).fst * (netF (a, b, c)).snd.fst),
 v % ((netF (a, b, c)).fst * (netF (a, b, c)).snd.fst))])).fst.getD
 ((↑(callsTo ((netF (a, b, c)).fst * (netF (a, b, c)).snd.fst) codes x ++
 [(u % ((netF (a, b, c)).fst * (netF (a, b, c)).snd.fst),
 v % ((netF (a, b, c)).fst * (netF (a, b, c)).snd.fst)),
 (u % ((netF (a, b, c)).fst * (netF (a, b, c)).snd.fst), (-1 : Int)),
 (u % ((netF (a, b, c)).fst * (netF (a, b, c)).snd.fst),
 v % ((netF (a, b, c)).fst * (netF (a, b, c)).snd.fst))]).length :
 Int) -
 (3 : Int)).toNat
 (0 : Int) <
 (0 : Int) ∧
 (serveF (netF (a, b, c)).fst (netF (a, b, c)).snd.fst (netF (a, b, c)).snd.snd
 (callsTo ((netF (a, b, c)).fst * (netF (a, b, c)).snd.fst) codes x ++
 [(u % ((netF (a, b, c)).fst * (netF (a, b, c)).snd.fst),
 v % ((netF (a, b, c)).fst * (netF (a, b, c)).snd.fst)),
 (u % ((netF (a, b, c)).fst * (netF (a, b, c)).snd.fst), (-1 : Int)),
 (u % ((netF (a, b, c)).fst * (netF (a, b, c)).snd.fst),
 v % ((netF (a, b, c)).fst * (netF (a, b, c)).snd.fst))])).fst.getD
 ((↑(callsTo ((netF (a, b, c)).fst * (netF (a, b, c)).snd.fst) codes x ++
 [(u % ((netF (a, b, c)).fst * (netF (a, b, c)).snd.fst),
 v % ((netF (a, b, c)).fst * (netF (a, b, c)).snd.fst)),
 (u % ((netF (a, b, c)).fst * (netF (a, b, c)).snd.fst), (-1 : Int)),
 (u % ((netF (a, b, c)).fst * (netF (a, b, c)).snd.fst),
 v % ((netF (a, b, c)).fst * (netF (a, b, c)).snd.fst))]).length :
 Int) -
 (3 : Int)).toNat
 (0 : Int) <
 (0 : Int) ∧
 true = true) ∧
 (¬(serveF (netF (a, b, c)).fst (netF (a, b, c)).snd.fst (netF (a, b, c)).snd.snd
 (callsTo ((netF (a, b, c)).fst * (netF (a, b, c)).snd.fst) codes x ++
 [(u % ((netF (a, b, c)).fst * (netF (a, b, c)).snd.fst),
 v % ((netF (a, b, c)).fst * (netF (a, b, c)).snd.fst)),
 (u % ((netF (a, b, c)).fst * (netF (a, b, c)).snd.fst), (-1 : Int)),
 (u % ((netF (a, b, c)).fst * (netF (a, b, c)).snd.fst),
 v % ((netF (a, b, c)).fst * (netF (a, b, c)).snd.fst))])).fst.getD
 ((↑(callsTo ((netF (a, b, c)).fst * (netF (a, b, c)).snd.fst) codes x ++
 [(u % ((netF (a, b, c)).fst * (netF (a, b, c)).snd.fst),
 v % ((netF (a, b, c)).fst * (netF (a, b, c)).snd.fst)),
 (u % ((netF (a, b, c)).fst * (netF (a, b, c)).snd.fst), (-1 : Int)),
 (u % ((netF (a, b, c)).fst * (netF (a, b, c)).snd.fst),
 v % ((netF (a, b, c)).fst * (netF (a, b, c)).snd.fst))]).length :
 Int) -
 (3 : Int)).toNat
 (0 : Int) <
 (0 : Int) →
 ¬(serveF (netF (a, b, c)).fst (netF (a, b, c)).snd.fst (netF (a, b, c)).snd.snd
 (callsTo ((netF (a, b, c)).fst * (netF (a, b, c)).snd.fst) codes x ++
 [(u % ((netF (a, b, c)).fst * (netF (a, b, c)).snd.fst),
 v % ((netF (a, b, c)).fst * (netF (a, b, c)).snd.fst)),
 (u % ((netF (a, b, c)).fst * (netF (a, b, c)).snd.fst), (-1 : Int)),
 (u % ((netF (a, b, c)).fst * (netF (a, b, c)).snd.fst),
 v % ((netF (a, b, c)).fst * (netF (a, b, c)).snd.fst))])).fst.getD
 ((↑(callsTo ((netF (a, b, c)).fst * (netF (a, b, c)).snd.fst) codes x ++
 [(u % ((netF (a, b, c)).fst * (netF (a, b, c)).snd.fst),
 v % ((netF (a, b, c)).fst * (netF (a, b, c)).snd.fst)),
 (u % ((netF (a, b, c)).fst * (netF (a, b, c)).snd.fst), (-1 : Int)),
 (u % ((netF (a, b, c)).fst * (netF (a, b, c)).snd.fst),
 v % ((netF (a, b, c)).fst * (netF (a, b, c)).snd.fst))]).length :
 Int) -
 (3 : Int)).toNat
 (0 : Int) <
 (0 : Int) ∧
 ¬(serveF (netF (a, b, c)).fst (netF (a, b, c)).snd.fst (netF (a, b, c)).snd.snd
 (callsTo ((netF (a, b, c)).fst * (netF (a, b, c)).snd.fst) codes x ++
 [(u % ((netF (a, b, c)).fst * (netF (a, b, c)).snd.fst),
 v % ((netF (a, b, c)).fst * (netF (a, b, c)).snd.fst)),
 (u % ((netF (a, b, c)).fst * (netF (a, b, c)).snd.fst), (-1 : Int)),
 (u % ((netF (a, b, c)).fst * (netF (a, b, c)).snd.fst),
 v % ((netF (a, b, c)).fst * (netF (a, b, c)).snd.fst))])).fst.getD
 ((↑(callsTo ((netF (a, b, c)).fst * (netF (a, b, c)).snd.fst) codes x ++
 [(u % ((netF (a, b, c)).fst * (netF (a, b, c)).snd.fst),
 v % ((netF (a, b, c)).fst * (netF (a, b, c)).snd.fst)),
 (u % ((netF (a, b, c)).fst * (netF (a, b, c)).snd.fst), (-1 : Int)),
 (u % ((netF (a, b, c)).fst * (netF (a, b, c)).snd.fst),
 v % ((netF (a, b, c)).fst * (netF (a, b, c)).snd.fst))]).length :
 Int) -
 (3 : Int)).toNat
 (0 : Int) <
 (0 : Int) ∧
 Fits IntKind.i64
 ((↑(callsTo ((netF (a, b, c)).fst * (netF (a, b, c)).snd.fst) codes x ++
 [(u % ((netF (a, b, c)).fst * (netF (a, b, c)).snd.fst),
 v % ((netF (a, b, c)).fst * (netF (a, b, c)).snd.fst)),
 (u % ((netF (a, b, c)).fst * (netF (a, b, c)).snd.fst), (-1 : Int)),
 (u % ((netF (a, b, c)).fst * (netF (a, b, c)).snd.fst),
 v % ((netF (a, b, c)).fst * (netF (a, b, c)).snd.fst))]).length :
 Int) -
 (3 : Int) +
 (1 : Int)) ∧
 ((0 : Int) ≤
 (↑(callsTo ((netF (a, b, c)).fst * (netF (a, b, c)).snd.fst) codes x ++
 [(u % ((netF (a, b, c)).fst * (netF (a, b, c)).snd.fst),
 v % ((netF (a, b, c)).fst * (netF (a, b, c)).snd.fst)),
 (u % ((netF (a, b, c)).fst * (netF (a, b, c)).snd.fst), (-1 : Int)),
 (u % ((netF (a, b, c)).fst * (netF (a, b, c)).snd.fst),
 v % ((netF (a, b, c)).fst * (netF (a, b, c)).snd.fst))]).length :
 Int) -
 (3 : Int) +
 (1 : Int) ∧
 (↑(callsTo ((netF (a, b, c)).fst * (netF (a, b, c)).snd.fst) codes x ++
 [(u % ((netF (a, b, c)).fst * (netF (a, b, c)).snd.fst),
 v % ((netF (a, b, c)).fst * (netF (a, b, c)).snd.fst)),
 (u % ((netF (a, b, c)).fst * (netF (a, b, c)).snd.fst), (-1 : Int)),
 (u % ((netF (a, b, c)).fst * (netF (a, b, c)).snd.fst),
 v % ((netF (a, b, c)).fst * (netF (a, b, c)).snd.fst))]).length :
 Int) -
 (3 : Int) +
 (1 : Int) <
 (↑(serveF (netF (a, b, c)).fst (netF (a, b, c)).snd.fst (netF (a, b, c)).snd.snd
 (callsTo ((netF (a, b, c)).fst * (netF (a, b, c)).snd.fst) codes x ++
 [(u % ((netF (a, b, c)).fst * (netF (a, b, c)).snd.fst),
 v % ((netF (a, b, c)).fst * (netF (a, b, c)).snd.fst)),
 (u % ((netF (a, b, c)).fst * (netF (a, b, c)).snd.fst), (-1 : Int)),
 (u % ((netF (a, b, c)).fst * (netF (a, b, c)).snd.fst),
 v % ((netF (a, b, c)).fst * (netF (a, b, c)).snd.fst))])).fst.length :
 Int)) ∧
 ((0 : Int) ≤
 (↑(callsTo ((netF (a, b, c)).fst * (netF (a, b, c)).snd.fst) codes x ++
 [(u % ((netF (a, b, c)).fst * (netF (a, b, c)).snd.fst),
 v % ((netF (a, b, c)).fst * (netF (a, b, c)).snd.fst)),
 (u % ((netF (a, b, c)).fst * (netF (a, b, c)).snd.fst), (-1 : Int)),
 (u % ((netF (a, b, c)).fst * (netF (a, b, c)).snd.fst),
 v % ((netF (a, b, c)).fst * (netF (a, b, c)).snd.fst))]).length :
 Int) -
 (3 : Int) ∧
 (↑(callsTo ((netF (a, b, c)).fst * (netF (a, b, c)).snd.fst) codes x ++
 [(u % ((netF (a, b, c)).fst * (netF (a, b, c)).snd.fst),
 v % ((netF (a, b, c)).fst * (netF (a, b, c)).snd.fst)),
 (u % ((netF (a, b, c)).fst * (netF (a, b, c)).snd.fst), (-1 : Int)),
 (u % ((netF (a, b, c)).fst * (netF (a, b, c)).snd.fst),
 v % ((netF (a, b, c)).fst * (netF (a, b, c)).snd.fst))]).length :
 Int) -
 (3 : Int) <
 (↑(serveF (netF (a, b, c)).fst (netF (a, b, c)).snd.fst (netF (a, b, c)).snd.snd
 (callsTo ((netF (a, b, c)).fst * (netF (a, b, c)).snd.fst) codes x ++
 [(u % ((netF (a, b, c)).fst * (netF (a, b, c)).snd.fst),
 v % ((netF (a, b, c)).fst * (netF (a, b, c)).snd.fst)),
 (u % ((netF (a, b, c)).fst * (netF (a, b, c)).snd.fst), (-1 : Int)),
 (u % ((netF (a, b, c)).fst * (netF (a, b, c)).snd.fst),
 v % ((netF (a, b, c)).fst * (netF (a, b, c)).snd.fst))])).fst.length :
 Int)) ∧
 ((serveF (netF (a, b, c)).fst (netF (a, b, c)).snd.fst (netF (a, b, c)).snd.snd
 (callsTo ((netF (a, b, c)).fst * (netF (a, b, c)).snd.fst) codes x ++
 [(u % ((netF (a, b, c)).fst * (netF (a, b, c)).snd.fst),
 v % ((netF (a, b, c)).fst * (netF (a, b, c)).snd.fst)),
 (u % ((netF (a, b, c)).fst * (netF (a, b, c)).snd.fst), (-1 : Int)),
 (u % ((netF (a, b, c)).fst * (netF (a, b, c)).snd.fst),
 v % ((netF (a, b, c)).fst * (netF (a, b, c)).snd.fst))])).fst.getD
 ((↑(callsTo ((netF (a, b, c)).fst * (netF (a, b, c)).snd.fst) codes x ++
 [(u % ((netF (a, b, c)).fst * (netF (a, b, c)).snd.fst),
 v % ((netF (a, b, c)).fst * (netF (a, b, c)).snd.fst)),
 (u % ((netF (a, b, c)).fst * (netF (a, b, c)).snd.fst), (-1 : Int)),
 (u % ((netF (a, b, c)).fst * (netF (a, b, c)).snd.fst),
 v % ((netF (a, b, c)).fst * (netF (a, b, c)).snd.fst))]).length :
 Int) -
 (3 : Int) +
 (1 : Int)).toNat
 (0 : Int) =
 (serveF (netF (a, b, c)).fst (netF (a, b, c)).snd.fst (netF (a, b, c)).snd.snd
 (callsTo ((netF (a, b, c)).fst * (netF (a, b, c)).snd.fst) codes x ++
 [(u % ((netF (a, b, c)).fst * (netF (a, b, c)).snd.fst),
 v % ((netF (a, b, c)).fst * (netF (a, b, c)).snd.fst)),
 (u % ((netF (a, b, c)).fst * (netF (a, b, c)).snd.fst), (-1 : Int)),
 (u % ((netF (a, b, c)).fst * (netF (a, b, c)).snd.fst),
 v % ((netF (a, b, c)).fst * (netF (a, b, c)).snd.fst))])).fst.getD
 ((↑(callsTo ((netF (a, b, c)).fst * (netF (a, b, c)).snd.fst) codes x ++
 [(u % ((netF (a, b, c)).fst * (netF (a, b, c)).snd.fst),
 v % ((netF (a, b, c)).fst * (netF (a, b, c)).snd.fst)),
 (u % ((netF (a, b, c)).fst * (netF (a, b, c)).snd.fst), (-1 : Int)),
 (u % ((netF (a, b, c)).fst * (netF (a, b, c)).snd.fst),
 v % ((netF (a, b, c)).fst * (netF (a, b, c)).snd.fst))]).length :
 Int) -
 (3 : Int)).toNat
 (0 : Int) →
 (serveF (netF (a, b, c)).fst (netF (a, b, c)).snd.fst (netF (a, b, c)).snd.snd
 (callsTo ((netF (a, b, c)).fst * (netF (a, b, c)).snd.fst) codes x ++
 [(u % ((netF (a, b, c)).fst * (netF (a, b, c)).snd.fst),
 v % ((netF (a, b, c)).fst * (netF (a, b, c)).snd.fst)),
 (u % ((netF (a, b, c)).fst * (netF (a, b, c)).snd.fst), (-1 : Int)),
 (u % ((netF (a, b, c)).fst * (netF (a, b, c)).snd.fst),
 v % ((netF (a, b, c)).fst * (netF (a, b, c)).snd.fst))])).fst.getD
 ((↑(callsTo ((netF (a, b, c)).fst * (netF (a, b, c)).snd.fst) codes x ++
 [(u % ((netF (a, b, c)).fst * (netF (a, b, c)).snd.fst),
 v % ((netF (a, b, c)).fst * (netF (a, b, c)).snd.fst)),
 (u % ((netF (a, b, c)).fst * (netF (a, b, c)).snd.fst), (-1 : Int)),
 (u % ((netF (a, b, c)).fst * (netF (a, b, c)).snd.fst),
 v % ((netF (a, b, c)).fst * (netF (a, b, c)).snd.fst))]).length :
 Int) -
 (3 : Int) +
 (1 : Int)).toNat
 (0 : Int) =
 (serveF (netF (a, b, c)).fst (netF (a, b, c)).snd.fst (netF (a, b, c)).snd.snd
 (callsTo ((netF (a, b, c)).fst * (netF (a, b, c)).snd.fst) codes x ++
 [(u % ((netF (a, b, c)).fst * (netF (a, b, c)).snd.fst),
 v % ((netF (a, b, c)).fst * (netF (a, b, c)).snd.fst)),
 (u % ((netF (a, b, c)).fst * (netF (a, b, c)).snd.fst), (-1 : Int)),
 (u % ((netF (a, b, c)).fst * (netF (a, b, c)).snd.fst),
 v % ((netF (a, b, c)).fst * (netF (a, b, c)).snd.fst))])).fst.getD
 ((↑(callsTo ((netF (a, b, c)).fst * (netF (a, b, c)).snd.fst) codes x ++
 [(u % ((netF (a, b, c)).fst * (netF (a, b, c)).snd.fst),
 v % ((netF (a, b, c)).fst * (netF (a, b, c)).snd.fst)),
 (u % ((netF (a, b, c)).fst * (netF (a, b, c)).snd.fst), (-1 : Int)),
 (u % ((netF (a, b, c)).fst * (netF (a, b, c)).snd.fst),
 v % ((netF (a, b, c)).fst * (netF (a, b, c)).snd.fst))]).length :
 Int) -
 (3 : Int)).toNat
 (0 : Int) ∧
 (serveF (netF (a, b, c)).fst (netF (a, b, c)).snd.fst (netF (a, b, c)).snd.snd
 (callsTo ((netF (a, b, c)).fst * (netF (a, b, c)).snd.fst) codes x ++
 [(u % ((netF (a, b, c)).fst * (netF (a, b, c)).snd.fst),
 v % ((netF (a, b, c)).fst * (netF (a, b, c)).snd.fst)),
 (u % ((netF (a, b, c)).fst * (netF (a, b, c)).snd.fst), (-1 : Int)),
 (u % ((netF (a, b, c)).fst * (netF (a, b, c)).snd.fst),
 v % ((netF (a, b, c)).fst * (netF (a, b, c)).snd.fst))])).fst.getD
 ((↑(callsTo ((netF (a, b, c)).fst * (netF (a, b, c)).snd.fst) codes x ++
 [(u % ((netF (a, b, c)).fst * (netF (a, b, c)).snd.fst),
 v % ((netF (a, b, c)).fst * (netF (a, b, c)).snd.fst)),
 (u % ((netF (a, b, c)).fst * (netF (a, b, c)).snd.fst),
 (-1 : Int)),
 (u % ((netF (a, b, c)).fst * (netF (a, b, c)).snd.fst),
 v %
 ((netF (a, b, c)).fst * (netF (a, b, c)).snd.fst))]).length :
 Int) -
 (3 : Int) +
 (1 : Int)).toNat
 (0 : Int) =
 (serveF (netF (a, b, c)).fst (netF (a, b, c)).snd.fst (netF (a, b, c)).snd.snd
 (callsTo ((netF (a, b, c)).fst * (netF (a, b, c)).snd.fst) codes x ++
 [(u % ((netF (a, b, c)).fst * (netF (a, b, c)).snd.fst),
 v % ((netF (a, b, c)).fst * (netF (a, b, c)).snd.fst)),
 (u % ((netF (a, b, c)).fst * (netF (a, b, c)).snd.fst), (-1 : Int)),
 (u % ((netF (a, b, c)).fst * (netF (a, b, c)).snd.fst),
 v % ((netF (a, b, c)).fst * (netF (a, b, c)).snd.fst))])).fst.getD
 ((↑(callsTo ((netF (a, b, c)).fst * (netF (a, b, c)).snd.fst) codes x ++
 [(u % ((netF (a, b, c)).fst * (netF (a, b, c)).snd.fst),
 v % ((netF (a, b, c)).fst * (netF (a, b, c)).snd.fst)),
 (u % ((netF (a, b, c)).fst * (netF (a, b, c)).snd.fst), (-1 : Int)),
 (u % ((netF (a, b, c)).fst * (netF (a, b, c)).snd.fst),
 v % ((netF (a, b, c)).fst * (netF (a, b, c)).snd.fst))]).length :
 Int) -
 (3 : Int)).toNat
 (0 : Int) ∧
 Fits IntKind.i64
 ((↑(callsTo ((netF (a, b, c)).fst * (netF (a, b, c)).snd.fst) codes x ++
 [(u % ((netF (a, b, c)).fst * (netF (a, b, c)).snd.fst),
 v % ((netF (a, b, c)).fst * (netF (a, b, c)).snd.fst)),
 (u % ((netF (a, b, c)).fst * (netF (a, b, c)).snd.fst), (-1 : Int)),
 (u % ((netF (a, b, c)).fst * (netF (a, b, c)).snd.fst),
 v % ((netF (a, b, c)).fst * (netF (a, b, c)).snd.fst))]).length :
 Int) -
 (3 : Int) +
 (2 : Int)) ∧
 ((0 : Int) ≤
 (↑(callsTo ((netF (a, b, c)).fst * (netF (a, b, c)).snd.fst) codes x ++
 [(u % ((netF (a, b, c)).fst * (netF (a, b, c)).snd.fst),
 v % ((netF (a, b, c)).fst * (netF (a, b, c)).snd.fst)),
 (u % ((netF (a, b, c)).fst * (netF (a, b, c)).snd.fst),
 (-1 : Int)),
 (u % ((netF (a, b, c)).fst * (netF (a, b, c)).snd.fst),
 v %
 ((netF (a, b, c)).fst *
 (netF (a, b, c)).snd.fst))]).length :
 Int) -
 (3 : Int) +
 (2 : Int) ∧
 (↑(callsTo ((netF (a, b, c)).fst * (netF (a, b, c)).snd.fst) codes x ++
 [(u % ((netF (a, b, c)).fst * (netF (a, b, c)).snd.fst),
 v % ((netF (a, b, c)).fst * (netF (a, b, c)).snd.fst)),
 (u % ((netF (a, b, c)).fst * (netF (a, b, c)).snd.fst),
 (-1 : Int)),
 (u % ((netF (a, b, c)).fst * (netF (a, b, c)).snd.fst),
 v %
 ((netF (a, b, c)).fst *
 (netF (a, b, c)).snd.fst))]).length :
 Int) -
 (3 : Int) +
 (2 : Int) <
 (↑(serveF (netF (a, b, c)).fst (netF (a, b, c)).snd.fst
 (netF (a, b, c)).snd.snd
 (callsTo ((netF (a, b, c)).fst * (netF (a, b, c)).snd.fst) codes
 x ++
 [(u % ((netF (a, b, c)).fst * (netF (a, b, c)).snd.fst),
 v % ((netF (a, b, c)).fst * (netF (a, b, c)).snd.fst)),
 (u % ((netF (a, b, c)).fst * (netF (a, b, c)).snd.fst),
 (-1 : Int)),
 (u % ((netF (a, b, c)).fst * (netF (a, b, c)).snd.fst),
 v %
 ((netF (a, b, c)).fst *
 (netF (a, b, c)).snd.fst))])).fst.length :
 Int)) ∧
 ((0 : Int) ≤
 (↑(callsTo ((netF (a, b, c)).fst * (netF (a, b, c)).snd.fst) codes x ++
 [(u % ((netF (a, b, c)).fst * (netF (a, b, c)).snd.fst),
 v % ((netF (a, b, c)).fst * (netF (a, b, c)).snd.fst)),
 (u % ((netF (a, b, c)).fst * (netF (a, b, c)).snd.fst),
 (-1 : Int)),
 (u % ((netF (a, b, c)).fst * (netF (a, b, c)).snd.fst),
 v %
 ((netF (a, b, c)).fst *
 (netF (a, b, c)).snd.fst))]).length :
 Int) -
 (3 : Int) ∧
 (↑(callsTo ((netF (a, b, c)).fst * (netF (a, b, c)).snd.fst) codes x ++
 [(u % ((netF (a, b, c)).fst * (netF (a, b, c)).snd.fst),
 v % ((netF (a, b, c)).fst * (netF (a, b, c)).snd.fst)),
 (u % ((netF (a, b, c)).fst * (netF (a, b, c)).snd.fst),
 (-1 : Int)),
 (u % ((netF (a, b, c)).fst * (netF (a, b, c)).snd.fst),
 v %
 ((netF (a, b, c)).fst *
 (netF (a, b, c)).snd.fst))]).length :
 Int) -
 (3 : Int) <
 (↑(serveF (netF (a, b, c)).fst (netF (a, b, c)).snd.fst
 (netF (a, b, c)).snd.snd
 (callsTo ((netF (a, b, c)).fst * (netF (a, b, c)).snd.fst) codes
 x ++
 [(u % ((netF (a, b, c)).fst * (netF (a, b, c)).snd.fst),
 v % ((netF (a, b, c)).fst * (netF (a, b, c)).snd.fst)),
 (u % ((netF (a, b, c)).fst * (netF (a, b, c)).snd.fst),
 (-1 : Int)),
 (u % ((netF (a, b, c)).fst * (netF (a, b, c)).snd.fst),
 v %
 ((netF (a, b, c)).fst *
 (netF (a, b, c)).snd.fst))])).fst.length :
 Int)) ∧
 decide
 ((serveF (netF (a, b, c)).fst (netF (a, b, c)).snd.fst
 (netF (a, b, c)).snd.snd
 (callsTo ((netF (a, b, c)).fst * (netF (a, b, c)).snd.fst) codes
 x ++
 [(u % ((netF (a, b, c)).fst * (netF (a, b, c)).snd.fst),
 v % ((netF (a, b, c)).fst * (netF (a, b, c)).snd.fst)),
 (u % ((netF (a, b, c)).fst * (netF (a, b, c)).snd.fst),
 (-1 : Int)),
 (u % ((netF (a, b, c)).fst * (netF (a, b, c)).snd.fst),
 v %
 ((netF (a, b, c)).fst *
 (netF (a, b, c)).snd.fst))])).fst.getD
 ((↑(callsTo ((netF (a, b, c)).fst * (netF (a, b, c)).snd.fst) codes x ++
 [(u % ((netF (a, b, c)).fst * (netF (a, b, c)).snd.fst),
 v %
 ((netF (a, b, c)).fst * (netF (a, b, c)).snd.fst)),
 (u % ((netF (a, b, c)).fst * (netF (a, b, c)).snd.fst),
 (-1 : Int)),
 (u % ((netF (a, b, c)).fst * (netF (a, b, c)).snd.fst),
 v %
 ((netF (a, b, c)).fst *
 (netF (a, b, c)).snd.fst))]).length :
 Int) -
 (3 : Int) +
 (2 : Int)).toNat
 (0 : Int) =
 (serveF (netF (a, b, c)).fst (netF (a, b, c)).snd.fst
 (netF (a, b, c)).snd.snd
 (callsTo ((netF (a, b, c)).fst * (netF (a, b, c)).snd.fst) codes
 x ++
 [(u % ((netF (a, b, c)).fst * (netF (a, b, c)).snd.fst),
 v % ((netF (a, b, c)).fst * (netF (a, b, c)).snd.fst)),
 (u % ((netF (a, b, c)).fst * (netF (a, b, c)).snd.fst),
 (-1 : Int)),
 (u % ((netF (a, b, c)).fst * (netF (a, b, c)).snd.fst),
 v %
 ((netF (a, b, c)).fst *
 (netF (a, b, c)).snd.fst))])).fst.getD
 ((↑(callsTo ((netF (a, b, c)).fst * (netF (a, b, c)).snd.fst) codes x ++
 [(u % ((netF (a, b, c)).fst * (netF (a, b, c)).snd.fst),
 v % ((netF (a, b, c)).fst * (netF (a, b, c)).snd.fst)),
 (u % ((netF (a, b, c)).fst * (netF (a, b, c)).snd.fst),
 (-1 : Int)),
 (u % ((netF (a, b, c)).fst * (netF (a, b, c)).snd.fst),
 v %
 ((netF (a, b, c)).fst *
 (netF (a, b, c)).snd.fst))]).length :
 Int) -
 (3 : Int)).toNat
 (0 : Int)) =
 true) ∧
 (¬(serveF (netF (a, b, c)).fst (netF (a, b, c)).snd.fst (netF (a, b, c)).snd.snd
 (callsTo ((netF (a, b, c)).fst * (netF (a, b, c)).snd.fst) codes x ++
 [(u % ((netF (a, b, c)).fst * (netF (a, b, c)).snd.fst),
 v % ((netF (a, b, c)).fst * (netF (a, b, c)).snd.fst)),
 (u % ((netF (a, b, c)).fst * (netF (a, b, c)).snd.fst), (-1 : Int)),
 (u % ((netF (a, b, c)).fst * (netF (a, b, c)).snd.fst),
 v % ((netF (a, b, c)).fst * (netF (a, b, c)).snd.fst))])).fst.getD
 ((↑(callsTo ((netF (a, b, c)).fst * (netF (a, b, c)).snd.fst) codes x ++
 [(u % ((netF (a, b, c)).fst * (netF (a, b, c)).snd.fst),
 v % ((netF (a, b, c)).fst * (netF (a, b, c)).snd.fst)),
 (u % ((netF (a, b, c)).fst * (netF (a, b, c)).snd.fst), (-1 : Int)),
 (u % ((netF (a, b, c)).fst * (netF (a, b, c)).snd.fst),
 v % ((netF (a, b, c)).fst * (netF (a, b, c)).snd.fst))]).length :
 Int) -
 (3 : Int) +
 (1 : Int)).toNat
 (0 : Int) =
 (serveF (netF (a, b, c)).fst (netF (a, b, c)).snd.fst (netF (a, b, c)).snd.snd
 (callsTo ((netF (a, b, c)).fst * (netF (a, b, c)).snd.fst) codes x ++
 [(u % ((netF (a, b, c)).fst * (netF (a, b, c)).snd.fst),
 v % ((netF (a, b, c)).fst * (netF (a, b, c)).snd.fst)),
 (u % ((netF (a, b, c)).fst * (netF (a, b, c)).snd.fst), (-1 : Int)),
 (u % ((netF (a, b, c)).fst * (netF (a, b, c)).snd.fst),
 v % ((netF (a, b, c)).fst * (netF (a, b, c)).snd.fst))])).fst.getD
 ((↑(callsTo ((netF (a, b, c)).fst * (netF (a, b, c)).snd.fst) codes x ++
 [(u % ((netF (a, b, c)).fst * (netF (a, b, c)).snd.fst),
 v % ((netF (a, b, c)).fst * (netF (a, b, c)).snd.fst)),
 (u % ((netF (a, b, c)).fst * (netF (a, b, c)).snd.fst), (-1 : Int)),
 (u % ((netF (a, b, c)).fst * (netF (a, b, c)).snd.fst),
 v % ((netF (a, b, c)).fst * (netF (a, b, c)).snd.fst))]).length :
 Int) -
 (3 : Int)).toNat
 (0 : Int) →
 ¬(serveF (netF (a, b, c)).fst (netF (a, b, c)).snd.fst (netF (a, b, c)).snd.snd
 (callsTo ((netF (a, b, c)).fst * (netF (a, b, c)).snd.fst) codes x ++
 [(u % ((netF (a, b, c)).fst * (netF (a, b, c)).snd.fst),
 v % ((netF (a, b, c)).fst * (netF (a, b, c)).snd.fst)),
 (u % ((netF (a, b, c)).fst * (netF (a, b, c)).snd.fst), (-1 : Int)),
 (u % ((netF (a, b, c)).fst * (netF (a, b, c)).snd.fst),
 v % ((netF (a, b, c)).fst * (netF (a, b, c)).snd.fst))])).fst.getD
 ((↑(callsTo ((netF (a, b, c)).fst * (netF (a, b, c)).snd.fst) codes x ++
 [(u % ((netF (a, b, c)).fst * (netF (a, b, c)).snd.fst),
 v % ((netF (a, b, c)).fst * (netF (a, b, c)).snd.fst)),
 (u % ((netF (a, b, c)).fst * (netF (a, b, c)).snd.fst),
 (-1 : Int)),
 (u % ((netF (a, b, c)).fst * (netF (a, b, c)).snd.fst),
 v %
 ((netF (a, b, c)).fst * (netF (a, b, c)).snd.fst))]).length :
 Int) -
 (3 : Int) +
 (1 : Int)).toNat
 (0 : Int) =
 (serveF (netF (a, b, c)).fst (netF (a, b, c)).snd.fst (netF (a, b, c)).snd.snd
 (callsTo ((netF (a, b, c)).fst * (netF (a, b, c)).snd.fst) codes x ++
 [(u % ((netF (a, b, c)).fst * (netF (a, b, c)).snd.fst),
 v % ((netF (a, b, c)).fst * (netF (a, b, c)).snd.fst)),
 (u % ((netF (a, b, c)).fst * (netF (a, b, c)).snd.fst), (-1 : Int)),
 (u % ((netF (a, b, c)).fst * (netF (a, b, c)).snd.fst),
 v % ((netF (a, b, c)).fst * (netF (a, b, c)).snd.fst))])).fst.getD
 ((↑(callsTo ((netF (a, b, c)).fst * (netF (a, b, c)).snd.fst) codes x ++
 [(u % ((netF (a, b, c)).fst * (netF (a, b, c)).snd.fst),
 v % ((netF (a, b, c)).fst * (netF (a, b, c)).snd.fst)),
 (u % ((netF (a, b, c)).fst * (netF (a, b, c)).snd.fst), (-1 : Int)),
 (u % ((netF (a, b, c)).fst * (netF (a, b, c)).snd.fst),
 v % ((netF (a, b, c)).fst * (netF (a, b, c)).snd.fst))]).length :
 Int) -
 (3 : Int)).toNat
 (0 : Int) ∧
 ¬(serveF (netF (a, b, c)).fst (netF (a, b, c)).snd.fst (netF (a, b, c)).snd.snd
 (callsTo ((netF (a, b, c)).fst * (netF (a, b, c)).snd.fst) codes x ++
 [(u % ((netF (a, b, c)).fst * (netF (a, b, c)).snd.fst),
 v % ((netF (a, b, c)).fst * (netF (a, b, c)).snd.fst)),
 (u % ((netF (a, b, c)).fst * (netF (a, b, c)).snd.fst), (-1 : Int)),
 (u % ((netF (a, b, c)).fst * (netF (a, b, c)).snd.fst),
 v % ((netF (a, b, c)).fst * (netF (a, b, c)).snd.fst))])).fst.getD
 ((↑(callsTo ((netF (a, b, c)).fst * (netF (a, b, c)).snd.fst) codes x ++
 [(u % ((netF (a, b, c)).fst * (netF (a, b, c)).snd.fst),
 v % ((netF (a, b, c)).fst * (netF (a, b, c)).snd.fst)),
 (u % ((netF (a, b, c)).fst * (netF (a, b, c)).snd.fst),
 (-1 : Int)),
 (u % ((netF (a, b, c)).fst * (netF (a, b, c)).snd.fst),
 v %
 ((netF (a, b, c)).fst *
 (netF (a, b, c)).snd.fst))]).length :
 Int) -
 (3 : Int) +
 (1 : Int)).toNat
 (0 : Int) =
 (serveF (netF (a, b, c)).fst (netF (a, b, c)).snd.fst (netF (a, b, c)).snd.snd
 (callsTo ((netF (a, b, c)).fst * (netF (a, b, c)).snd.fst) codes x ++
 [(u % ((netF (a, b, c)).fst * (netF (a, b, c)).snd.fst),
 v % ((netF (a, b, c)).fst * (netF (a, b, c)).snd.fst)),
 (u % ((netF (a, b, c)).fst * (netF (a, b, c)).snd.fst), (-1 : Int)),
 (u % ((netF (a, b, c)).fst * (netF (a, b, c)).snd.fst),
 v % ((netF (a, b, c)).fst * (netF (a, b, c)).snd.fst))])).fst.getD
 ((↑(callsTo ((netF (a, b, c)).fst * (netF (a, b, c)).snd.fst) codes x ++
 [(u % ((netF (a, b, c)).fst * (netF (a, b, c)).snd.fst),
 v % ((netF (a, b, c)).fst * (netF (a, b, c)).snd.fst)),
 (u % ((netF (a, b, c)).fst * (netF (a, b, c)).snd.fst),
 (-1 : Int)),
 (u % ((netF (a, b, c)).fst * (netF (a, b, c)).snd.fst),
 v %
 ((netF (a, b, c)).fst * (netF (a, b, c)).snd.fst))]).length :
 Int) -
 (3 : Int)).toNat
 (0 : Int) ∧
 false = true))))))) ∧
 (¬(↑x : Int) < (↑codes.length : Int) →
 ¬(↑x : Int) < (↑codes.length : Int) ∧
 ¬(↑x : Int) < (↑codes.length : Int) ∧
 Fits IntKind.i64 u ∧
 Fits IntKind.i64 ((netF (a, b, c)).fst * (netF (a, b, c)).snd.fst) ∧
 ((0 : Int) ≤ u ∧ (0 : Int) < (netF (a, b, c)).fst * (netF (a, b, c)).snd.fst) ∧
 Fits IntKind.i64 v ∧
 Fits IntKind.i64 ((netF (a, b, c)).fst * (netF (a, b, c)).snd.fst) ∧
 ((0 : Int) ≤ v ∧ (0 : Int) < (netF (a, b, c)).fst * (netF (a, b, c)).snd.fst) ∧
 Small ((callsTo ((netF (a, b, c)).fst * (netF (a, b, c)).snd.fst) codes x).length + ((0 : Nat) + (1 : Nat) + (1 : Nat) + (1 : Nat))) ∧
 (callsTo ((netF (a, b, c)).fst * (netF (a, b, c)).snd.fst) codes x ++
 [(u % ((netF (a, b, c)).fst * (netF (a, b, c)).snd.fst), v % ((netF (a, b, c)).fst * (netF (a, b, c)).snd.fst)),
 (u % ((netF (a, b, c)).fst * (netF (a, b, c)).snd.fst), (-1 : Int)),
 (u % ((netF (a, b, c)).fst * (netF (a, b, c)).snd.fst), v % ((netF (a, b, c)).fst * (netF (a, b, c)).snd.fst))]).length ≤
 (1000 : Nat) ∧
 Fits IntKind.i64
 ((↑(callsTo ((netF (a, b, c)).fst * (netF (a, b, c)).snd.fst) codes x ++
 [(u % ((netF (a, b, c)).fst * (netF (a, b, c)).snd.fst), v % ((netF (a, b, c)).fst * (netF (a, b, c)).snd.fst)),
 (u % ((netF (a, b, c)).fst * (netF (a, b, c)).snd.fst), (-1 : Int)),
 (u % ((netF (a, b, c)).fst * (netF (a, b, c)).snd.fst), v % ((netF (a, b, c)).fst * (netF (a, b, c)).snd.fst))]).length :
 Int) -
 (3 : Int)) ∧
 (¬(serveF (netF (a, b, c)).fst (netF (a, b, c)).snd.fst (netF (a, b, c)).snd.snd
 (callsTo ((netF (a, b, c)).fst * (netF (a, b, c)).snd.fst) codes x ++
 [(u % ((netF (a, b, c)).fst * (netF (a, b, c)).snd.fst), v % ((netF (a, b, c)).fst * (netF (a, b, c)).snd.fst)),
 (u % ((netF (a, b, c)).fst * (netF (a, b, c)).snd.fst), (-1 : Int)),
 (u % ((netF (a, b, c)).fst * (netF (a, b, c)).snd.fst), v % ((netF (a, b, c)).fst * (netF (a, b, c)).snd.fst))])).snd =
 (0 : Int) →
 ¬(serveF (netF (a, b, c)).fst (netF (a, b, c)).snd.fst (netF (a, b, c)).snd.snd
 (callsTo ((netF (a, b, c)).fst * (netF (a, b, c)).snd.fst) codes x ++
 [(u % ((netF (a, b, c)).fst * (netF (a, b, c)).snd.fst), v % ((netF (a, b, c)).fst * (netF (a, b, c)).snd.fst)),
 (u % ((netF (a, b, c)).fst * (netF (a, b, c)).snd.fst), (-1 : Int)),
 (u % ((netF (a, b, c)).fst * (netF (a, b, c)).snd.fst), v % ((netF (a, b, c)).fst * (netF (a, b, c)).snd.fst))])).snd =
 (0 : Int) ∧
 ¬(serveF (netF (a, b, c)).fst (netF (a, b, c)).snd.fst (netF (a, b, c)).snd.snd
 (callsTo ((netF (a, b, c)).fst * (netF (a, b, c)).snd.fst) codes x ++
 [(u % ((netF (a, b, c)).fst * (netF (a, b, c)).snd.fst), v % ((netF (a, b, c)).fst * (netF (a, b, c)).snd.fst)),
 (u % ((netF (a, b, c)).fst * (netF (a, b, c)).snd.fst), (-1 : Int)),
 (u % ((netF (a, b, c)).fst * (netF (a, b, c)).snd.fst), v % ((netF (a, b, c)).fst * (netF (a, b, c)).snd.fst))])).snd =
 (0 : Int) ∧
 false = true) ∧
 (¬¬(serveF (netF (a, b, c)).fst (netF (a, b, c)).snd.fst (netF (a, b, c)).snd.snd
 (callsTo ((netF (a, b, c)).fst * (netF (a, b, c)).snd.fst) codes x ++
 [(u % ((netF (a, b, c)).fst * (netF (a, b, c)).snd.fst), v % ((netF (a, b, c)).fst * (netF (a, b, c)).snd.fst)),
 (u % ((netF (a, b, c)).fst * (netF (a, b, c)).snd.fst), (-1 : Int)),
 (u % ((netF (a, b, c)).fst * (netF (a, b, c)).snd.fst), v % ((netF (a, b, c)).fst * (netF (a, b, c)).snd.fst))])).snd =
 (0 : Int) →
 ¬¬(serveF (netF (a, b, c)).fst (netF (a, b, c)).snd.fst (netF (a, b, c)).snd.snd
 (callsTo ((netF (a, b, c)).fst * (netF (a, b, c)).snd.fst) codes x ++
 [(u % ((netF (a, b, c)).fst * (netF (a, b, c)).snd.fst), v % ((netF (a, b, c)).fst * (netF (a, b, c)).snd.fst)),
 (u % ((netF (a, b, c)).fst * (netF (a, b, c)).snd.fst), (-1 : Int)),
 (u % ((netF (a, b, c)).fst * (netF (a, b, c)).snd.fst), v % ((netF (a, b, c)).fst * (netF (a, b, c)).snd.fst))])).snd =
 (0 : Int) ∧
 ¬¬(serveF (netF (a, b, c)).fst (netF (a, b, c)).snd.fst (netF (a, b, c)).snd.snd
 (callsTo ((netF (a, b, c)).fst * (netF (a, b, c)).snd.fst) codes x ++
 [(u % ((netF (a, b, c)).fst * (netF (a, b, c)).snd.fst), v % ((netF (a, b, c)).fst * (netF (a, b, c)).snd.fst)),
 (u % ((netF (a, b, c)).fst * (netF (a, b, c)).snd.fst), (-1 : Int)),
 (u % ((netF (a, b, c)).fst * (netF (a, b, c)).snd.fst), v % ((netF (a, b, c)).fst * (netF (a, b, c)).snd.fst))])).snd =
 (0 : Int) ∧
 (¬(↑(serveF (netF (a, b, c)).fst (netF (a, b, c)).snd.fst (netF (a, b, c)).snd.snd
 (callsTo ((netF (a, b, c)).fst * (netF (a, b, c)).snd.fst) codes x ++
 [(u % ((netF (a, b, c)).fst * (netF (a, b, c)).snd.fst), v % ((netF (a, b, c)).fst * (netF (a, b, c)).snd.fst)),
 (u % ((netF (a, b, c)).fst * (netF (a, b, c)).snd.fst), (-1 : Int)),
 (u % ((netF (a, b, c)).fst * (netF (a, b, c)).snd.fst),
 v % ((netF (a, b, c)).fst * (netF (a, b, c)).snd.fst))])).fst.length :
 Int) =
 (↑(callsTo ((netF (a, b, c)).fst * (netF (a, b, c)).snd.fst) codes x ++
 [(u % ((netF (a, b, c)).fst * (netF (a, b, c)).snd.fst), v % ((netF (a, b, c)).fst * (netF (a, b, c)).snd.fst)),
 (u % ((netF (a, b, c)).fst * (netF (a, b, c)).snd.fst), (-1 : Int)),
 (u % ((netF (a, b, c)).fst * (netF (a, b, c)).snd.fst),
 v % ((netF (a, b, c)).fst * (netF (a, b, c)).snd.fst))]).length :
 Int) →
 ¬(↑(serveF (netF (a, b, c)).fst (netF (a, b, c)).snd.fst (netF (a, b, c)).snd.snd
 (callsTo ((netF (a, b, c)).fst * (netF (a, b, c)).snd.fst) codes x ++
 [(u % ((netF (a, b, c)).fst * (netF (a, b, c)).snd.fst), v % ((netF (a, b, c)).fst * (netF (a, b, c)).snd.fst)),
 (u % ((netF (a, b, c)).fst * (netF (a, b, c)).snd.fst), (-1 : Int)),
 (u % ((netF (a, b, c)).fst * (netF (a, b, c)).snd.fst),
 v % ((netF (a, b, c)).fst * (netF (a, b, c)).snd.fst))])).fst.length :
 Int) =
 (↑(callsTo ((netF (a, b, c)).fst * (netF (a, b, c)).snd.fst) codes x ++
 [(u % ((netF (a, b, c)).fst * (netF (a, b, c)).snd.fst), v % ((netF (a, b, c)).fst * (netF (a, b, c)).snd.fst)),
 (u % ((netF (a, b, c)).fst * (netF (a, b, c)).snd.fst), (-1 : Int)),
 (u % ((netF (a, b, c)).fst * (netF (a, b, c)).snd.fst),
 v % ((netF (a, b, c)).fst * (netF (a, b, c)).snd.fst))]).length :
 Int) ∧
 ¬(↑(serveF (netF (a, b, c)).fst (netF (a, b, c)).snd.fst (netF (a, b, c)).snd.snd
 (callsTo ((netF (a, b, c)).fst * (netF (a, b, c)).snd.fst) codes x ++
 [(u % ((netF (a, b, c)).fst * (netF (a, b, c)).snd.fst), v % ((netF (a, b, c)).fst * (netF (a, b, c)).snd.fst)),
 (u % ((netF (a, b, c)).fst * (netF (a, b, c)).snd.fst), (-1 : Int)),
 (u % ((netF (a, b, c)).fst * (netF (a, b, c)).snd.fst),
 v % ((netF (a, b, c)).fst * (netF (a, b, c)).snd.fst))])).fst.length :
 Int) =
 (↑(callsTo ((netF (a, b, c)).fst * (netF (a, b, c)).snd.fst) codes x ++
 [(u % ((netF (a, b, c)).fst * (netF (a, b, c)).snd.fst), v % ((netF (a, b, c)).fst * (netF (a, b, c)).snd.fst)),
 (u % ((netF (a, b, c)).fst * (netF (a, b, c)).snd.fst), (-1 : Int)),
 (u % ((netF (a, b, c)).fst * (netF (a, b, c)).snd.fst),
 v % ((netF (a, b, c)).fst * (netF (a, b, c)).snd.fst))]).length :
 Int) ∧
 ¬(↑(serveF (netF (a, b, c)).fst (netF (a, b, c)).snd.fst (netF (a, b, c)).snd.snd
 (callsTo ((netF (a, b, c)).fst * (netF (a, b, c)).snd.fst) codes x ++
 [(u % ((netF (a, b, c)).fst * (netF (a, b, c)).snd.fst), v % ((netF (a, b, c)).fst * (netF (a, b, c)).snd.fst)),
 (u % ((netF (a, b, c)).fst * (netF (a, b, c)).snd.fst), (-1 : Int)),
 (u % ((netF (a, b, c)).fst * (netF (a, b, c)).snd.fst),
 v % ((netF (a, b, c)).fst * (netF (a, b, c)).snd.fst))])).fst.length :
 Int) =
 (↑(callsTo ((netF (a, b, c)).fst * (netF (a, b, c)).snd.fst) codes x ++
 [(u % ((netF (a, b, c)).fst * (netF (a, b, c)).snd.fst), v % ((netF (a, b, c)).fst * (netF (a, b, c)).snd.fst)),
 (u % ((netF (a, b, c)).fst * (netF (a, b, c)).snd.fst), (-1 : Int)),
 (u % ((netF (a, b, c)).fst * (netF (a, b, c)).snd.fst),
 v % ((netF (a, b, c)).fst * (netF (a, b, c)).snd.fst))]).length :
 Int) ∧
 false = true) ∧
 (¬¬(↑(serveF (netF (a, b, c)).fst (netF (a, b, c)).snd.fst (netF (a, b, c)).snd.snd
 (callsTo ((netF (a, b, c)).fst * (netF (a, b, c)).snd.fst) codes x ++
 [(u % ((netF (a, b, c)).fst * (netF (a, b, c)).snd.fst), v % ((netF (a, b, c)).fst * (netF (a, b, c)).snd.fst)),
 (u % ((netF (a, b, c)).fst * (netF (a, b, c)).snd.fst), (-1 : Int)),
 (u % ((netF (a, b, c)).fst * (netF (a, b, c)).snd.fst),
 v % ((netF (a, b, c)).fst * (netF (a, b, c)).snd.fst))])).fst.length :
 Int) =
 (↑(callsTo ((netF (a, b, c)).fst * (netF (a, b, c)).snd.fst) codes x ++
 [(u % ((netF (a, b, c)).fst * (netF (a, b, c)).snd.fst), v % ((netF (a, b, c)).fst * (netF (a, b, c)).snd.fst)),
 (u % ((netF (a, b, c)).fst * (netF (a, b, c)).snd.fst), (-1 : Int)),
 (u % ((netF (a, b, c)).fst * (netF (a, b, c)).snd.fst),
 v % ((netF (a, b, c)).fst * (netF (a, b, c)).snd.fst))]).length :
 Int) →
 ¬¬(↑(serveF (netF (a, b, c)).fst (netF (a, b, c)).snd.fst (netF (a, b, c)).snd.snd
 (callsTo ((netF (a, b, c)).fst * (netF (a, b, c)).snd.fst) codes x ++
 [(u % ((netF (a, b, c)).fst * (netF (a, b, c)).snd.fst), v % ((netF (a, b, c)).fst * (netF (a, b, c)).snd.fst)),
 (u % ((netF (a, b, c)).fst * (netF (a, b, c)).snd.fst), (-1 : Int)),
 (u % ((netF (a, b, c)).fst * (netF (a, b, c)).snd.fst),
 v % ((netF (a, b, c)).fst * (netF (a, b, c)).snd.fst))])).fst.length :
 Int) =
 (↑(callsTo ((netF (a, b, c)).fst * (netF (a, b, c)).snd.fst) codes x ++
 [(u % ((netF (a, b, c)).fst * (netF (a, b, c)).snd.fst), v % ((netF (a, b, c)).fst * (netF (a, b, c)).snd.fst)),
 (u % ((netF (a, b, c)).fst * (netF (a, b, c)).snd.fst), (-1 : Int)),
 (u % ((netF (a, b, c)).fst * (netF (a, b, c)).snd.fst),
 v % ((netF (a, b, c)).fst * (netF (a, b, c)).snd.fst))]).length :
 Int) ∧
 ¬¬(↑(serveF (netF (a, b, c)).fst (netF (a, b, c)).snd.fst (netF (a, b, c)).snd.snd
 (callsTo ((netF (a, b, c)).fst * (netF (a, b, c)).snd.fst) codes x ++
 [(u % ((netF (a, b, c)).fst * (netF (a, b, c)).snd.fst), v % ((netF (a, b, c)).fst * (netF (a, b, c)).snd.fst)),
 (u % ((netF (a, b, c)).fst * (netF (a, b, c)).snd.fst), (-1 : Int)),
 (u % ((netF (a, b, c)).fst * (netF (a, b, c)).snd.fst),
 v % ((netF (a, b, c)).fst * (netF (a, b, c)).snd.fst))])).fst.length :
 Int) =
 (↑(callsTo ((netF (a, b, c)).fst * (netF (a, b, c)).snd.fst) codes x ++
 [(u % ((netF (a, b, c)).fst * (netF (a, b, c)).snd.fst), v % ((netF (a, b, c)).fst * (netF (a, b, c)).snd.fst)),
 (u % ((netF (a, b, c)).fst * (netF (a, b, c)).snd.fst), (-1 : Int)),
 (u % ((netF (a, b, c)).fst * (netF (a, b, c)).snd.fst),
 v % ((netF (a, b, c)).fst * (netF (a, b, c)).snd.fst))]).length :
 Int) ∧
 ¬¬(↑(serveF (netF (a, b, c)).fst (netF (a, b, c)).snd.fst (netF (a, b, c)).snd.snd
 (callsTo ((netF (a, b, c)).fst * (netF (a, b, c)).snd.fst) codes x ++
 [(u % ((netF (a, b, c)).fst * (netF (a, b, c)).snd.fst),
 v % ((netF (a, b, c)).fst * (netF (a, b, c)).snd.fst)),
 (u % ((netF (a, b, c)).fst * (netF (a, b, c)).snd.fst), (-1 : Int)),
 (u % ((netF (a, b, c)).fst * (netF (a, b, c)).snd.fst),
 v % ((netF (a, b, c)).fst * (netF (a, b, c)).snd.fst))])).fst.length :
 Int) =
 (↑(callsTo ((netF (a, b, c)).fst * (netF (a, b, c)).snd.fst) codes x ++
 [(u % ((netF (a, b, c)).fst * (netF (a, b, c)).snd.fst), v % ((netF (a, b, c)).fst * (netF (a, b, c)).snd.fst)),
 (u % ((netF (a, b, c)).fst * (netF (a, b, c)).snd.fst), (-1 : Int)),
 (u % ((netF (a, b, c)).fst * (netF (a, b, c)).snd.fst),
 v % ((netF (a, b, c)).fst * (netF (a, b, c)).snd.fst))]).length :
 Int) ∧
 True ∧
 ((!true) = true → (!true) = true ∧ (!true) = true ∧ false = true) ∧
 ((!true) = false →
 (!true) = false ∧
 (!true) = false ∧
 ((0 : Int) ≤
 (↑(callsTo ((netF (a, b, c)).fst * (netF (a, b, c)).snd.fst) codes x ++
 [(u % ((netF (a, b, c)).fst * (netF (a, b, c)).snd.fst),
 v % ((netF (a, b, c)).fst * (netF (a, b, c)).snd.fst)),
 (u % ((netF (a, b, c)).fst * (netF (a, b, c)).snd.fst), (-1 : Int)),
 (u % ((netF (a, b, c)).fst * (netF (a, b, c)).snd.fst),
 v % ((netF (a, b, c)).fst * (netF (a, b, c)).snd.fst))]).length :
 Int) -
 (3 : Int) ∧
 (↑(callsTo ((netF (a, b, c)).fst * (netF (a, b, c)).snd.fst) codes x ++
 [(u % ((netF (a, b, c)).fst * (netF (a, b, c)).snd.fst),
 v % ((netF (a, b, c)).fst * (netF (a, b, c)).snd.fst)),
 (u % ((netF (a, b, c)).fst * (netF (a, b, c)).snd.fst), (-1 : Int)),
 (u % ((netF (a, b, c)).fst * (netF (a, b, c)).snd.fst),
 v % ((netF (a, b, c)).fst * (netF (a, b, c)).snd.fst))]).length :
 Int) -
 (3 : Int) <
 (↑(serveF (netF (a, b, c)).fst (netF (a, b, c)).snd.fst (netF (a, b, c)).snd.snd
 (callsTo ((netF (a, b, c)).fst * (netF (a, b, c)).snd.fst) codes x ++
 [(u % ((netF (a, b, c)).fst * (netF (a, b, c)).snd.fst),
 v % ((netF (a, b, c)).fst * (netF (a, b, c)).snd.fst)),
 (u % ((netF (a, b, c)).fst * (netF (a, b, c)).snd.fst), (-1 : Int)),
 (u % ((netF (a, b, c)).fst * (netF (a, b, c)).snd.fst),
 v % ((netF (a, b, c)).fst * (netF (a, b, c)).snd.fst))])).fst.length :
 Int)) ∧
 ((serveF (netF (a, b, c)).fst (netF (a, b, c)).snd.fst (netF (a, b, c)).snd.snd
 (callsTo ((netF (a, b, c)).fst * (netF (a, b, c)).snd.fst) codes x ++
 [(u % ((netF (a, b, c)).fst * (netF (a, b, c)).snd.fst),
 v % ((netF (a, b, c)).fst * (netF (a, b, c)).snd.fst)),
 (u % ((netF (a, b, c)).fst * (netF (a, b, c)).snd.fst), (-1 : Int)),
 (u % ((netF (a, b, c)).fst * (netF (a, b, c)).snd.fst),
 v % ((netF (a, b, c)).fst * (netF (a, b, c)).snd.fst))])).fst.getD
 ((↑(callsTo ((netF (a, b, c)).fst * (netF (a, b, c)).snd.fst) codes x ++
 [(u % ((netF (a, b, c)).fst * (netF (a, b, c)).snd.fst),
 v % ((netF (a, b, c)).fst * (netF (a, b, c)).snd.fst)),
 (u % ((netF (a, b, c)).fst * (netF (a, b, c)).snd.fst), (-1 : Int)),
 (u % ((netF (a, b, c)).fst * (netF (a, b, c)).snd.fst),
 v % ((netF (a, b, c)).fst * (netF (a, b, c)).snd.fst))]).length :
 Int) -
 (3 : Int)).toNat
 (0 : Int) <
 (0 : Int) →
 (serveF (netF (a, b, c)).fst (netF (a, b, c)).snd.fst (netF (a, b, c)).snd.snd
 (callsTo ((netF (a, b, c)).fst * (netF (a, b, c)).snd.fst) codes x ++
 [(u % ((netF (a, b, c)).fst * (netF (a, b, c)).snd.fst),
 v % ((netF (a, b, c)).fst * (netF (a, b, c)).snd.fst)),
 (u % ((netF (a, b, c)).fst * (netF (a, b, c)).snd.fst), (-1 : Int)),
 (u % ((netF (a, b, c)).fst * (netF (a, b, c)).snd.fst),
 v % ((netF (a, b, c)).fst * (netF (a, b, c)).snd.fst))])).fst.getD
 ((↑(callsTo ((netF (a, b, c)).fst * (netF (a, b, c)).snd.fst) codes x ++
 [(u % ((netF (a, b, c)).fst * (netF (a, b, c)).snd.fst),
 v % ((netF (a, b, c)).fst * (netF (a, b, c)).snd.fst)),
 (u % ((netF (a, b, c)).fst * (netF (a, b, c)).snd.fst), (-1 : Int)),
 (u % ((netF (a, b, c)).fst * (netF (a, b, c)).snd.fst),
 v % ((netF (a, b, c)).fst * (netF (a, b, c)).snd.fst))]).length :
 Int) -
 (3 : Int)).toNat
 (0 : Int) <
 (0 : Int) ∧
 (serveF (netF (a, b, c)).fst (netF (a, b, c)).snd.fst (netF (a, b, c)).snd.snd
 (callsTo ((netF (a, b, c)).fst * (netF (a, b, c)).snd.fst) codes x ++
 [(u % ((netF (a, b, c)).fst * (netF (a, b, c)).snd.fst),
 v % ((netF (a, b, c)).fst * (netF (a, b, c)).snd.fst)),
 (u % ((netF (a, b, c)).fst * (netF (a, b, c)).snd.fst), (-1 : Int)),
 (u % ((netF (a, b, c)).fst * (netF (a, b, c)).snd.fst),
 v % ((netF (a, b, c)).fst * (netF (a, b, c)).snd.fst))])).fst.getD
 ((↑(callsTo ((netF (a, b, c)).fst * (netF (a, b, c)).snd.fst) codes x ++
 [(u % ((netF (a, b, c)).fst * (netF (a, b, c)).snd.fst),
 v % ((netF (a, b, c)).fst * (netF (a, b, c)).snd.fst)),
 (u % ((netF (a, b, c)).fst * (netF (a, b, c)).snd.fst), (-1 : Int)),
 (u % ((netF (a, b, c)).fst * (netF (a, b, c)).snd.fst),
 v % ((netF (a, b, c)).fst * (netF (a, b, c)).snd.fst))]).length :
 Int) -
 (3 : Int)).toNat
 (0 : Int) <
 (0 : Int) ∧
 true = true) ∧
 (¬(serveF (netF (a, b, c)).fst (netF (a, b, c)).snd.fst (netF (a, b, c)).snd.snd
 (callsTo ((netF (a, b, c)).fst * (netF (a, b, c)).snd.fst) codes x ++
 [(u % ((netF (a, b, c)).fst * (netF (a, b, c)).snd.fst),
 v % ((netF (a, b, c)).fst * (netF (a, b, c)).snd.fst)),
 (u % ((netF (a, b, c)).fst * (netF (a, b, c)).snd.fst), (-1 : Int)),
 (u % ((netF (a, b, c)).fst * (netF (a, b, c)).snd.fst),
 v % ((netF (a, b, c)).fst * (netF (a, b, c)).snd.fst))])).fst.getD
 ((↑(callsTo ((netF (a, b, c)).fst * (netF (a, b, c)).snd.fst) codes x ++
 [(u % ((netF (a, b, c)).fst * (netF (a, b, c)).snd.fst),
 v % ((netF (a, b, c)).fst * (netF (a, b, c)).snd.fst)),
 (u % ((netF (a, b, c)).fst * (netF (a, b, c)).snd.fst), (-1 : Int)),
 (u % ((netF (a, b, c)).fst * (netF (a, b, c)).snd.fst),
 v % ((netF (a, b, c)).fst * (netF (a, b, c)).snd.fst))]).length :
 Int) -
 (3 : Int)).toNat
 (0 : Int) <
 (0 : Int) →
 ¬(serveF (netF (a, b, c)).fst (netF (a, b, c)).snd.fst (netF (a, b, c)).snd.snd
 (callsTo ((netF (a, b, c)).fst * (netF (a, b, c)).snd.fst) codes x ++
 [(u % ((netF (a, b, c)).fst * (netF (a, b, c)).snd.fst),
 v % ((netF (a, b, c)).fst * (netF (a, b, c)).snd.fst)),
 (u % ((netF (a, b, c)).fst * (netF (a, b, c)).snd.fst), (-1 : Int)),
 (u % ((netF (a, b, c)).fst * (netF (a, b, c)).snd.fst),
 v % ((netF (a, b, c)).fst * (netF (a, b, c)).snd.fst))])).fst.getD
 ((↑(callsTo ((netF (a, b, c)).fst * (netF (a, b, c)).snd.fst) codes x ++
 [(u % ((netF (a, b, c)).fst * (netF (a, b, c)).snd.fst),
 v % ((netF (a, b, c)).fst * (netF (a, b, c)).snd.fst)),
 (u % ((netF (a, b, c)).fst * (netF (a, b, c)).snd.fst), (-1 : Int)),
 (u % ((netF (a, b, c)).fst * (netF (a, b, c)).snd.fst),
 v % ((netF (a, b, c)).fst * (netF (a, b, c)).snd.fst))]).length :
 Int) -
 (3 : Int)).toNat
 (0 : Int) <
 (0 : Int) ∧
 ¬(serveF (netF (a, b, c)).fst (netF (a, b, c)).snd.fst (netF (a, b, c)).snd.snd
 (callsTo ((netF (a, b, c)).fst * (netF (a, b, c)).snd.fst) codes x ++
 [(u % ((netF (a, b, c)).fst * (netF (a, b, c)).snd.fst),
 v % ((netF (a, b, c)).fst * (netF (a, b, c)).snd.fst)),
 (u % ((netF (a, b, c)).fst * (netF (a, b, c)).snd.fst), (-1 : Int)),
 (u % ((netF (a, b, c)).fst * (netF (a, b, c)).snd.fst),
 v % ((netF (a, b, c)).fst * (netF (a, b, c)).snd.fst))])).fst.getD
 ((↑(callsTo ((netF (a, b, c)).fst * (netF (a, b, c)).snd.fst) codes x ++
 [(u % ((netF (a, b, c)).fst * (netF (a, b, c)).snd.fst),
 v % ((netF (a, b, c)).fst * (netF (a, b, c)).snd.fst)),
 (u % ((netF (a, b, c)).fst * (netF (a, b, c)).snd.fst), (-1 : Int)),
 (u % ((netF (a, b, c)).fst * (netF (a, b, c)).snd.fst),
 v % ((netF (a, b, c)).fst * (netF (a, b, c)).snd.fst))]).length :
 Int) -
 (3 : Int)).toNat
 (0 : Int) <
 (0 : Int) ∧
 Fits IntKind.i64
 ((↑(callsTo ((netF (a, b, c)).fst * (netF (a, b, c)).snd.fst) codes x ++
 [(u % ((netF (a, b, c)).fst * (netF (a, b, c)).snd.fst),
 v % ((netF (a, b, c)).fst * (netF (a, b, c)).snd.fst)),
 (u % ((netF (a, b, c)).fst * (netF (a, b, c)).snd.fst), (-1 : Int)),
 (u % ((netF (a, b, c)).fst * (netF (a, b, c)).snd.fst),
 v % ((netF (a, b, c)).fst * (netF (a, b, c)).snd.fst))]).length :
 Int) -
 (3 : Int) +
 (1 : Int)) ∧
 ((0 : Int) ≤
 (↑(callsTo ((netF (a, b, c)).fst * (netF (a, b, c)).snd.fst) codes x ++
 [(u % ((netF (a, b, c)).fst * (netF (a, b, c)).snd.fst),
 v % ((netF (a, b, c)).fst * (netF (a, b, c)).snd.fst)),
 (u % ((netF (a, b, c)).fst * (netF (a, b, c)).snd.fst), (-1 : Int)),
 (u % ((netF (a, b, c)).fst * (netF (a, b, c)).snd.fst),
 v % ((netF (a, b, c)).fst * (netF (a, b, c)).snd.fst))]).length :
 Int) -
 (3 : Int) +
 (1 : Int) ∧
 (↑(callsTo ((netF (a, b, c)).fst * (netF (a, b, c)).snd.fst) codes x ++
 [(u % ((netF (a, b, c)).fst * (netF (a, b, c)).snd.fst),
 v % ((netF (a, b, c)).fst * (netF (a, b, c)).snd.fst)),
 (u % ((netF (a, b, c)).fst * (netF (a, b, c)).snd.fst), (-1 : Int)),
 (u % ((netF (a, b, c)).fst * (netF (a, b, c)).snd.fst),
 v % ((netF (a, b, c)).fst * (netF (a, b, c)).snd.fst))]).length :
 Int) -
 (3 : Int) +
 (1 : Int) <
 (↑(serveF (netF (a, b, c)).fst (netF (a, b, c)).snd.fst (netF (a, b, c)).snd.snd
 (callsTo ((netF (a, b, c)).fst * (netF (a, b, c)).snd.fst) codes x ++
 [(u % ((netF (a, b, c)).fst * (netF (a, b, c)).snd.fst),
 v % ((netF (a, b, c)).fst * (netF (a, b, c)).snd.fst)),
 (u % ((netF (a, b, c)).fst * (netF (a, b, c)).snd.fst), (-1 : Int)),
 (u % ((netF (a, b, c)).fst * (netF (a, b, c)).snd.fst),
 v % ((netF (a, b, c)).fst * (netF (a, b, c)).snd.fst))])).fst.length :
 Int)) ∧
 ((0 : Int) ≤
 (↑(callsTo ((netF (a, b, c)).fst * (netF (a, b, c)).snd.fst) codes x ++
 [(u % ((netF (a, b, c)).fst * (netF (a, b, c)).snd.fst),
 v % ((netF (a, b, c)).fst * (netF (a, b, c)).snd.fst)),
 (u % ((netF (a, b, c)).fst * (netF (a, b, c)).snd.fst), (-1 : Int)),
 (u % ((netF (a, b, c)).fst * (netF (a, b, c)).snd.fst),
 v % ((netF (a, b, c)).fst * (netF (a, b, c)).snd.fst))]).length :
 Int) -
 (3 : Int) ∧
 (↑(callsTo ((netF (a, b, c)).fst * (netF (a, b, c)).snd.fst) codes x ++
 [(u % ((netF (a, b, c)).fst * (netF (a, b, c)).snd.fst),
 v % ((netF (a, b, c)).fst * (netF (a, b, c)).snd.fst)),
 (u % ((netF (a, b, c)).fst * (netF (a, b, c)).snd.fst), (-1 : Int)),
 (u % ((netF (a, b, c)).fst * (netF (a, b, c)).snd.fst),
 v % ((netF (a, b, c)).fst * (netF (a, b, c)).snd.fst))]).length :
 Int) -
 (3 : Int) <
 (↑(serveF (netF (a, b, c)).fst (netF (a, b, c)).snd.fst (netF (a, b, c)).snd.snd
 (callsTo ((netF (a, b, c)).fst * (netF (a, b, c)).snd.fst) codes x ++
 [(u % ((netF (a, b, c)).fst * (netF (a, b, c)).snd.fst),
 v % ((netF (a, b, c)).fst * (netF (a, b, c)).snd.fst)),
 (u % ((netF (a, b, c)).fst * (netF (a, b, c)).snd.fst), (-1 : Int)),
 (u % ((netF (a, b, c)).fst * (netF (a, b, c)).snd.fst),
 v % ((netF (a, b, c)).fst * (netF (a, b, c)).snd.fst))])).fst.length :
 Int)) ∧
 ((serveF (netF (a, b, c)).fst (netF (a, b, c)).snd.fst (netF (a, b, c)).snd.snd
 (callsTo ((netF (a, b, c)).fst * (netF (a, b, c)).snd.fst) codes x ++
 [(u % ((netF (a, b, c)).fst * (netF (a, b, c)).snd.fst),
 v % ((netF (a, b, c)).fst * (netF (a, b, c)).snd.fst)),
 (u % ((netF (a, b, c)).fst * (netF (a, b, c)).snd.fst), (-1 : Int)),
 (u % ((netF (a, b, c)).fst * (netF (a, b, c)).snd.fst),
 v % ((netF (a, b, c)).fst * (netF (a, b, c)).snd.fst))])).fst.getD
 ((↑(callsTo ((netF (a, b, c)).fst * (netF (a, b, c)).snd.fst) codes x ++
 [(u % ((netF (a, b, c)).fst * (netF (a, b, c)).snd.fst),
 v % ((netF (a, b, c)).fst * (netF (a, b, c)).snd.fst)),
 (u % ((netF (a, b, c)).fst * (netF (a, b, c)).snd.fst), (-1 : Int)),
 (u % ((netF (a, b, c)).fst * (netF (a, b, c)).snd.fst),
 v % ((netF (a, b, c)).fst * (netF (a, b, c)).snd.fst))]).length :
 Int) -
 (3 : Int) +
 (1 : Int)).toNat
 (0 : Int) =
 (serveF (netF (a, b, c)).fst (netF (a, b, c)).snd.fst (netF (a, b, c)).snd.snd
 (callsTo ((netF (a, b, c)).fst * (netF (a, b, c)).snd.fst) codes x ++
 [(u % ((netF (a, b, c)).fst * (netF (a, b, c)).snd.fst),
 v % ((netF (a, b, c)).fst * (netF (a, b, c)).snd.fst)),
 (u % ((netF (a, b, c)).fst * (netF (a, b, c)).snd.fst), (-1 : Int)),
 (u % ((netF (a, b, c)).fst * (netF (a, b, c)).snd.fst),
 v % ((netF (a, b, c)).fst * (netF (a, b, c)).snd.fst))])).fst.getD
 ((↑(callsTo ((netF (a, b, c)).fst * (netF (a, b, c)).snd.fst) codes x ++
 [(u % ((netF (a, b, c)).fst * (netF (a, b, c)).snd.fst),
 v % ((netF (a, b, c)).fst * (netF (a, b, c)).snd.fst)),
 (u % ((netF (a, b, c)).fst * (netF (a, b, c)).snd.fst), (-1 : Int)),
 (u % ((netF (a, b, c)).fst * (netF (a, b, c)).snd.fst),
 v % ((netF (a, b, c)).fst * (netF (a, b, c)).snd.fst))]).length :
 Int) -
 (3 : Int)).toNat
 (0 : Int) →
 (serveF (netF (a, b, c)).fst (netF (a, b, c)).snd.fst (netF (a, b, c)).snd.snd
 (callsTo ((netF (a, b, c)).fst * (netF (a, b, c)).snd.fst) codes x ++
 [(u % ((netF (a, b, c)).fst * (netF (a, b, c)).snd.fst),
 v % ((netF (a, b, c)).fst * (netF (a, b, c)).snd.fst)),
 (u % ((netF (a, b, c)).fst * (netF (a, b, c)).snd.fst), (-1 : Int)),
 (u % ((netF (a, b, c)).fst * (netF (a, b, c)).snd.fst),
 v % ((netF (a, b, c)).fst * (netF (a, b, c)).snd.fst))])).fst.getD
 ((↑(callsTo ((netF (a, b, c)).fst * (netF (a, b, c)).snd.fst) codes x ++
 [(u % ((netF (a, b, c)).fst * (netF (a, b, c)).snd.fst),
 v % ((netF (a, b, c)).fst * (netF (a, b, c)).snd.fst)),
 (u % ((netF (a, b, c)).fst * (netF (a, b, c)).snd.fst), (-1 : Int)),
 (u % ((netF (a, b, c)).fst * (netF (a, b, c)).snd.fst),
 v % ((netF (a, b, c)).fst * (netF (a, b, c)).snd.fst))]).length :
 Int) -
 (3 : Int) +
 (1 : Int)).toNat
 (0 : Int) =
 (serveF (netF (a, b, c)).fst (netF (a, b, c)).snd.fst (netF (a, b, c)).snd.snd
 (callsTo ((netF (a, b, c)).fst * (netF (a, b, c)).snd.fst) codes x ++
 [(u % ((netF (a, b, c)).fst * (netF (a, b, c)).snd.fst),
 v % ((netF (a, b, c)).fst * (netF (a, b, c)).snd.fst)),
 (u % ((netF (a, b, c)).fst * (netF (a, b, c)).snd.fst), (-1 : Int)),
 (u % ((netF (a, b, c)).fst * (netF (a, b, c)).snd.fst),
 v % ((netF (a, b, c)).fst * (netF (a, b, c)).snd.fst))])).fst.getD
 ((↑(callsTo ((netF (a, b, c)).fst * (netF (a, b, c)).snd.fst) codes x ++
 [(u % ((netF (a, b, c)).fst * (netF (a, b, c)).snd.fst),
 v % ((netF (a, b, c)).fst * (netF (a, b, c)).snd.fst)),
 (u % ((netF (a, b, c)).fst * (netF (a, b, c)).snd.fst), (-1 : Int)),
 (u % ((netF (a, b, c)).fst * (netF (a, b, c)).snd.fst),
 v % ((netF (a, b, c)).fst * (netF (a, b, c)).snd.fst))]).length :
 Int) -
 (3 : Int)).toNat
 (0 : Int) ∧
 (serveF (netF (a, b, c)).fst (netF (a, b, c)).snd.fst (netF (a, b, c)).snd.snd
 (callsTo ((netF (a, b, c)).fst * (netF (a, b, c)).snd.fst) codes x ++
 [(u % ((netF (a, b, c)).fst * (netF (a, b, c)).snd.fst),
 v % ((netF (a, b, c)).fst * (netF (a, b, c)).snd.fst)),
 (u % ((netF (a, b, c)).fst * (netF (a, b, c)).snd.fst), (-1 : Int)),
 (u % ((netF (a, b, c)).fst * (netF (a, b, c)).snd.fst),
 v % ((netF (a, b, c)).fst * (netF (a, b, c)).snd.fst))])).fst.getD
 ((↑(callsTo ((netF (a, b, c)).fst * (netF (a, b, c)).snd.fst) codes x ++
 [(u % ((netF (a, b, c)).fst * (netF (a, b, c)).snd.fst),
 v % ((netF (a, b, c)).fst * (netF (a, b, c)).snd.fst)),
 (u % ((netF (a, b, c)).fst * (netF (a, b, c)).snd.fst), (-1 : Int)),
 (u % ((netF (a, b, c)).fst * (netF (a, b, c)).snd.fst),
 v % ((netF (a, b, c)).fst * (netF (a, b, c)).snd.fst))]).length :
 Int) -
 (3 : Int) +
 (1 : Int)).toNat
 (0 : Int) =
 (serveF (netF (a, b, c)).fst (netF (a, b, c)).snd.fst (netF (a, b, c)).snd.snd
 (callsTo ((netF (a, b, c)).fst * (netF (a, b, c)).snd.fst) codes x ++
 [(u % ((netF (a, b, c)).fst * (netF (a, b, c)).snd.fst),
 v % ((netF (a, b, c)).fst * (netF (a, b, c)).snd.fst)),
 (u % ((netF (a, b, c)).fst * (netF (a, b, c)).snd.fst), (-1 : Int)),
 (u % ((netF (a, b, c)).fst * (netF (a, b, c)).snd.fst),
 v % ((netF (a, b, c)).fst * (netF (a, b, c)).snd.fst))])).fst.getD
 ((↑(callsTo ((netF (a, b, c)).fst * (netF (a, b, c)).snd.fst) codes x ++
 [(u % ((netF (a, b, c)).fst * (netF (a, b, c)).snd.fst),
 v % ((netF (a, b, c)).fst * (netF (a, b, c)).snd.fst)),
 (u % ((netF (a, b, c)).fst * (netF (a, b, c)).snd.fst), (-1 : Int)),
 (u % ((netF (a, b, c)).fst * (netF (a, b, c)).snd.fst),
 v % ((netF (a, b, c)).fst * (netF (a, b, c)).snd.fst))]).length :
 Int) -
 (3 : Int)).toNat
 (0 : Int) ∧
 Fits IntKind.i64
 ((↑(callsTo ((netF (a, b, c)).fst * (netF (a, b, c)).snd.fst) codes x ++
 [(u % ((netF (a, b, c)).fst * (netF (a, b, c)).snd.fst),
 v % ((netF (a, b, c)).fst * (netF (a, b, c)).snd.fst)),
 (u % ((netF (a, b, c)).fst * (netF (a, b, c)).snd.fst), (-1 : Int)),
 (u % ((netF (a, b, c)).fst * (netF (a, b, c)).snd.fst),
 v % ((netF (a, b, c)).fst * (netF (a, b, c)).snd.fst))]).length :
 Int) -
 (3 : Int) +
 (2 : Int)) ∧
 ((0 : Int) ≤
 (↑(callsTo ((netF (a, b, c)).fst * (netF (a, b, c)).snd.fst) codes x ++
 [(u % ((netF (a, b, c)).fst * (netF (a, b, c)).snd.fst),
 v % ((netF (a, b, c)).fst * (netF (a, b, c)).snd.fst)),
 (u % ((netF (a, b, c)).fst * (netF (a, b, c)).snd.fst), (-1 : Int)),
 (u % ((netF (a, b, c)).fst * (netF (a, b, c)).snd.fst),
 v % ((netF (a, b, c)).fst * (netF (a, b, c)).snd.fst))]).length :
 Int) -
 (3 : Int) +
 (2 : Int) ∧
 (↑(callsTo ((netF (a, b, c)).fst * (netF (a, b, c)).snd.fst) codes x ++
 [(u % ((netF (a, b, c)).fst * (netF (a, b, c)).snd.fst),
 v % ((netF (a, b, c)).fst * (netF (a, b, c)).snd.fst)),
 (u % ((netF (a, b, c)).fst * (netF (a, b, c)).snd.fst), (-1 : Int)),
 (u % ((netF (a, b, c)).fst * (netF (a, b, c)).snd.fst),
 v % ((netF (a, b, c)).fst * (netF (a, b, c)).snd.fst))]).length :
 Int) -
 (3 : Int) +
 (2 : Int) <
 (↑(serveF (netF (a, b, c)).fst (netF (a, b, c)).snd.fst (netF (a, b, c)).snd.snd
 (callsTo ((netF (a, b, c)).fst * (netF (a, b, c)).snd.fst) codes x ++
 [(u % ((netF (a, b, c)).fst * (netF (a, b, c)).snd.fst),
 v % ((netF (a, b, c)).fst * (netF (a, b, c)).snd.fst)),
 (u % ((netF (a, b, c)).fst * (netF (a, b, c)).snd.fst), (-1 : Int)),
 (u % ((netF (a, b, c)).fst * (netF (a, b, c)).snd.fst),
 v % ((netF (a, b, c)).fst * (netF (a, b, c)).snd.fst))])).fst.length :
 Int)) ∧
 ((0 : Int) ≤
 (↑(callsTo ((netF (a, b, c)).fst * (netF (a, b, c)).snd.fst) codes x ++
 [(u % ((netF (a, b, c)).fst * (netF (a, b, c)).snd.fst),
 v % ((netF (a, b, c)).fst * (netF (a, b, c)).snd.fst)),
 (u % ((netF (a, b, c)).fst * (netF (a, b, c)).snd.fst), (-1 : Int)),
 (u % ((netF (a, b, c)).fst * (netF (a, b, c)).snd.fst),
 v % ((netF (a, b, c)).fst * (netF (a, b, c)).snd.fst))]).length :
 Int) -
 (3 : Int) ∧
 (↑(callsTo ((netF (a, b, c)).fst * (netF (a, b, c)).snd.fst) codes x ++
 [(u % ((netF (a, b, c)).fst * (netF (a, b, c)).snd.fst),
 v % ((netF (a, b, c)).fst * (netF (a, b, c)).snd.fst)),
 (u % ((netF (a, b, c)).fst * (netF (a, b, c)).snd.fst), (-1 : Int)),
 (u % ((netF (a, b, c)).fst * (netF (a, b, c)).snd.fst),
 v % ((netF (a, b, c)).fst * (netF (a, b, c)).snd.fst))]).length :
 Int) -
 (3 : Int) <
 (↑(serveF (netF (a, b, c)).fst (netF (a, b, c)).snd.fst (netF (a, b, c)).snd.snd
 (callsTo ((netF (a, b, c)).fst * (netF (a, b, c)).snd.fst) codes x ++
 [(u % ((netF (a, b, c)).fst * (netF (a, b, c)).snd.fst),
 v % ((netF (a, b, c)).fst * (netF (a, b, c)).snd.fst)),
 (u % ((netF (a, b, c)).fst * (netF (a, b, c)).snd.fst), (-1 : Int)),
 (u % ((netF (a, b, c)).fst * (netF (a, b, c)).snd.fst),
 v %
 ((netF (a, b, c)).fst * (netF (a, b, c)).snd.fst))])).fst.length :
 Int)) ∧
 decide
 ((serveF (netF (a, b, c)).fst (netF (a, b, c)).snd.fst (netF (a, b, c)).snd.snd
 (callsTo ((netF (a, b, c)).fst * (netF (a, b, c)).snd.fst) codes x ++
 [(u % ((netF (a, b, c)).fst * (netF (a, b, c)).snd.fst),
 v % ((netF (a, b, c)).fst * (netF (a, b, c)).snd.fst)),
 (u % ((netF (a, b, c)).fst * (netF (a, b, c)).snd.fst), (-1 : Int)),
 (u % ((netF (a, b, c)).fst * (netF (a, b, c)).snd.fst),
 v % ((netF (a, b, c)).fst * (netF (a, b, c)).snd.fst))])).fst.getD
 ((↑(callsTo ((netF (a, b, c)).fst * (netF (a, b, c)).snd.fst) codes x ++
 [(u % ((netF (a, b, c)).fst * (netF (a, b, c)).snd.fst),
 v % ((netF (a, b, c)).fst * (netF (a, b, c)).snd.fst)),
 (u % ((netF (a, b, c)).fst * (netF (a, b, c)).snd.fst),
 (-1 : Int)),
 (u % ((netF (a, b, c)).fst * (netF (a, b, c)).snd.fst),
 v %
 ((netF (a, b, c)).fst *
 (netF (a, b, c)).snd.fst))]).length :
 Int) -
 (3 : Int) +
 (2 : Int)).toNat
 (0 : Int) =
 (serveF (netF (a, b, c)).fst (netF (a, b, c)).snd.fst (netF (a, b, c)).snd.snd
 (callsTo ((netF (a, b, c)).fst * (netF (a, b, c)).snd.fst) codes x ++
 [(u % ((netF (a, b, c)).fst * (netF (a, b, c)).snd.fst),
 v % ((netF (a, b, c)).fst * (netF (a, b, c)).snd.fst)),
 (u % ((netF (a, b, c)).fst * (netF (a, b, c)).snd.fst), (-1 : Int)),
 (u % ((netF (a, b, c)).fst * (netF (a, b, c)).snd.fst),
 v % ((netF (a, b, c)).fst * (netF (a, b, c)).snd.fst))])).fst.getD
 ((↑(callsTo ((netF (a, b, c)).fst * (netF (a, b, c)).snd.fst) codes x ++
 [(u % ((netF (a, b, c)).fst * (netF (a, b, c)).snd.fst),
 v % ((netF (a, b, c)).fst * (netF (a, b, c)).snd.fst)),
 (u % ((netF (a, b, c)).fst * (netF (a, b, c)).snd.fst),
 (-1 : Int)),
 (u % ((netF (a, b, c)).fst * (netF (a, b, c)).snd.fst),
 v %
 ((netF (a, b, c)).fst * (netF (a, b, c)).snd.fst))]).length :
 Int) -
 (3 : Int)).toNat
 (0 : Int)) =
 true) ∧
 (¬(serveF (netF (a, b, c)).fst (netF (a, b, c)).snd.fst (netF (a, b, c)).snd.snd
 (callsTo ((netF (a, b, c)).fst * (netF (a, b, c)).snd.fst) codes x ++
 [(u % ((netF (a, b, c)).fst * (netF (a, b, c)).snd.fst),
 v % ((netF (a, b, c)).fst * (netF (a, b, c)).snd.fst)),
 (u % ((netF (a, b, c)).fst * (netF (a, b, c)).snd.fst), (-1 : Int)),
 (u % ((netF (a, b, c)).fst * (netF (a, b, c)).snd.fst),
 v % ((netF (a, b, c)).fst * (netF (a, b, c)).snd.fst))])).fst.getD
 ((↑(callsTo ((netF (a, b, c)).fst * (netF (a, b, c)).snd.fst) codes x ++
 [(u % ((netF (a, b, c)).fst * (netF (a, b, c)).snd.fst),
 v % ((netF (a, b, c)).fst * (netF (a, b, c)).snd.fst)),
 (u % ((netF (a, b, c)).fst * (netF (a, b, c)).snd.fst), (-1 : Int)),
 (u % ((netF (a, b, c)).fst * (netF (a, b, c)).snd.fst),
 v % ((netF (a, b, c)).fst * (netF (a, b, c)).snd.fst))]).length :
 Int) -
 (3 : Int) +
 (1 : Int)).toNat
 (0 : Int) =
 (serveF (netF (a, b, c)).fst (netF (a, b, c)).snd.fst (netF (a, b, c)).snd.snd
 (callsTo ((netF (a, b, c)).fst * (netF (a, b, c)).snd.fst) codes x ++
 [(u % ((netF (a, b, c)).fst * (netF (a, b, c)).snd.fst),
 v % ((netF (a, b, c)).fst * (netF (a, b, c)).snd.fst)),
 (u % ((netF (a, b, c)).fst * (netF (a, b, c)).snd.fst), (-1 : Int)),
 (u % ((netF (a, b, c)).fst * (netF (a, b, c)).snd.fst),
 v % ((netF (a, b, c)).fst * (netF (a, b, c)).snd.fst))])).fst.getD
 ((↑(callsTo ((netF (a, b, c)).fst * (netF (a, b, c)).snd.fst) codes x ++
 [(u % ((netF (a, b, c)).fst * (netF (a, b, c)).snd.fst),
 v % ((netF (a, b, c)).fst * (netF (a, b, c)).snd.fst)),
 (u % ((netF (a, b, c)).fst * (netF (a, b, c)).snd.fst), (-1 : Int)),
 (u % ((netF (a, b, c)).fst * (netF (a, b, c)).snd.fst),
 v % ((netF (a, b, c)).fst * (netF (a, b, c)).snd.fst))]).length :
 Int) -
 (3 : Int)).toNat
 (0 : Int) →
 ¬(serveF (netF (a, b, c)).fst (netF (a, b, c)).snd.fst (netF (a, b, c)).snd.snd
 (callsTo ((netF (a, b, c)).fst * (netF (a, b, c)).snd.fst) codes x ++
 [(u % ((netF (a, b, c)).fst * (netF (a, b, c)).snd.fst),
 v % ((netF (a, b, c)).fst * (netF (a, b, c)).snd.fst)),
 (u % ((netF (a, b, c)).fst * (netF (a, b, c)).snd.fst), (-1 : Int)),
 (u % ((netF (a, b, c)).fst * (netF (a, b, c)).snd.fst),
 v % ((netF (a, b, c)).fst * (netF (a, b, c)).snd.fst))])).fst.getD
 ((↑(callsTo ((netF (a, b, c)).fst * (netF (a, b, c)).snd.fst) codes x ++
 [(u % ((netF (a, b, c)).fst * (netF (a, b, c)).snd.fst),
 v % ((netF (a, b, c)).fst * (netF (a, b, c)).snd.fst)),
 (u % ((netF (a, b, c)).fst * (netF (a, b, c)).snd.fst), (-1 : Int)),
 (u % ((netF (a, b, c)).fst * (netF (a, b, c)).snd.fst),
 v % ((netF (a, b, c)).fst * (netF (a, b, c)).snd.fst))]).length :
 Int) -
 (3 : Int) +
 (1 : Int)).toNat
 (0 : Int) =
 (serveF (netF (a, b, c)).fst (netF (a, b, c)).snd.fst (netF (a, b, c)).snd.snd
 (callsTo ((netF (a, b, c)).fst * (netF (a, b, c)).snd.fst) codes x ++
 [(u % ((netF (a, b, c)).fst * (netF (a, b, c)).snd.fst),
 v % ((netF (a, b, c)).fst * (netF (a, b, c)).snd.fst)),
 (u % ((netF (a, b, c)).fst * (netF (a, b, c)).snd.fst), (-1 : Int)),
 (u % ((netF (a, b, c)).fst * (netF (a, b, c)).snd.fst),
 v % ((netF (a, b, c)).fst * (netF (a, b, c)).snd.fst))])).fst.getD
 ((↑(callsTo ((netF (a, b, c)).fst * (netF (a, b, c)).snd.fst) codes x ++
 [(u % ((netF (a, b, c)).fst * (netF (a, b, c)).snd.fst),
 v % ((netF (a, b, c)).fst * (netF (a, b, c)).snd.fst)),
 (u % ((netF (a, b, c)).fst * (netF (a, b, c)).snd.fst), (-1 : Int)),
 (u % ((netF (a, b, c)).fst * (netF (a, b, c)).snd.fst),
 v % ((netF (a, b, c)).fst * (netF (a, b, c)).snd.fst))]).length :
 Int) -
 (3 : Int)).toNat
 (0 : Int) ∧
 ¬(serveF (netF (a, b, c)).fst (netF (a, b, c)).snd.fst (netF (a, b, c)).snd.snd
 (callsTo ((netF (a, b, c)).fst * (netF (a, b, c)).snd.fst) codes x ++
 [(u % ((netF (a, b, c)).fst * (netF (a, b, c)).snd.fst),
 v % ((netF (a, b, c)).fst * (netF (a, b, c)).snd.fst)),
 (u % ((netF (a, b, c)).fst * (netF (a, b, c)).snd.fst), (-1 : Int)),
 (u % ((netF (a, b, c)).fst * (netF (a, b, c)).snd.fst),
 v % ((netF (a, b, c)).fst * (netF (a, b, c)).snd.fst))])).fst.getD
 ((↑(callsTo ((netF (a, b, c)).fst * (netF (a, b, c)).snd.fst) codes x ++
 [(u % ((netF (a, b, c)).fst * (netF (a, b, c)).snd.fst),
 v % ((netF (a, b, c)).fst * (netF (a, b, c)).snd.fst)),
 (u % ((netF (a, b, c)).fst * (netF (a, b, c)).snd.fst), (-1 : Int)),
 (u % ((netF (a, b, c)).fst * (netF (a, b, c)).snd.fst),
 v % ((netF (a, b, c)).fst * (netF (a, b, c)).snd.fst))]).length :
 Int) -
 (3 : Int) +
 (1 : Int)).toNat
 (0 : Int) =
 (serveF (netF (a, b, c)).fst (netF (a, b, c)).snd.fst (netF (a, b, c)).snd.snd
 (callsTo ((netF (a, b, c)).fst * (netF (a, b, c)).snd.fst) codes x ++
 [(u % ((netF (a, b, c)).fst * (netF (a, b, c)).snd.fst),
 v % ((netF (a, b, c)).fst * (netF (a, b, c)).snd.fst)),
 (u % ((netF (a, b, c)).fst * (netF (a, b, c)).snd.fst), (-1 : Int)),
 (u % ((netF (a, b, c)).fst * (netF (a, b, c)).snd.fst),
 v % ((netF (a, b, c)).fst * (netF (a, b, c)).snd.fst))])).fst.getD
 ((↑(callsTo ((netF (a, b, c)).fst * (netF (a, b, c)).snd.fst) codes x ++
 [(u % ((netF (a, b, c)).fst * (netF (a, b, c)).snd.fst),
 v % ((netF (a, b, c)).fst * (netF (a, b, c)).snd.fst)),
 (u % ((netF (a, b, c)).fst * (netF (a, b, c)).snd.fst), (-1 : Int)),
 (u % ((netF (a, b, c)).fst * (netF (a, b, c)).snd.fst),
 v % ((netF (a, b, c)).fst * (netF (a, b, c)).snd.fst))]).length :
 Int) -
 (3 : Int)).toNat
 (0 : Int) ∧
 false = true))))))) := by
 kernel_rfl

end Go.SX.Pa

/- Chapter 06, part 23: the laws PatchClos, PatchBack: their contracts. -/
namespace Go.SX.Pa
open Go Go.Proofs
theorem calls_ok {N : Int} (hN : 1 ≤ N) {codes : List (Int × Int)} (h : ∀ c ∈ codes, Byte2 c) : (k : Nat) → k ≤ codes.length → (callsTo N codes k).length = k ∧ ∀ c ∈ callsTo N codes k, (0 ≤ c.1 ∧ c.1 < N) ∧ -1 ≤ c.2 ∧ c.2 < N
  | 0, _ => ⟨rfl, by simp [callsTo]⟩
  | k + 1, hk => by
    obtain ⟨q1, q2⟩ := calls_ok hN h k (by omega)
    have hB : Byte2 (codes.getD k (0, 0)) := h _ (getD_mem codes (0, 0) (by omega))
    obtain ⟨⟨b1, _⟩, b3, _⟩ := hB
    refine ⟨by rw [callsTo, List.length_append, q1]; rfl, fun c hc => ?_⟩
    rw [callsTo, List.mem_append, List.mem_singleton] at hc
    rcases hc with hc | hc
    · exact q2 c hc
    · rw [hc]
      have h1 := Int.emod_nonneg (codes.getD k (0, 0)).1 (show N ≠ 0 by omega)
      have h2 := Int.emod_lt_of_pos (codes.getD k (0, 0)).1 (show 0 < N by omega)
      have h3 := Int.emod_nonneg (codes.getD k (0, 0)).2 (show N + 1 ≠ 0 by omega)
      have h4 := Int.emod_lt_of_pos (codes.getD k (0, 0)).2 (show 0 < N + 1 by omega)
      simp only
      omega
theorem serve_good {n r m : Int} {cs : List Ed} (hc : ClosP n r m) (h : cs.length ≤ 100) (he : ∀ c ∈ cs, (0 ≤ c.1 ∧ c.1 < n * r) ∧ -1 ≤ c.2 ∧ c.2 < n * r) : serveF n r m cs = (ansTo n m cs cs.length, 0) := by
  unfold serveF
  rw [if_neg (by omega), if_neg (fun c => c hc), if_neg]
  intro hb
  obtain ⟨c, q1, q2⟩ := List.any_eq_true.1 hb
  have := he c q1
  simp [badEv] at q2
  omega
theorem diag_ev {n r m : Int} (hc : ClosP n r m) : ∀ c ∈ diagTo (n * r) n.toNat, (0 ≤ c.1 ∧ c.1 < n * r) ∧ -1 ≤ c.2 ∧ c.2 < n * r := fun c h => by
  obtain ⟨c1, c2, c3, c4⟩ := hc
  have hnr : n * 1 ≤ n * r := Int.mul_le_mul_of_nonneg_left c2.1 (by omega)
  obtain ⟨i, q1, q2⟩ := diag_mem _ h
  rw [q2]
  simp only
  omega
theorem emod_fits {a N : Int} (hN : 1 ≤ N) (h2 : N ≤ 1000) : Fits .i64 (a % N) ∧ 0 ≤ a % N ∧ a % N < N := by
  have h1 := Int.emod_nonneg a (show N ≠ 0 by omega)
  have h2 := Int.emod_lt_of_pos a (show 0 < N by omega)
  exact ⟨fits_i64 (by omega) (by omega), h1, h2⟩

theorem ok15 : p15.OK Tryd.prog := p15.ok C15 (fun _ => cz_ok (cs := [p37.ci, p20.ci, p49.ci, p34.ci, p25.ci]) ⟨PC.OK.ci ok37, PC.OK.ci ok20, PC.OK.ci ok49, PC.OK.ci ok34, PC.OK.ci ok25, trivial⟩ _) (fn := Tryd.f15) rfl (by decide +kernel) rfl fun (p : (Int × Int × Int) × List (Int × Int)) hp => by
  obtain ⟨⟨a, b, c⟩, codes⟩ := p
  refine (g15_eq a b c codes).mpr ?_
  have hp : Byte3 (a, b, c) ∧ codes.length ≤ maxLen ∧ ∀ c ∈ codes, Byte2 c := hp
  obtain ⟨hB, _, hcd⟩ := hp
  simp only [pp1, eq_self, and_true, true_and, and_self, Int.toNat_natCast]
  obtain ⟨hc, hN1, hN2⟩ := net_ok hB
  refine ⟨hB, ?_⟩
  generalize netF (a, b, c) = q at hc hN1 hN2 ⊢
  obtain ⟨n, r, m⟩ := q
  simp only at hc hN1 hN2 ⊢
  have hst : strictF n r m = (decide (2 * n - 1 ≤ m ∨ r = 1 ∧ n ≤ m), 0) := by unfold strictF; rw [if_pos hc]
  have hc' := hc
  obtain ⟨c1, c2, c3, c4⟩ := hc'
  have hnr : n * 1 ≤ n * r := Int.mul_le_mul_of_nonneg_left c2.1 (by omega)
  have fN : Fits .i64 (n * r) := fits_i64 (by omega) (by omega)
  have fN1 : Fits .i64 (n * r - 1) := fits_i64 (by omega) (by omega)
  have fN2 : Fits .i64 (n * r + 1) := fits_i64 (by omega) (by omega)
  have D : (∃ x0 : Nat, x0 ≤ n.toNat ∧ ([] : List Ed) = diagTo (n * r) x0 ∧ (0 : Int) = (x0 : Int)) ∧ ∀ x : Nat, x ≤ n.toNat →
      ((x : Int) < n → Fits .i64 (n * r) ∧ Fits .i64 (n * r - 1) ∧ Fits .i64 (n * r - 1 - (x : Int)) ∧ Small ((diagTo (n * r) x).length + (0 + 1)) ∧ Fits .i64 ((x : Int) + 1) ∧ ∃ x' : Nat, x' ≤ n.toNat ∧ n.toNat - x' < n.toNat - x ∧ diagTo (n * r) x ++ [((x : Int), n * r - 1 - (x : Int))] = diagTo (n * r) x' ∧ (x : Int) + 1 = (x' : Int)) ∧
      (¬ (x : Int) < n → (diagTo (n * r) x).length ≤ 1000 ∧ ((serveF n r m (diagTo (n * r) x)).2 = 0 → (((serveF n r m (diagTo (n * r) x)).1.length : Int) = n → Fits .i64 (n - 1) ∧ (0 ≤ n - 1 ∧ n - 1 < ((serveF n r m (diagTo (n * r) x)).1.length : Nat)) ∧ decide (decide ((serveF n r m (diagTo (n * r) x)).1.getD (n - 1).toNat 0 = -1) = decide (m < n)) = true) ∧ (¬ ((serveF n r m (diagTo (n * r) x)).1.length : Int) = n → false = true)) ∧ (¬ (serveF n r m (diagTo (n * r) x)).2 = 0 → false = true)) := by
    refine ⟨⟨0, by omega, rfl, rfl⟩, fun x hx => ⟨fun h => ⟨fN, fN1, fits_i64 (by omega) (by omega), by rw [diag_length]; unfold Small; omega, fits_nat (by omega), x + 1, by omega, by omega, rfl, by omega⟩, fun h => ?_⟩⟩
    have hx' : x = n.toNat := by omega
    subst hx'
    have hl := diag_length (n * r) n.toNat
    rw [serve_good hc (by omega) (diag_ev hc), hl]
    simp only
    rw [ansTo_length, diag_last hc]
    refine ⟨by omega, fun _ => ⟨fun _ => ⟨fits_i64 (by omega) (by omega), by omega, ?_⟩, fun h => absurd (by omega) h⟩, fun h => absurd trivial h⟩
    by_cases hmn : n - 1 < m
    · rw [if_pos hmn]
      exact decide_eq_true (by rw [decide_eq_false (by omega : ¬ n - 1 = -1), decide_eq_false (by omega : ¬ m < n)])
    · rw [if_neg hmn]
      exact decide_eq_true (by rw [decide_eq_true (rfl : (-1 : Int) = -1), decide_eq_true (by omega : m < n)])
  refine ⟨⟨0, by omega, rfl, rfl⟩, fun x hx => ⟨fun h1 => ⟨fun h2 => ?_, fun h2 => ?_⟩, fun h1 => ?_⟩⟩
  · have hb : Byte2 (codes.getD x (0, 0)) := hcd _ (getD_mem codes (0, 0) (by omega))
    obtain ⟨⟨b1, b2⟩, b3, b4⟩ := hb
    have hl := (calls_ok hN1 hcd x hx.1).1
    have e2 := emod_fits (a := (codes.getD x (0, 0)).2) (N := n * r + 1) (by omega) (by omega)
    exact ⟨by omega, fits_i64 (by omega) (by omega), fN, by omega, by omega, fits_i64 (by omega) (by omega), fN, fN2, by omega, fits_i64 (by omega) (by omega), by rw [hl]; unfold Small; omega, fits_nat (by omega), x + 1, by omega, by omega, rfl, by omega⟩
  all_goals
    obtain ⟨hl, hev⟩ := calls_ok hN1 hcd x hx.1
    have hsv := serve_good hc (by omega) hev
    have hal := ansTo_length n m (callsTo (n * r) codes x) (callsTo (n * r) codes x).length
    have hno := fun hs => clos_all (cs := callsTo (n * r) codes x) hc hs (fun c h => ⟨(hev c h).1, (hev c h).2.2⟩) _ (Nat.le_refl _)
    rw [hst, hsv]
    refine ⟨by omega, fun h => absurd rfl h, fun _ => ⟨fun h => absurd rfl h, fun _ => ⟨fun h => absurd (by simp only; omega) h, fun _ => ⟨fun hs => ⟨by simp only; omega, fun h => absurd (of_decide_eq_true h) (hno (of_decide_eq_true hs)), fun _ => ⟨fun h => (by cases h), fun _ => D⟩⟩, fun _ => ⟨fun h => (by cases h), fun _ => D⟩⟩⟩⟩⟩

theorem app3_get {l : List Ed} {x y z : Ed} : (l ++ [x, y, z]).getD l.length (0, 0) = x ∧ (l ++ [x, y, z]).getD (l.length + 1) (0, 0) = y ∧ (l ++ [x, y, z]).getD (l.length + 2) (0, 0) = z := by
  simp only [List.getD_eq_getElem?_getD]
  refine ⟨?_, ?_, ?_⟩
  · rw [List.getElem?_append_right (by omega), Nat.sub_self]; rfl
  · rw [List.getElem?_append_right (by omega), show l.length + 1 - l.length = 1 by omega]; rfl
  · rw [List.getElem?_append_right (by omega), show l.length + 2 - l.length = 2 by omega]; rfl
theorem ans_get {n m : Int} {cs : List Ed} {i : Nat} : (k : Nat) → i < k → (ansTo n m cs k).getD i 0 = (stepL n m (linesTo n m cs i) (cs.getD i (0, 0))).1
  | k + 1, h => by
    have hl := ansTo_length n m cs k
    rw [ansTo, List.getD_eq_getElem?_getD]
    by_cases e : i < k
    · rw [List.getElem?_append_left (by omega), ← List.getD_eq_getElem?_getD, ans_get k e]
    · have : i = k := by omega
      subst this
      rw [List.getElem?_append_right (by omega), hl, Nat.sub_self]
      rfl
/-- A call, hung up, and once more. -/
theorem back_all {n r m : Int} {l : List Ed} {a b : Int} (he : ∀ c ∈ l, (0 ≤ c.1 ∧ c.1 < n * r) ∧ -1 ≤ c.2 ∧ c.2 < n * r) (hb : 0 ≤ b) {v : Int}
    (hv : (ansTo n m (l ++ [(a, b), (a, -1), (a, b)]) (l.length + 3)).getD l.length 0 = v) (h0 : 0 ≤ v) :
    (ansTo n m (l ++ [(a, b), (a, -1), (a, b)]) (l.length + 3)).getD (l.length + 1) 0 = v ∧ (ansTo n m (l ++ [(a, b), (a, -1), (a, b)]) (l.length + 3)).getD (l.length + 2) 0 = v := by
  obtain ⟨g1, g2, g3⟩ := app3_get (l := l) (x := (a, b)) (y := (a, -1)) (z := (a, b))
  rw [ans_get _ (by omega), g1] at hv
  rw [ans_get _ (by omega), ans_get _ (by omega), g2, g3]
  have hE : LinesOK (n * r) m (linesTo n m (l ++ [(a, b), (a, -1), (a, b)]) l.length) := by
    have : ∀ k, k ≤ l.length → linesTo n m (l ++ [(a, b), (a, -1), (a, b)]) k = linesTo n m l k := by
      intro k
      induction k with
      | zero => intro _; rfl
      | succ k ih =>
        intro hk
        rw [linesTo, linesTo, ih (by omega)]
        have : (l ++ [(a, b), (a, -1), (a, b)]).getD k (0, 0) = l.getD k (0, 0) := by
          rw [List.getD_eq_getElem?_getD, List.getElem?_append_left (by omega), List.getD_eq_getElem?_getD]
        rw [this]
    rw [this _ (Nat.le_refl _)]
    exact (lines_ok (fun c hc => ⟨(he c hc).1, (he c hc).2.2⟩) _ (Nat.le_refl _)).1
  have e1 : linesTo n m (l ++ [(a, b), (a, -1), (a, b)]) (l.length + 1) = (stepL n m (linesTo n m (l ++ [(a, b), (a, -1), (a, b)]) l.length) (a, b)).2 := by rw [linesTo, g1]
  have e2 : linesTo n m (l ++ [(a, b), (a, -1), (a, b)]) (l.length + 2) = (stepL n m (linesTo n m (l ++ [(a, b), (a, -1), (a, b)]) (l.length + 1)) (a, -1)).2 := by
    rw [show l.length + 2 = (l.length + 1) + 1 from rfl, linesTo, g2]
  generalize linesTo n m (l ++ [(a, b), (a, -1), (a, b)]) l.length = E at hv hE e1
  have hs : stepL n m E (a, b) = (v, (stepL n m E (a, b)).2) := by rw [← hv]
  have hk := back_ok hb hs h0 hE
  rw [e2, e1, hk]
  exact ⟨rfl, hv⟩

theorem ok16 : p16.OK Tryd.prog := p16.ok C16 (fun _ => cz_ok (cs := [p37.ci, p49.ci, p25.ci]) ⟨PC.OK.ci ok37, PC.OK.ci ok49, PC.OK.ci ok25, trivial⟩ _) (fn := Tryd.f16) rfl (by decide +kernel) rfl fun (p : (Int × Int × Int) × List (Int × Int) × Int × Int) hp => by
  obtain ⟨⟨a, b, c⟩, codes, u, v⟩ := p
  refine (g16_eq a b c codes u v).mpr ?_
  have hp : Byte3 (a, b, c) ∧ (codes.length ≤ maxLen ∧ ∀ c ∈ codes, Byte2 c) ∧ Byte2 (u, v) := hp
  obtain ⟨hB, ⟨_, hcd⟩, hE⟩ := hp
  have hE : (0 ≤ u ∧ u ≤ 255) ∧ 0 ≤ v ∧ v ≤ 255 := hE
  simp only [pp1, eq_self, and_true, true_and, and_self, Int.toNat_natCast]
  obtain ⟨hc, hN1, hN2⟩ := net_ok hB
  refine ⟨hB, ?_⟩
  generalize netF (a, b, c) = q at hc hN1 hN2 ⊢
  obtain ⟨n, r, m⟩ := q
  simp only at hc hN1 hN2 ⊢
  have hc' := hc
  obtain ⟨c1, c2, c3, c4⟩ := hc'
  have fN : Fits .i64 (n * r) := fits_i64 (by omega) (by omega)
  have fN2 : Fits .i64 (n * r + 1) := fits_i64 (by omega) (by omega)
  have eu := emod_fits (a := u) (N := n * r) (by omega) (by omega)
  have ev := emod_fits (a := v) (N := n * r) (by omega) (by omega)
  refine ⟨⟨0, by omega, rfl, rfl⟩, fun x hx => ⟨fun h1 => ⟨fun h2 => ?_, fun h2 => ?_⟩, fun h1 => ?_⟩⟩
  · have hb : Byte2 (codes.getD x (0, 0)) := hcd _ (getD_mem codes (0, 0) (by omega))
    obtain ⟨⟨b1, b2⟩, b3, b4⟩ := hb
    have hl := (calls_ok hN1 hcd x hx.1).1
    have e2 := emod_fits (a := (codes.getD x (0, 0)).2) (N := n * r + 1) (by omega) (by omega)
    exact ⟨by omega, fits_i64 (by omega) (by omega), fN, by omega, by omega, fits_i64 (by omega) (by omega), fN, fN2, by omega, fits_i64 (by omega) (by omega), by rw [hl]; unfold Small; omega, fits_nat (by omega), x + 1, by omega, by omega, rfl, by omega⟩
  all_goals
    obtain ⟨hl, hev⟩ := calls_ok hN1 hcd x hx.1
    have hcl : (callsTo (n * r) codes x ++ [(u % (n * r), v % (n * r)), (u % (n * r), -1), (u % (n * r), v % (n * r))]).length = x + 3 := by rw [List.length_append, hl]; rfl
    have hev2 : ∀ c ∈ callsTo (n * r) codes x ++ [(u % (n * r), v % (n * r)), (u % (n * r), -1), (u % (n * r), v % (n * r))], (0 ≤ c.1 ∧ c.1 < n * r) ∧ -1 ≤ c.2 ∧ c.2 < n * r := fun c h => by
      rcases List.mem_append.1 h with h | h
      · exact hev c h
      · simp only [List.mem_cons, List.not_mem_nil, or_false] at h
        rcases h with h | h | h <;> rw [h] <;> simp only <;> omega
    have hsv := serve_good hc (by omega) hev2
    have hal := ansTo_length n m (callsTo (n * r) codes x ++ [(u % (n * r), v % (n * r)), (u % (n * r), -1), (u % (n * r), v % (n * r))]) (x + 3)
    have hbk := fun (w : Int) => back_all (m := m) (a := u % (n * r)) (b := v % (n * r)) (v := w) hev ev.2.1
    rw [hcl] at hsv
    rw [hl] at hbk
    rw [hsv, hcl]
    have i0 : (((x + 3 : Nat) : Int) - 3).toNat = x := by omega
    have i1 : (((x + 3 : Nat) : Int) - 3 + 1).toNat = x + 1 := by omega
    have i2 : (((x + 3 : Nat) : Int) - 3 + 2).toNat = x + 2 := by omega
    simp only [hal, i0, i1, i2]
    generalize ansTo n m (callsTo (n * r) codes x ++ [(u % (n * r), v % (n * r)), (u % (n * r), -1), (u % (n * r), v % (n * r))]) (x + 3) = A at hbk ⊢
    refine ⟨fits_i64 (by omega) (by omega), fN, by omega, fits_i64 (by omega) (by omega), fN, by omega, by rw [hl]; unfold Small; omega, by omega, fits_i64 (by omega) (by omega), ?_⟩
    by_cases h0 : A.getD x 0 < 0
    · have hz : ¬ 0 ≤ A[x]?.getD 0 := by rw [← List.getD_eq_getElem?_getD]; omega
      simp [hz]
      omega
    · obtain ⟨b1, b2⟩ := hbk _ rfl (by omega)
      rw [b1, b2]
      have f1 : Fits .i64 ((x : Int) + 1) := fits_i64 (by omega) (by omega)
      have f2 : Fits .i64 ((x : Int) + 2) := fits_i64 (by omega) (by omega)
      simp
      exact ⟨by omega, fun _ => ⟨f1, by omega, by omega, f2, by omega, by omega⟩⟩
end Go.SX.Pa
